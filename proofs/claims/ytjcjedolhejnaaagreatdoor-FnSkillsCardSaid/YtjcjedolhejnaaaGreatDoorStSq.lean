/-
  SkillsText: the reference's text. No conditions.
-/
import Derived.Test.YtjcjedolhejnaaaGreatDoorStPq
namespace Go.Proofs.YtjcjedolhejnaaaGreatDoor
open Go.RowKit

set_option maxRecDepth 100000 in
set_option maxHeartbeats 4000000 in
theorem drText_any (xs : List Skill) (A : Option Addr) (n c : Nat) (w : World) (hs : Sl w A n xs) (hv : skillsB xs = true) :
    Calls Tryz.prog 62 #[.slice A n c] w fun e w' => e = .returned (.string (skText xs xs.length)) ∧ Below w.heap.size w w' := by
  have HL := Lib.hid hs.1
  obtain ⟨h24, hbd⟩ := skills_bd hv
  have HB := Lib.hid hbd
  have HLn := Lib.hid (skText_len hv)
  have hn24 : n ≤ 24 := by have := HL.out; omega
  clear hv hbd
  go_enter Tryz.func62, Tryz.ntmps62
  go_wp2
  go_loopw [3, 8] (fun tv iv wr => ∃ i : Nat, i ≤ n ∧ iv = .int .i64 i ∧ tv = .string (skText xs i) ∧ Below w.heap.size w wr) (fun _ iv _ => n - (intOf iv).toNat)
  case atStart => exact ⟨0, Nat.zero_le _, rfl, rfl, bl_refl _⟩
  case round =>
    obtain ⟨i, hi, rfl, rfl, hb⟩ := hrel
    by_cases hlt : i < n
    · obtain ⟨b, o, rfl, hbz, c0, c1, c2⟩ := (hs.below hb).skill hlt
      clear hs
      obtain ⟨a0, ⟨a1, a2⟩, a3, a4⟩ := HB.out i (by rw [HL.out]; exact hlt)
      have hp := pieceK_len (x := nth xs i) a0 ⟨a1, a2⟩ ⟨a3, a4⟩
      have ht := HLn.out i (by rw [HL.out]; omega)
      have hs1 := it_len (n := (nth xs i).Kind) (by omega) 0 (by omega)
      have hs2 := it_len (n := (nth xs i).Until) (by omega) 4 (by omega)
      have HX1 : Hid (skText xs (i + 1) = skText xs i ++ ((nth xs i).Person ++ ⟨#[47]⟩ ++ itB (nth xs i).Kind ++ ⟨#[47]⟩ ++ itB (nth xs i).Until ++ ⟨#[59]⟩)) := by rw [Hid]; show skText xs i ++ pieceK (nth xs i) = _; rfl
      obtain ⟨T, hT0⟩ : ∃ T, T = skText xs i := ⟨_, rfl⟩
      rw [← hT0] at ht HX1 ⊢
      clear hT0 hp
      go_wp2_with fail
      refine wp_region_grow (by kernel_rfl) (by kernel_rfl) (fun X hX => ?_)
      have hbX : Below wr.heap.size wr X := by rw [hX]; exact bl_alloc (bl_refl _) _
      have q0 : ∀ g : Gw X, g.val.cell? ⟨wr.heap.size, 0, none⟩ = some (.string (nth xs i).Person) := Gw.cell (by rw [hX]; go_simp)
      have q1 : ∀ g : Gw X, g.val.cell? ⟨wr.heap.size, 1, none⟩ = some (.int .i64 (nth xs i).Kind) := Gw.cell (by rw [hX]; go_simp)
      have q2 : ∀ g : Gw X, g.val.cell? ⟨wr.heap.size, 2, none⟩ = some (.int .i64 (nth xs i).Until) := Gw.cell (by rw [hX]; go_simp)
      have HX := Lib.hid hX
      clear hX
      repeat (go_big_quiet_step (exact Calls.grow_of (l1Num_any _ _ (by omega) (by omega))))
      refine wpGrow_nil (fun V hV => ?_)
      have hbV := bl_trans hb (bl_trans hbX hV)
      clear q0 q1 q2 hV hbX
      go_wp2
      go_roundw
      case rel => exact ⟨i + 1, by omega, by go_num, by rw [HX1.out], hbV⟩
      case measure => simp [intOf]; omega
    · obtain hin : i = n := by omega
      have HF : Hid (skText xs i = skText xs xs.length) := by rw [Hid, hin, HL.out]
      clear hs
      go_wp2
      go_ret
      exact ⟨congrArg (fun b => Ending.returned (.string b)) HF.out, hb⟩
set_option maxHeartbeats 1000000 in
theorem specSkillsText_any (xs : List Skill) (A : Option Addr) (n c : Nat) (w : World) (hn : (n : Int) ≤ 9223372036854775807) (hs : Sl w A n xs) (hv : ∀ x, x ∈ xs → x.Person.size ≤ maxLen) :
    Calls Tryz.prog 25 #[.slice A n c] w fun e w' => e = .returned (.tuple #[.string (stF xs).1, .bool (stF xs).2]) ∧ Below w.heap.size w w' := by
  have HV := Lib.hid hv
  clear hv
  go_enter Tryz.func25, Tryz.ntmps25
  go_wp2_with fail
  refine (drGood_any xs _ _ _ _ hn hs HV.out).mono ?_
  rintro e V1 ⟨rfl, hb1⟩
  cases h0 : skillsB xs
  · have Hz := Lib.hid (stF_no h0)
    clear h0
    go_wp2
    go_ret2
    exact ⟨ret_stb Hz.out rfl, hb1⟩
  have HZ := Lib.hid (stF_yes h0)
  have H0 := Lib.hid h0
  clear h0
  go_wp2_with fail
  refine (drText_any xs _ _ _ _ (hs.below hb1) H0.out).mono ?_
  rintro e V2 ⟨rfl, hb2⟩
  have hk := bl_trans hb1 hb2
  go_wp2
  go_ret2
  exact ⟨ret_stb HZ.out rfl, hk⟩

end Go.Proofs.YtjcjedolhejnaaaGreatDoor
