/-
  SkillsText: the program's text. No conditions.
-/
import Derived.Test.YtjjmiapopjaoeaaDoorStPq
import Derived.Test.YtjjmiapopjaoeaaDoorJoNq
namespace Go.Proofs.YtjjmiapopjaoeaaDoor
open Go.RowKit

set_option maxRecDepth 100000 in
set_option maxHeartbeats 4000000 in
theorem skillsText_any (xs : List Skill) (A : Option Addr) (n c : Nat) (w : World) (hs : Sl w A n xs) (hv : skillsB xs = true) (he : Tab w) :
    Calls Tryd.prog 18 #[.slice A n c] w fun e w' => e = .returned (.string (skText xs xs.length)) ∧ Below w.heap.size w w' := by
  have HL := Lib.hid hs.1
  obtain ⟨h24, hbd⟩ := skills_bd hv
  have HB := Lib.hid hbd
  have HLn := Lib.hid (skText_len hv)
  have hn24 : n ≤ 24 := by have := HL.out; omega
  clear hv hbd
  go_enter Tryd.func18, Tryd.ntmps18
  go_wp2
  go_loopw [3, 8] (fun tv iv wr => ∃ i : Nat, i ≤ n ∧ iv = .int .i64 i ∧ tv = .string (skText xs i) ∧ Below w.heap.size w wr) (fun _ iv _ => n - (intOf iv).toNat)
  case atStart => exact ⟨0, Nat.zero_le _, rfl, rfl, bl_refl _⟩
  case round =>
    obtain ⟨i, hi, rfl, rfl, hb⟩ := hrel
    by_cases hlt : i < n
    · obtain ⟨b, o, rfl, hbz, c0, c1, c2⟩ := (hs.below hb).skill hlt
      clear hs
      obtain ⟨a0, ⟨a1, a2⟩, a3, a4⟩ := HB.out i (by rw [HL.out]; exact hlt)
      have hp := pieceK_len (x := nth xs i) a0 ⟨a1, a2⟩ ⟨a3, a4⟩
      have ht := HLn.out i (by rw [HL.out]; omega)
      have hs1 := it_len (n := (nth xs i).Kind) (by omega) 0 (by omega)
      have hs2 := it_len (n := (nth xs i).Until) (by omega) 4 (by omega)
      have HX1 : Hid (skText xs (i + 1) = skText xs i ++ ((nth xs i).Person ++ ⟨#[47]⟩ ++ (itB (nth xs i).Kind ++ ⟨#[47]⟩ ++ itB (nth xs i).Until) ++ ⟨#[59]⟩)) := by rw [Hid]; show skText xs i ++ pieceK (nth xs i) = _; rw [pieceK_impl]
      obtain ⟨T, hT0⟩ : ∃ T, T = skText xs i := ⟨_, rfl⟩
      rw [← hT0] at ht HX1 ⊢
      clear hT0 hp
      go_wp2_with fail
      refine wp_hide (R := fun X => Below wr.heap.size wr X ∧ wr.heap.size < X.heap.size ∧ X.cell? ⟨wr.heap.size, 0, none⟩ = some (.string (nth xs i).Person) ∧ X.cell? ⟨wr.heap.size, 1, none⟩ = some (.int .i64 (nth xs i).Kind) ∧ X.cell? ⟨wr.heap.size, 2, none⟩ = some (.int .i64 (nth xs i).Until)) ⟨bl_alloc (bl_refl _) _, by simp, by go_simp, by go_simp, by go_simp⟩ (fun X ⟨hbX, hXz, e0, e1, e2⟩ => ?_)
      have hX := bl_trans hb hbX
      have hT := Lib.hid (he.below hX)
      have hD := bl_drew (bl_refl X)
      have g1 : ¬ 9223372036854775807 < (nth xs i).Person.size + 1 := by omega
      have g2 : ¬ 9223372036854775807 < (nth xs i).Person.size + 1 + ((itB (nth xs i).Kind).size + 1 + (itB (nth xs i).Until).size) := by omega
      have g3 : ¬ 9223372036854775807 < (nth xs i).Person.size + 1 + ((itB (nth xs i).Kind).size + 1 + (itB (nth xs i).Until).size) + 1 := by omega
      have g4 : ¬ 9223372036854775807 < T.size + ((nth xs i).Person.size + 1 + ((itB (nth xs i).Kind).size + 1 + (itB (nth xs i).Until).size) + 1) := by omega
      clear he hbX
      go_region_held3 (fun w' => w'.cell? ⟨wr.heap.size, 0, none⟩ = some (.string (nth xs i).Person) ∧ w'.cell? ⟨wr.heap.size, 1, none⟩ = some (.int .i64 (nth xs i).Kind) ∧ w'.cell? ⟨wr.heap.size, 2, none⟩ = some (.int .i64 (nth xs i).Until) ∧ Below X.heap.size X w')
        (first | exact ⟨cell_later hE e0, cell_later hE e1, cell_later hE e2, hE⟩ | exact ⟨cell_later (bl_alloc hD _) e0, cell_later (bl_alloc hD _) e1, cell_later (bl_alloc hD _) e2, bl_alloc hD _⟩ | exact ⟨cell_later hD e0, cell_later hD e1, cell_later hD e2, hD⟩)
        (first | (go_at_call 32; refine (join2_any ⟨#[47]⟩ (nth xs i).Kind (nth xs i).Until _ (by go_simp) (by go_simp) ⟨by omega, by omega⟩ ⟨by omega, by omega⟩ (by decide) (hT.out.below (bl_alloc hD _))).mono ?_; rintro e V ⟨rfl, hb9⟩; have hE := bl_trans (bl_alloc hD _) hb9; clear hb9))
      have hbV := bl_trans hX hE
      go_wp2
      go_roundw
      case rel => exact ⟨i + 1, by omega, by go_num, by rw [HX1.out], hbV⟩
      case measure => simp [intOf]; omega
    · obtain hin : i = n := by omega
      have HF : Hid (skText xs i = skText xs xs.length) := by rw [Hid, hin, HL.out]
      clear hs
      go_wp2
      go_ret
      exact ⟨congrArg (fun b => Ending.returned (.string b)) HF.out, hb⟩
end Go.Proofs.YtjjmiapopjaoeaaDoor
