/-
  LoadText: the reference's text. No conditions.
-/
import Derived.Test.YtgnhfkbjojnjnaaDoorLtP
namespace Go.Proofs.YtgnhfkbjojnjnaaDoor
open Go.RowKit

set_option maxRecDepth 100000 in
set_option maxHeartbeats 4000000 in
theorem specLoadText_any (s : ByteArray) (xs : List Thing) (A : Option Addr) (n c : Nat) (w : World) (hz : s.size ≤ maxLen) (hn : (n : Int) ≤ 9223372036854775807) (hs : Sl w A n xs) (hv : ∀ x, x ∈ xs → x.Name.size ≤ maxLen) :
    Calls Tryd.prog 5 #[.agg #[.string s, .slice A n c]] w fun e w' => e = .returned (.tuple #[.string (ltF s xs).1, .bool (ltF s xs).2]) ∧ Below w.heap.size w w' := by
  have HV := Lib.hid hv
  have HL := Lib.hid hs.1
  clear hv
  go_enter Tryd.func5, Tryd.ntmps5
  go_wp2_with fail
  refine (eqLd_any s xs _ _ _ _ hz hn (hs.below (bl_alloc (bl_refl _) _)) HV.out).mono ?_
  rintro e V1 ⟨rfl, hb1⟩
  have hk1 := bl_trans (a := w) (bl_alloc (bl_refl _) _) hb1
  have y0 : V1.cell? ⟨w.heap.size, 0, none⟩ = some (.string s) := cell_later hb1 (by go_simp)
  have y1 : V1.cell? ⟨w.heap.size, 1, none⟩ = some (.slice A n c) := cell_later hb1 (by go_simp)
  clear hb1
  cases h0 : loadB s xs
  · have Hz := Lib.hid (ltF_no h0)
    clear h0
    go_wp2
    go_ret2
    exact ⟨ret_sbl Hz.out rfl, hk1⟩
  have hth := loadB_things h0
  have hs6 : s.size ≤ 6 := by
    have h := h0
    unfold loadB at h
    simp only [Bool.and_eq_true] at h
    exact nameB_size h.1
  have HZ := Lib.hid (ltF_yes h0)
  have HB : Hid (∀ k, k < xs.length → (nth xs k).Name.size ≤ 8 ∧ (1 ≤ (nth xs k).Count ∧ (nth xs k).Count ≤ 99) ∧ (0 ≤ (nth xs k).Day ∧ (nth xs k).Day ≤ 9999)) := fun k hk => thing_bd hth hk
  have HLn := Lib.hid (loadTx_len hs6 hth)
  have hn12 : n ≤ 12 := by have := thingsB_len hth; have := HL.out; omega
  clear h0 hth
  go_wp2
  go_loopw [4, 16] (fun tv iv wr => ∃ i : Nat, i ≤ n ∧ iv = .int .i64 i ∧ tv = .string (loadTx s xs i) ∧ Below w.heap.size w wr) (fun _ iv _ => n - (intOf iv).toNat)
  case atStart => exact ⟨0, Nat.zero_le _, rfl, rfl, hk1⟩
  case round =>
    obtain ⟨i, hi, rfl, rfl, hb⟩ := hrel
    by_cases hlt : i < n
    · obtain ⟨b, o, rfl, hbz, c0, c1, c2⟩ := (hs.below hb).thing hlt
      clear hs y0 y1
      obtain ⟨a0, ⟨a1, a2⟩, a3, a4⟩ := HB.out i (by rw [HL.out]; exact hlt)
      have hp := piece_len (t := nth xs i) a0 ⟨a1, a2⟩ ⟨a3, a4⟩
      have ht := HLn.out i (by rw [HL.out]; omega)
      have hs1 := it_len (n := (nth xs i).Count) (by omega) 1 (by omega)
      have hs2 := it_len (n := (nth xs i).Day) (by omega) 3 (by omega)
      have HX1 : Hid (loadTx s xs (i + 1) = loadTx s xs i ++ (⟨#[32]⟩ ++ (nth xs i).Name ++ ⟨#[42]⟩ ++ itB (nth xs i).Count ++ ⟨#[64]⟩ ++ itB (nth xs i).Day)) := rfl
      obtain ⟨T, hT⟩ : ∃ T, T = loadTx s xs i := ⟨_, rfl⟩
      rw [← hT] at ht HX1 ⊢
      clear hT hp
      go_wp2_with fail
      refine wp_region_grow (by kernel_rfl) (by kernel_rfl) (fun X hX => ?_)
      have hbX : Below wr.heap.size wr X := by rw [hX]; exact bl_alloc (bl_refl _) _
      have q0 : ∀ g : Gw X, g.val.cell? ⟨wr.heap.size, 0, none⟩ = some (.string (nth xs i).Name) := Gw.cell (by rw [hX]; go_simp)
      have q1 : ∀ g : Gw X, g.val.cell? ⟨wr.heap.size, 1, none⟩ = some (.int .i64 (nth xs i).Count) := Gw.cell (by rw [hX]; go_simp)
      have q2 : ∀ g : Gw X, g.val.cell? ⟨wr.heap.size, 2, none⟩ = some (.int .i64 (nth xs i).Day) := Gw.cell (by rw [hX]; go_simp)
      have HX := Lib.hid hX
      clear hX
      repeat (go_big_quiet_step (exact Calls.grow_of (l1Num_any _ _ (by omega) (by omega))))
      refine wpGrow_nil (fun V hV => ?_)
      have hbV := bl_trans hb (bl_trans hbX hV)
      clear q0 q1 q2 hV hbX
      go_wp2
      go_roundw
      case rel => exact ⟨i + 1, by omega, by go_num, by rw [HX1.out], hbV⟩
      case measure => simp [intOf]; omega
    · obtain hin : i = n := by omega
      have HF : Hid (loadTx s xs i = loadTx s xs xs.length) := by rw [Hid, hin, HL.out]
      clear hs
      go_wp2
      go_ret2
      exact ⟨ret_sbl HZ.out HF.out.symm, hb⟩

end Go.Proofs.YtgnhfkbjojnjnaaDoor
