/-
  LostStates: the reference's text. No conditions.
-/
import Derived.Test.YtadkhmlpmdcbpaaDoorJnLo
namespace Go.Proofs.YtadkhmlpmdcbpaaDoor
open Go.RowKit

set_option maxRecDepth 100000 in
set_option maxHeartbeats 4000000 in
theorem specLostStates_any (d : Diary) (k : Int) (w : World) (hz : d.Safe.size + d.Open.size ≤ 1048576) :
    Calls Tryd.prog 8 #[.agg #[.string d.Safe, .string d.Open], .int .i64 k] w (RetOwn2 w 40 (loF d k)) := by
  obtain ⟨m, hm⟩ : ∃ m, m = keptN d k := ⟨_, rfl⟩
  obtain ⟨L, hL⟩ : ∃ L, L = statesB d.Safe d.Open := ⟨_, rfl⟩
  have hLl : L.length ≤ 40 := by rw [hL]; exact states_len _ _
  have hmL : m ≤ L.length := by rw [hm, hL]; exact kept_le
  have HM := Lib.hid hm
  have HL := Lib.hid hL
  clear hm hL
  go_enter Tryd.func8, Tryd.ntmps8
  have hk0 := bl_refl w
  have hcr : ∀ b, (crF d k).2 = b → (crF d k) = ((crF d k).1, b) := fun b h => by rw [← h]
  have HCR := Lib.hid hcr
  clear hcr
  go_wp2_with fail
  refine (specCrashDiary_any d k _ hz).mono ?_
  rintro e V1 ⟨rfl, hb1⟩
  have hB1 := bl_trans (a := w) (by repeat' (first | exact bl_refl _ | refine bl_alloc ?_ _ | refine bl_drew ?_ | refine bl_drewN ?_ _ | refine bl_set ?_ ?_ _ | (simp; done) | (simp; omega))) hb1
  have hk1 := bl_trans hk0 hB1
  have z1 : Hid (w.heap.size + 1 ≤ V1.heap.size) := by have := hb1.size; simp only [World.size_alloc] at this; exact (by omega : _)
  have ba_0_1 : V1.cell? ⟨w.heap.size, 0, none⟩ = some (.string d.Safe) := cell_later hb1 (by go_simp)
  have ba_1_1 : V1.cell? ⟨w.heap.size, 1, none⟩ = some (.string d.Open) := cell_later hb1 (by go_simp)
  have la_1 : w.heap.size < V1.heap.size := World.block_lt_of_cell? _ _ ba_0_1
  clear hb1
  cases h : openB d.Safe d.Open
  · have HO := Lib.hid h
    rw [crF_no h]
    clear h
    have q := Lib.hid (loF_no (k := k) HO.out)
    skip
    go_wp2
    go_ret2
    exact retOwn2_mk q.out (Own.nil _ _ _) hk1
  · cases h1 : inB k 0 d.Open.size
    · have HO := Lib.hid h
      rw [crF_out h1]
      clear h
      have q := Lib.hid (loF_out (d := d) h1)
      clear h1
      go_wp2
      go_ret2
      exact retOwn2_mk q.out (Own.nil _ _ _) hk1
    · have q : Hid (loF d k = (L.drop m, true)) := by rw [Hid, loF_yes h h1, HM.out, HL.out]
      rw [crF_yes h h1]
      have h3 := h
      rw [open_spec] at h3
      simp only [Bool.and_eq_true, decide_eq_true_eq] at h3
      obtain ⟨⟨⟨s1, s2⟩, _⟩, _⟩ := h3
      obtain ⟨g0, g1⟩ := inB_iff.1 h1
      have hzt : (d.Safe ++ d.Open.extract 0 k.toNat).size ≤ 1048576 := by rw [ba_size_app]; have := ex_size d.Open (f := 0) (k := k.toNat) (by omega); omega
      clear h h1
      obtain ⟨M, hM⟩ : ∃ M, M = (rd 40 0 (d.Safe ++ d.Open.extract 0 k.toNat).data.toList).1 := ⟨_, rfl⟩
      have hMm : M.length = m := by rw [hM]; exact HM.out.symm
      have HMM := Lib.hid hM
      clear hM
      go_wp2_with fail
      refine (jnRead_any _ _ hzt).mono ?_
      rintro e V2 ⟨A2, c2, rfl, ho2, hb2⟩
      have hB2 := bl_trans (a := V1) (bl_refl _) hb2
      have hk2 := bl_trans hk1 hB2
      have z2 := Lib.hid hB2.size
      have ba_0_2 : V2.cell? ⟨w.heap.size, 0, none⟩ = some (.string d.Safe) := cell_later hB2 ba_0_1
      have ba_1_2 : V2.cell? ⟨w.heap.size, 1, none⟩ = some (.string d.Open) := cell_later hB2 ba_1_1
      have la_2 : w.heap.size < V2.heap.size := World.block_lt_of_cell? _ _ ba_0_2
      clear hk1 ba_0_1 ba_1_1 la_1
      rw [← HMM.out, hMm]
      clear hb2 ho2 hMm
      go_wp2_with fail
      refine (jnStates_any d _ s1 s2).mono ?_
      rintro e V3 ⟨A9, c9, rfl, ho9, hb3⟩
      have hbt := (Own.built (α := State) V2 40 (base := w.heap.size) hk2.size).below hb3
      have hB3 := bl_trans (a := V2) (by repeat' (first | exact bl_refl _ | refine bl_alloc ?_ _ | refine bl_drew ?_ | refine bl_drewN ?_ _ | refine bl_set ?_ ?_ _ | (simp; done) | (simp; omega))) hb3
      have hk3 := bl_trans hk2 hB3
      have z3 := Lib.hid hB3.size
      have ba_0_3 : V3.cell? ⟨w.heap.size, 0, none⟩ = some (.string d.Safe) := cell_later hB3 ba_0_2
      have ba_1_3 : V3.cell? ⟨w.heap.size, 1, none⟩ = some (.string d.Open) := cell_later hB3 ba_1_2
      have la_3 : w.heap.size < V3.heap.size := World.block_lt_of_cell? _ _ ba_0_3
      clear hk2 ba_0_2 ba_1_2 la_2
      clear hb3
      rw [← HL.out] at ho9 ⊢
      rcases ho9.kind with ⟨rfl, hn0, rfl, hnil⟩ | ⟨g, rfl, hnc, hcm⟩
      · obtain rfl : m = 0 := by omega
        have hL0 := Lib.hid hnil
        clear hnil
        have q2 : Hid (loF d k = ([], true)) := by rw [Hid, q.out, hL0.out, List.drop_nil]
        clear q
        go_wp2
        go_ret2
        exact retOwn2_mk q2.out hbt hk3
      · by_cases hcm2 : c9 = m
        · have hLm : L.length = m := by omega
          have q2 : Hid (loF d k = ([], true)) := by rw [Hid, q.out, List.drop_of_length_le (by omega)]
          clear q
          go_wp2
          go_ret2
          exact retOwn2_mk q2.out hbt hk3
        · have hsd := ho9.sl.drop (m := m)
          rw [Nat.zero_add] at hsd
          have hl9 := ho9.sl.1
          have hdl : (L.drop m).length = L.length - m := List.length_drop
          clear ho9 hl9
          go_wp2_with ((at_builtin; refine wpList_appN rfl (.tmp 23) (.tmp 28) _ _ rfl el_state (xs := []) (ys := L.drop m) rfl hbt hk3 rfl hsd (by omega) ?_; intro A3 c3 w3 ho3 hb3 hg3))
          go_ret2
          exact retOwn2_mk q.out (by simpa using ho3) hb3

end Go.Proofs.YtadkhmlpmdcbpaaDoor
