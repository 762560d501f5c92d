/-
  LostStates: the program's text. No conditions.
-/
import Derived.Deep.RegionHeld3
import Derived.Test.YtadkhmlpmdcbpaaDoorJnLo
namespace Go.Proofs.YtadkhmlpmdcbpaaDoor
open Go.RowKit

set_option maxRecDepth 100000 in
set_option maxHeartbeats 4000000 in
theorem implLostStates_any (d : Diary) (k : Int) (w : World) (hz : d.Safe.size + d.Open.size ≤ 1048576) (he : Env w) :
    Calls Tryd.prog 7 #[.agg #[.string d.Safe, .string d.Open], .int .i64 k] w (RetOwn2 w 40 (loF d k)) := by
  obtain ⟨m, hm⟩ : ∃ m, m = keptN d k := ⟨_, rfl⟩
  obtain ⟨L, hL⟩ : ∃ L, L = statesB d.Safe d.Open := ⟨_, rfl⟩
  have hLl : L.length ≤ 40 := by rw [hL]; exact states_len _ _
  have hmL : m ≤ L.length := by rw [hm, hL]; exact kept_le
  have HM := Lib.hid hm
  have HL := Lib.hid hL
  clear hm hL
  go_enter Tryd.func7, Tryd.ntmps7
  have hk0 := bl_refl w
  cases h : openB d.Safe d.Open
  · have HH := Lib.hid h
    clear h
    go_wp2_with fail
    refine (statesOf_no d _ hz (he.below (bl_trans hk0 (by repeat' (first | exact bl_refl _ | refine bl_alloc ?_ _ | refine bl_drew ?_ | refine bl_drewN ?_ _ | refine bl_set ?_ ?_ _ | (simp; done) | (simp; omega))))) HH.out).mono ?_
    rintro e V1 ⟨A1, c1, rfl, hb1⟩
    have hB1 := bl_trans (a := w) (by repeat' (first | exact bl_refl _ | refine bl_alloc ?_ _ | refine bl_drew ?_ | refine bl_drewN ?_ _ | refine bl_set ?_ ?_ _ | (simp; done) | (simp; omega))) hb1
    have hk1 := bl_trans hk0 hB1
    have z1 : Hid (w.heap.size + 1 ≤ V1.heap.size) := by have := hb1.size; simp only [World.size_alloc] at this; exact (by omega : _)
    have ba_0_1 : V1.cell? ⟨w.heap.size, 0, none⟩ = some (.string d.Safe) := cell_later hb1 (by go_simp)
    have ba_1_1 : V1.cell? ⟨w.heap.size, 1, none⟩ = some (.string d.Open) := cell_later hb1 (by go_simp)
    have la_1 : w.heap.size < V1.heap.size := World.block_lt_of_cell? _ _ ba_0_1
    clear hb1
    have h := HH.out
    have q := Lib.hid (loF_no (k := k) h)
    clear h
    go_wp2
    go_ret2
    exact retOwn2_mk q.out (Own.nil _ _ _) hk1
  · have HH := Lib.hid h
    clear h
    go_wp2_with fail
    refine (statesOf_yes d _ hz (he.below (bl_trans hk0 (by repeat' (first | exact bl_refl _ | refine bl_alloc ?_ _ | refine bl_drew ?_ | refine bl_drewN ?_ _ | refine bl_set ?_ ?_ _ | (simp; done) | (simp; omega))))) HH.out).mono ?_
    rintro e V2 ⟨A1, c1, rfl, ho1, hb2⟩
    have hB2 := bl_trans (a := w) (by repeat' (first | exact bl_refl _ | refine bl_alloc ?_ _ | refine bl_drew ?_ | refine bl_drewN ?_ _ | refine bl_set ?_ ?_ _ | (simp; done) | (simp; omega))) hb2
    have hk2 := bl_trans hk0 hB2
    have z2 : Hid (w.heap.size + 1 ≤ V2.heap.size) := by have := hb2.size; simp only [World.size_alloc] at this; exact (by omega : _)
    have ba_0_2 : V2.cell? ⟨w.heap.size, 0, none⟩ = some (.string d.Safe) := cell_later hb2 (by go_simp)
    have ba_1_2 : V2.cell? ⟨w.heap.size, 1, none⟩ = some (.string d.Open) := cell_later hb2 (by go_simp)
    have la_2 : w.heap.size < V2.heap.size := World.block_lt_of_cell? _ _ ba_0_2
    clear hb2
    have h := HH.out
    have HO := Lib.hid h
    rw [← HL.out] at ho1 ⊢
    clear h
    have o9 := ho1.mono (show w.heap.size ≤ _ by simp)
    clear ho1
    go_wp2_with fail
    refine (inside_any k 0 d.Open.size _).mono ?_
    rintro _ V2 ⟨rfl, rfl⟩
    cases h1 : inB k 0 d.Open.size
    · have q := Lib.hid (loF_out (d := d) h1)
      clear h1
      go_wp2
      go_ret2
      exact retOwn2_mk q.out (Own.nil _ _ _) hk2
    · have q : Hid (loF d k = (L.drop m, true)) := by rw [Hid, loF_yes HO.out h1, HM.out, HL.out]
      obtain ⟨g0, g1⟩ := inB_iff.1 h1
      have hsx := ex_size d.Open (f := 0) (k := k.toNat) (by omega)
      have hzt : (d.Safe ++ d.Open.extract 0 k.toNat).size ≤ 1048576 := by rw [ba_size_app]; omega
      have hadd : ¬ (9223372036854775807 < d.Safe.size + min k.toNat d.Open.size) := by omega
      have hadd2 : ¬ (9223372036854775807 < d.Safe.size + (d.Open.extract 0 k.toNat).size) := by omega
      have hadd3 : ¬ (9223372036854775807 < d.Safe.size + k.toNat) := by omega
      clear h1
      have hrd : ∀ W, Env W → Calls Tryd.prog 25 #[.string (d.Safe ++ d.Open.extract 0 k.toNat), .int .i64 0] W fun e w' => ∃ A c, ∃ f : Nat, e = .returned (.tuple #[.slice A m c, .int .i64 (f : Int)]) ∧ Below W.heap.size W w' := fun W hW => (readStates0 _ W hzt hW).mono fun e w' ⟨A, c, he, _, hb⟩ => ⟨A, c, (rd 40 0 (d.Safe ++ d.Open.extract 0 k.toNat).data.toList).2, by rw [HM.out]; exact he, hb⟩
      have HRD := Lib.hid hrd
      clear hrd
      go_wp2_with fail
      go_region_held3 (fun w' => w'.cell? ⟨w.heap.size, 0, none⟩ = some (.string d.Safe) ∧ w'.cell? ⟨w.heap.size, 1, none⟩ = some (.string d.Open)) (first | exact ⟨cell_later hE ba_0_2, cell_later hE ba_1_2⟩ | go_keep) (first | (go_at_call 25; refine (HRD.out _ (he.below (bl_drew hk2))).mono ?_; rintro e V9 ⟨A2, c2, f2, rfl, hb9⟩; have hE := bl_trans (bl_drew (bl_refl V2)) hb9))
      have hB9 := bl_trans (a := V2) (bl_refl _) hE
      have hk9 := bl_trans hk2 hB9
      have z9 := Lib.hid hB9.size
      have o_9 := o9.below hB9
      have ba_0_9 : V9.cell? ⟨w.heap.size, 0, none⟩ = some (.string d.Safe) := cell_later hB9 ba_0_2
      have ba_1_9 : V9.cell? ⟨w.heap.size, 1, none⟩ = some (.string d.Open) := cell_later hB9 ba_1_2
      have la_9 : w.heap.size < V9.heap.size := World.block_lt_of_cell? _ _ ba_0_9
      clear hk2 o9 ba_0_2 ba_1_2 la_2
      clear hE hb9
      rcases o_9.kind with ⟨rfl, hn0, rfl, hnil⟩ | ⟨g, rfl, hnc, hcm⟩
      · obtain rfl : m = 0 := by omega
        have hL0 := Lib.hid hnil
        clear hnil
        have q2 : Hid (loF d k = ([], true)) := by rw [Hid, q.out, hL0.out, List.drop_nil]
        clear q
        have q := q2
        clear o_9 q2
        go_wp2_with fail
        refine (clone_state ([] : List State) _ _ _ _ (by omega) (Sl.nil _ _)).mono ?_
        rintro e V10 ⟨A4, c4, rfl, ho4, hb10⟩
        have hs4 := ho4.mono hk9.size
        have hB10 := bl_trans (a := V9) (bl_refl _) hb10
        have hk10 := bl_trans hk9 hB10
        have z10 := Lib.hid hB10.size
        have ba_0_10 : V10.cell? ⟨w.heap.size, 0, none⟩ = some (.string d.Safe) := cell_later hB10 ba_0_9
        have ba_1_10 : V10.cell? ⟨w.heap.size, 1, none⟩ = some (.string d.Open) := cell_later hB10 ba_1_9
        have la_10 : w.heap.size < V10.heap.size := World.block_lt_of_cell? _ _ ba_0_10
        clear hk9 ba_0_9 ba_1_9 la_9
        go_wp2
        go_ret2
        exact retOwn2_mk q.out (hs4) hk10
      · by_cases hcm2 : c1 = m
        · have hLm : L.length = m := by omega
          have q2 : Hid (loF d k = ([], true)) := by rw [Hid, q.out, List.drop_of_length_le (by omega)]
          clear q
          have q := q2
          clear o_9 q2
          go_wp2_with fail
          refine (clone_state ([] : List State) _ _ _ _ (by omega) (Sl.nil _ _)).mono ?_
          rintro e V11 ⟨A4, c4, rfl, ho4, hb11⟩
          have hs4 := ho4.mono hk9.size
          have hB11 := bl_trans (a := V9) (bl_refl _) hb11
          have hk11 := bl_trans hk9 hB11
          have z11 := Lib.hid hB11.size
          have ba_0_11 : V11.cell? ⟨w.heap.size, 0, none⟩ = some (.string d.Safe) := cell_later hB11 ba_0_9
          have ba_1_11 : V11.cell? ⟨w.heap.size, 1, none⟩ = some (.string d.Open) := cell_later hB11 ba_1_9
          have la_11 : w.heap.size < V11.heap.size := World.block_lt_of_cell? _ _ ba_0_11
          clear hk9 ba_0_9 ba_1_9 la_9
          go_wp2
          go_ret2
          exact retOwn2_mk q.out (hs4) hk11
        · have hsd := o_9.sl.drop (m := m)
          rw [Nat.zero_add] at hsd
          have hdl : (L.drop m).length = L.length - m := List.length_drop
          clear o_9
          go_wp2_with fail
          refine (clone_state (L.drop m) _ _ _ _ (by omega) hsd).mono ?_
          rintro e V12 ⟨A4, c4, rfl, ho4, hb12⟩
          have hs4 := ho4.mono hk9.size
          have hB12 := bl_trans (a := V9) (bl_refl _) hb12
          have hk12 := bl_trans hk9 hB12
          have z12 := Lib.hid hB12.size
          have ba_0_12 : V12.cell? ⟨w.heap.size, 0, none⟩ = some (.string d.Safe) := cell_later hB12 ba_0_9
          have ba_1_12 : V12.cell? ⟨w.heap.size, 1, none⟩ = some (.string d.Open) := cell_later hB12 ba_1_9
          have la_12 : w.heap.size < V12.heap.size := World.block_lt_of_cell? _ _ ba_0_12
          clear hk9 ba_0_9 ba_1_9 la_9
          go_wp2
          go_ret2
          exact retOwn2_mk q.out (by rw [hdl] at hs4; exact hs4) hk12

end Go.Proofs.YtadkhmlpmdcbpaaDoor
