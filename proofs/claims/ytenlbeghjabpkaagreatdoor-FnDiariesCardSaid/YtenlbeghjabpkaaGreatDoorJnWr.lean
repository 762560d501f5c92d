/-
  WrittenStates: both texts. No conditions.
-/
import Derived.Test.YtenlbeghjabpkaaGreatDoorJnD0
namespace Go.Proofs.YtenlbeghjabpkaaGreatDoor
open Go.RowKit

set_option maxHeartbeats 1000000 in
theorem specWrittenStates_any (d : Diary) (w : World) (hz : d.Safe.size + d.Open.size ≤ 1048576) :
    Calls Tryz.prog 8 #[.agg #[.string d.Safe, .string d.Open]] w (RetOwn2 w 26 (stF d)) := by
  go_enter Tryz.func8, Tryz.ntmps8
  have hk0 := bl_refl w
  go_wp2_with fail
  refine (jnOpen_any d _ (by omega) (by omega)).mono ?_
  rintro e V1 ⟨rfl, hb1⟩
  have hB1 := bl_trans (a := w) (by repeat' (first | exact bl_refl _ | refine bl_alloc ?_ _ | refine bl_drew ?_ | refine bl_drewN ?_ _ | refine bl_set ?_ ?_ _ | (simp; done) | (simp; omega))) hb1
  have hk1 := bl_trans hk0 hB1
  have z1 : Hid (w.heap.size + 1 ≤ V1.heap.size) := by have := hb1.size; simp only [World.size_alloc] at this; exact (by omega : _)
  have ba_0_1 : V1.cell? ⟨w.heap.size, 0, none⟩ = some (.string d.Safe) := cell_later hb1 (by go_simp)
  have ba_1_1 : V1.cell? ⟨w.heap.size, 1, none⟩ = some (.string d.Open) := cell_later hb1 (by go_simp)
  have la_1 : w.heap.size < V1.heap.size := World.block_lt_of_cell? _ _ ba_0_1
  clear hb1
  cases h : openB d.Safe d.Open
  · have q := Lib.hid (stF_no h)
    clear h
    go_wp2
    go_ret2
    exact retOwn2_mk q.out (Own.nil _ _ _) hk1
  · have q := Lib.hid (stF_yes h)
    have h3 := h
    rw [open_spec] at h3
    simp only [Bool.and_eq_true, decide_eq_true_eq] at h3
    obtain ⟨⟨⟨s1, s2⟩, _⟩, _⟩ := h3
    clear h
    go_wp2_with fail
    refine (jnStates_any d _ s1 s2).mono ?_
    rintro e V2 ⟨A9, c9, rfl, ho9, hb2⟩
    have hB2 := bl_trans (a := V1) (bl_refl _) hb2
    have hk2 := bl_trans hk1 hB2
    have z2 := Lib.hid hB2.size
    have ba_0_2 : V2.cell? ⟨w.heap.size, 0, none⟩ = some (.string d.Safe) := cell_later hB2 ba_0_1
    have ba_1_2 : V2.cell? ⟨w.heap.size, 1, none⟩ = some (.string d.Open) := cell_later hB2 ba_1_1
    have la_2 : w.heap.size < V2.heap.size := World.block_lt_of_cell? _ _ ba_0_2
    clear ba_0_1 ba_1_1 la_1
    have hs9 := hk2.size
    clear hb2
    go_wp2
    go_ret2
    exact retOwn2_mk q.out (ho9.mono hk1.size) hk2
set_option maxHeartbeats 1000000 in
theorem implWrittenStates_any (d : Diary) (w : World) (hz : d.Safe.size + d.Open.size ≤ 1048576) (he : Env w) :
    Calls Tryz.prog 7 #[.agg #[.string d.Safe, .string d.Open]] w (RetOwn2 w 26 (stF d)) := by
  go_enter Tryz.func7, Tryz.ntmps7
  have hk0 := bl_refl w
  go_wp2_with fail
  refine (statesOf_any d _ (by omega) (by omega) (he.below (bl_trans hk0 (by repeat' (first | exact bl_refl _ | refine bl_alloc ?_ _ | refine bl_drew ?_ | refine bl_drewN ?_ _ | refine bl_set ?_ ?_ _ | (simp; done) | (simp; omega)))))).mono ?_
  rintro e V1 ⟨A1, c1, rfl, ho1, hb1⟩
  have hB1 := bl_trans (a := w) (by repeat' (first | exact bl_refl _ | refine bl_alloc ?_ _ | refine bl_drew ?_ | refine bl_drewN ?_ _ | refine bl_set ?_ ?_ _ | (simp; done) | (simp; omega))) hb1
  have hk1 := bl_trans hk0 hB1
  have z1 : Hid (w.heap.size + 1 ≤ V1.heap.size) := by have := hb1.size; simp only [World.size_alloc] at this; exact (by omega : _)
  have ba_0_1 : V1.cell? ⟨w.heap.size, 0, none⟩ = some (.string d.Safe) := cell_later hb1 (by go_simp)
  have ba_1_1 : V1.cell? ⟨w.heap.size, 1, none⟩ = some (.string d.Open) := cell_later hb1 (by go_simp)
  have la_1 : w.heap.size < V1.heap.size := World.block_lt_of_cell? _ _ ba_0_1
  clear hb1
  go_wp2
  go_ret2
  exact ⟨A1, c1, rfl, ho1.mono (by simp), hk1⟩

end Go.Proofs.YtenlbeghjabpkaaGreatDoor
