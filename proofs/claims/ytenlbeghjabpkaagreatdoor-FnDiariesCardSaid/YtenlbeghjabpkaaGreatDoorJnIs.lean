/-
  IsDiary, FlushDiary: both texts. No conditions.
-/
import Derived.Test.YtenlbeghjabpkaaGreatDoorJnD0
namespace Go.Proofs.YtenlbeghjabpkaaGreatDoor
open Go.RowKit

theorem implIsDiary_any (d : Diary) (w : World) (hz : d.Safe.size + d.Open.size ≤ 1048576) (he : Env w) :
    Calls Tryz.prog 20 #[.agg #[.string d.Safe, .string d.Open]] w fun e w' => e = .returned (.bool (openB d.Safe d.Open)) ∧ Below w.heap.size w w' := by
  go_enter Tryz.func20, Tryz.ntmps20
  have hk0 := bl_refl w
  cases h : openB d.Safe d.Open
  · have HH := Lib.hid h
    clear h
    go_wp2_with fail
    refine (statesOf_no d _ hz (he.below (bl_trans hk0 (by repeat' (first | exact bl_refl _ | refine bl_alloc ?_ _ | refine bl_drew ?_ | refine bl_drewN ?_ _ | refine bl_set ?_ ?_ _ | (simp; done) | (simp; omega))))) HH.out).mono ?_
    rintro e V1 ⟨A1, c1, rfl, hb1⟩
    have hB1 := bl_trans (a := w) (by repeat' (first | exact bl_refl _ | refine bl_alloc ?_ _ | refine bl_drew ?_ | refine bl_drewN ?_ _ | refine bl_set ?_ ?_ _ | (simp; done) | (simp; omega))) hb1
    have hk1 := bl_trans hk0 hB1
    have z1 : Hid (w.heap.size + 1 ≤ V1.heap.size) := by have := hb1.size; simp only [World.size_alloc] at this; exact (by omega : _)
    have ba_0_1 : V1.cell? ⟨w.heap.size, 0, none⟩ = some (.string d.Safe) := cell_later hb1 (by go_simp)
    have ba_1_1 : V1.cell? ⟨w.heap.size, 1, none⟩ = some (.string d.Open) := cell_later hb1 (by go_simp)
    have la_1 : w.heap.size < V1.heap.size := World.block_lt_of_cell? _ _ ba_0_1
    clear hb1
    have h := HH.out
    have HF := Lib.hid h
    clear h
    go_wp2
    go_ret
    first | exact ⟨ret_bool HF.out.symm, hk1⟩ | exact ⟨rfl, hk1⟩
  · have HH := Lib.hid h
    clear h
    go_wp2_with fail
    refine (statesOf_yes d _ hz (he.below (bl_trans hk0 (by repeat' (first | exact bl_refl _ | refine bl_alloc ?_ _ | refine bl_drew ?_ | refine bl_drewN ?_ _ | refine bl_set ?_ ?_ _ | (simp; done) | (simp; omega))))) HH.out).mono ?_
    rintro e V2 ⟨A1, c1, rfl, ho1, hb2⟩
    have hB2 := bl_trans (a := w) (by repeat' (first | exact bl_refl _ | refine bl_alloc ?_ _ | refine bl_drew ?_ | refine bl_drewN ?_ _ | refine bl_set ?_ ?_ _ | (simp; done) | (simp; omega))) hb2
    have hk2 := bl_trans hk0 hB2
    have z2 : Hid (w.heap.size + 1 ≤ V2.heap.size) := by have := hb2.size; simp only [World.size_alloc] at this; exact (by omega : _)
    have ba_0_2 : V2.cell? ⟨w.heap.size, 0, none⟩ = some (.string d.Safe) := cell_later hb2 (by go_simp)
    have ba_1_2 : V2.cell? ⟨w.heap.size, 1, none⟩ = some (.string d.Open) := cell_later hb2 (by go_simp)
    have la_2 : w.heap.size < V2.heap.size := World.block_lt_of_cell? _ _ ba_0_2
    clear hb2
    have h := HH.out
    have HF := Lib.hid h
    clear h
    go_wp2
    go_ret
    first | exact ⟨ret_bool HF.out.symm, hk2⟩ | exact ⟨rfl, hk2⟩
end Go.Proofs.YtenlbeghjabpkaaGreatDoor
