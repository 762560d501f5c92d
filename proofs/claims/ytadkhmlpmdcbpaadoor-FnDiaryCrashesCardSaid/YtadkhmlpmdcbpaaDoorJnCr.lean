/-
  CrashDiary: both texts. No conditions.
-/
import Derived.Test.YtadkhmlpmdcbpaaDoorJnD0
namespace Go.Proofs.YtadkhmlpmdcbpaaDoor
open Go.RowKit

set_option maxRecDepth 100000 in
set_option maxHeartbeats 2000000 in
theorem specCrashDiary_any (d : Diary) (k : Int) (w : World) (hz : d.Safe.size + d.Open.size ≤ 1048576) :
    Calls Tryd.prog 6 #[.agg #[.string d.Safe, .string d.Open], .int .i64 k] w fun e w' => e = .returned (.tuple #[.string (crF d k).1, .bool (crF d k).2]) ∧ Below w.heap.size w w' := by
  go_enter Tryd.func6, Tryd.ntmps6
  have hk0 := bl_refl w
  go_wp2_with fail
  refine (jnOpen_any d _ (by omega) (by omega)).mono ?_
  rintro e V1 ⟨rfl, hb1⟩
  have hB1 := bl_trans (a := w) (by repeat' (first | exact bl_refl _ | refine bl_alloc ?_ _ | refine bl_drew ?_ | refine bl_drewN ?_ _ | refine bl_set ?_ ?_ _ | (simp; done) | (simp; omega))) hb1
  have hk1 := bl_trans hk0 hB1
  have z1 : Hid (w.heap.size + 1 ≤ V1.heap.size) := by have := hb1.size; simp only [World.size_alloc] at this; exact (by omega : _)
  have ba_0_1 : V1.cell? ⟨w.heap.size, 0, none⟩ = some (.string d.Safe) := cell_later hb1 (by go_simp)
  have ba_1_1 : V1.cell? ⟨w.heap.size, 1, none⟩ = some (.string d.Open) := cell_later hb1 (by go_simp)
  have la_1 : w.heap.size < V1.heap.size := World.block_lt_of_cell? _ _ ba_0_1
  clear hb1
  cases h : openB d.Safe d.Open
  · have q := Lib.hid (crF_no (k := k) h)
    clear h
    go_wp2
    go_ret2
    exact ⟨ret_tb q.out, hk1⟩
  · have HO := Lib.hid h
    clear h
    go_wp2_with fail
    refine (l1In_any k 0 d.Open.size _).mono ?_
    rintro _ V1 ⟨rfl, rfl⟩
    cases h1 : inB k 0 d.Open.size
    · have q := Lib.hid (crF_out h1)
      clear h1
      go_wp2
      go_ret2
      exact ⟨ret_tb q.out, hk1⟩
    · have q := Lib.hid (crF_yes HO.out h1)
      obtain ⟨g0, g1⟩ := inB_iff.1 h1
      have hsz : (d.Open.extract 0 k.toNat).size ≤ 1048576 := Nat.le_trans (ex_size d.Open (by omega)) (by omega)
      have hsa : d.Safe.size ≤ 1048576 := by omega
      clear h1
      go_wp2_with fail
      refine wp_region_grow (by kernel_rfl) (by kernel_rfl) (fun X hX => ?_)
      have hbX : Below V1.heap.size V1 X := by rw [hX]; exact bl_refl _
      have q0 := Gw.cell (cell_later hbX ba_0_1)
      have q1 := Gw.cell (cell_later hbX ba_1_1)
      have HX := Lib.hid hX
      clear hX
      repeat (go_big_quiet_step (fail))
      refine wpGrow_nil (fun V hV => ?_)
      have hbV := bl_trans hk1 (bl_trans hbX hV)
      clear q0 q1
      go_wp2
      go_ret2
      exact ⟨ret_tb q.out, hbV⟩
set_option maxRecDepth 100000 in
set_option maxHeartbeats 2000000 in
theorem implCrashDiary_any (d : Diary) (k : Int) (w : World) (hz : d.Safe.size + d.Open.size ≤ 1048576) (he : Env w) :
    Calls Tryd.prog 5 #[.agg #[.string d.Safe, .string d.Open], .int .i64 k] w fun e w' => e = .returned (.tuple #[.string (crF d k).1, .bool (crF d k).2]) ∧ Below w.heap.size w w' := by
  go_enter Tryd.func5, Tryd.ntmps5
  have hk0 := bl_refl w
  cases h : openB d.Safe d.Open
  · have HH := Lib.hid h
    clear h
    go_wp2_with fail
    refine (statesOf_no d _ hz (he.below (bl_trans hk0 (by repeat' (first | exact bl_refl _ | refine bl_alloc ?_ _ | refine bl_drew ?_ | refine bl_drewN ?_ _ | refine bl_set ?_ ?_ _ | (simp; done) | (simp; omega))))) HH.out).mono ?_
    rintro e V1 ⟨A1, c1, rfl, hb1⟩
    have hB1 := bl_trans (a := w) (by repeat' (first | exact bl_refl _ | refine bl_alloc ?_ _ | refine bl_drew ?_ | refine bl_drewN ?_ _ | refine bl_set ?_ ?_ _ | (simp; done) | (simp; omega))) hb1
    have hk1 := bl_trans hk0 hB1
    have z1 : Hid (w.heap.size + 1 ≤ V1.heap.size) := by have := hb1.size; simp only [World.size_alloc] at this; exact (by omega : _)
    have ba_0_1 : V1.cell? ⟨w.heap.size, 0, none⟩ = some (.string d.Safe) := cell_later hb1 (by go_simp)
    have ba_1_1 : V1.cell? ⟨w.heap.size, 1, none⟩ = some (.string d.Open) := cell_later hb1 (by go_simp)
    have la_1 : w.heap.size < V1.heap.size := World.block_lt_of_cell? _ _ ba_0_1
    clear hb1
    have h := HH.out
    have q := Lib.hid (crF_no (k := k) h)
    clear h
    go_wp2
    go_ret2
    exact ⟨ret_tb q.out, hk1⟩
  · have HH := Lib.hid h
    clear h
    go_wp2_with fail
    refine (statesOf_yes d _ hz (he.below (bl_trans hk0 (by repeat' (first | exact bl_refl _ | refine bl_alloc ?_ _ | refine bl_drew ?_ | refine bl_drewN ?_ _ | refine bl_set ?_ ?_ _ | (simp; done) | (simp; omega))))) HH.out).mono ?_
    rintro e V2 ⟨A1, c1, rfl, ho1, hb2⟩
    have hB2 := bl_trans (a := w) (by repeat' (first | exact bl_refl _ | refine bl_alloc ?_ _ | refine bl_drew ?_ | refine bl_drewN ?_ _ | refine bl_set ?_ ?_ _ | (simp; done) | (simp; omega))) hb2
    have hk2 := bl_trans hk0 hB2
    have z2 : Hid (w.heap.size + 1 ≤ V2.heap.size) := by have := hb2.size; simp only [World.size_alloc] at this; exact (by omega : _)
    have ba_0_2 : V2.cell? ⟨w.heap.size, 0, none⟩ = some (.string d.Safe) := cell_later hb2 (by go_simp)
    have ba_1_2 : V2.cell? ⟨w.heap.size, 1, none⟩ = some (.string d.Open) := cell_later hb2 (by go_simp)
    have la_2 : w.heap.size < V2.heap.size := World.block_lt_of_cell? _ _ ba_0_2
    clear hb2
    have h := HH.out
    have HO := Lib.hid h
    clear h
    go_wp2_with fail
    refine (inside_any k 0 d.Open.size _).mono ?_
    rintro _ V2 ⟨rfl, rfl⟩
    cases h1 : inB k 0 d.Open.size
    · have q := Lib.hid (crF_out h1)
      clear h1
      go_wp2
      go_ret2
      exact ⟨ret_tb q.out, hk2⟩
    · have q := Lib.hid (crF_yes HO.out h1)
      obtain ⟨g0, g1⟩ := inB_iff.1 h1
      have hsz : (d.Open.extract 0 k.toNat).size ≤ 1048576 := Nat.le_trans (ex_size d.Open (by omega)) (by omega)
      have hsa : d.Safe.size ≤ 1048576 := by omega
      clear h1
      go_wp2_with fail
      refine wp_region_grow (by kernel_rfl) (by kernel_rfl) (fun X hX => ?_)
      have hbX : Below V2.heap.size V2 X := by rw [hX]; exact bl_refl _
      have q0 := Gw.cell (cell_later hbX ba_0_2)
      have q1 := Gw.cell (cell_later hbX ba_1_2)
      have HX := Lib.hid hX
      clear hX
      repeat (go_big_quiet_step (fail))
      refine wpGrow_nil (fun V hV => ?_)
      have hbV := bl_trans hk2 (bl_trans hbX hV)
      clear q0 q1
      go_wp2
      go_ret2
      exact ⟨ret_tb q.out, hbV⟩

end Go.Proofs.YtadkhmlpmdcbpaaDoor
