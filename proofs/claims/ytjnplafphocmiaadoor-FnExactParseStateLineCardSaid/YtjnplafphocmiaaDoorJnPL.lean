/-
  ParseStateLine: both texts answer parseR. No conditions.
-/
import Derived.Test.YtjnplafphocmiaaDoorJnF
import Derived.Test.YtjnplafphocmiaaDoorJnG
namespace Go.Proofs.YtjnplafphocmiaaDoor
open Go.RowKit

set_option maxHeartbeats 1000000 in
theorem specParseStateLine_any (l : ByteArray) (w : World) (hl : l.size ≤ 1048576) :
    Calls Tryd.prog 18 #[.string l] w fun e w' => e = .returned (.tuple #[.int .i64 (parseR l).1, .agg #[.string (parseR l).2.1.Name, .int .i64 (parseR l).2.1.Value], .bool (parseR l).2.2]) ∧ Below w.heap.size w w' := by
  go_enter Tryd.func18, Tryd.ntmps18
  have hk0 := bl_refl w
  go_wp2_with fail
  refine (jnParse_any l _ hl).mono ?_
  rintro e V1 ⟨rfl, hb1⟩
  have hB1 := bl_trans (a := w) (by repeat' (first | exact bl_refl _ | refine bl_alloc ?_ _ | refine bl_drew ?_ | refine bl_drewN ?_ _ | refine bl_set ?_ ?_ _ | (simp; done) | (simp; omega))) hb1
  have hk1 := bl_trans hk0 hB1
  have z1 : Hid (w.heap.size + 1 ≤ V1.heap.size) := by have := hb1.size; simp only [World.size_alloc] at this; exact (by omega : _)
  have br_0_1 : V1.cell? ⟨w.heap.size, 0, none⟩ = some (.string ⟨#[]⟩) := cell_later hb1 (by go_simp)
  have qr_0_1 : V1.frozen? ⟨w.heap.size, 0, none⟩ = false := frozen_later hb1 (by simp) (by go_simp)
  have br_1_1 : V1.cell? ⟨w.heap.size, 1, none⟩ = some (.int .i64 0) := cell_later hb1 (by go_simp)
  have qr_1_1 : V1.frozen? ⟨w.heap.size, 1, none⟩ = false := frozen_later hb1 (by simp) (by go_simp)
  have lr_1 : w.heap.size < V1.heap.size := World.block_lt_of_cell? _ _ br_0_1
  clear hb1
  obtain ⟨r, hr⟩ : ∃ r, r = parseR l := ⟨_, rfl⟩
  rw [← hr]
  obtain ⟨n, ⟨a, v⟩, b⟩ := r
  have HR := Lib.hid hr
  clear hr
  go_wp2
  refine bodyPost_ret (v := .tuple #[.int .i64 n, .agg #[.string a, .int .i64 v], .bool b]) (by simp [results, Tryd.results18, go_sem, br_0_1, br_1_1]; try rfl) rfl ?_
  exact ⟨by rw [← HR.out], (by repeat' (first | exact hk1 | refine bl_alloc ?_ _ | refine bl_drew ?_ | refine bl_drewN ?_ _ | refine bl_set ?_ (by simp only []; omega) _))⟩
set_option maxHeartbeats 1000000 in
theorem implParseStateLine_any (l : ByteArray) (w : World) (hl : l.size ≤ 1048576) (he : Env w) :
    Calls Tryd.prog 19 #[.string l] w fun e w' => e = .returned (.tuple #[.int .i64 (parseR l).1, .agg #[.string (parseR l).2.1.Name, .int .i64 (parseR l).2.1.Value], .bool (parseR l).2.2]) ∧ Below w.heap.size w w' := by
  go_enter Tryd.func19, Tryd.ntmps19
  have hk0 := bl_refl w
  go_wp2_with fail
  refine (parseStateLine_any l _ hl (he.below (bl_trans hk0 (by repeat' (first | exact bl_refl _ | refine bl_alloc ?_ _ | refine bl_drew ?_ | refine bl_drewN ?_ _ | refine bl_set ?_ ?_ _ | (simp; done) | (simp; omega)))))).mono ?_
  rintro e V1 ⟨rfl, hb1⟩
  have hB1 := bl_trans (a := w) (by repeat' (first | exact bl_refl _ | refine bl_alloc ?_ _ | refine bl_drew ?_ | refine bl_drewN ?_ _ | refine bl_set ?_ ?_ _ | (simp; done) | (simp; omega))) hb1
  have hk1 := bl_trans hk0 hB1
  have z1 : Hid (w.heap.size + 1 ≤ V1.heap.size) := by have := hb1.size; simp only [World.size_alloc] at this; exact (by omega : _)
  have br_0_1 : V1.cell? ⟨w.heap.size, 0, none⟩ = some (.string ⟨#[]⟩) := cell_later hb1 (by go_simp)
  have qr_0_1 : V1.frozen? ⟨w.heap.size, 0, none⟩ = false := frozen_later hb1 (by simp) (by go_simp)
  have br_1_1 : V1.cell? ⟨w.heap.size, 1, none⟩ = some (.int .i64 0) := cell_later hb1 (by go_simp)
  have qr_1_1 : V1.frozen? ⟨w.heap.size, 1, none⟩ = false := frozen_later hb1 (by simp) (by go_simp)
  have lr_1 : w.heap.size < V1.heap.size := World.block_lt_of_cell? _ _ br_0_1
  clear hb1
  obtain ⟨r, hr⟩ : ∃ r, r = parseR l := ⟨_, rfl⟩
  rw [← hr]
  obtain ⟨n, ⟨a, v⟩, b⟩ := r
  have HR := Lib.hid hr
  clear hr
  go_wp2
  refine bodyPost_ret (v := .tuple #[.int .i64 n, .agg #[.string a, .int .i64 v], .bool b]) (by simp [results, Tryd.results19, go_sem, br_0_1, br_1_1]; try rfl) rfl ?_
  exact ⟨by rw [← HR.out], (by repeat' (first | exact hk1 | refine bl_alloc ?_ _ | refine bl_drew ?_ | refine bl_drewN ?_ _ | refine bl_set ?_ (by simp only []; omega) _))⟩

end Go.Proofs.YtjnplafphocmiaaDoor
