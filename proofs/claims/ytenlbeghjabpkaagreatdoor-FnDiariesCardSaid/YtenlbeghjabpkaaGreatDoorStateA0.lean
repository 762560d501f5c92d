/-
  States: the tests of one answer stateB. No conditions.
-/
import Derived.Test.YtenlbeghjabpkaaGreatDoorState
import Derived.Test.YtenlbeghjabpkaaGreatDoorNamesJ
import Derived.Test.YtenlbeghjabpkaaGreatDoorMem7
namespace Go.Proofs.YtenlbeghjabpkaaGreatDoor
open Go.RowKit

def stateB (x : State) : Bool := nameB x.Name && inB x.Value 0 9999
theorem jnState_any (x : State) (w : World) (hx : x.Name.size ≤ maxLen) :
    Calls Tryz.prog 29 #[.agg #[.string x.Name, .int .i64 x.Value]] w fun e w' => e = .returned (.bool (stateB x)) ∧ Below w.heap.size w w' := by
  go_enter Tryz.func29, Tryz.ntmps29
  have hk0 := bl_refl w
  go_wp2_with fail
  refine (jnName_any x.Name _ hx).mono ?_
  rintro e V1 ⟨rfl, hb1⟩
  have hB1 := bl_trans (a := w) (by repeat' (first | exact bl_refl _ | refine bl_alloc ?_ _ | refine bl_drew ?_ | refine bl_drewN ?_ _ | refine bl_set ?_ ?_ _ | (simp; done) | (simp; omega))) hb1
  have hk1 := bl_trans hk0 hB1
  have z1 : Hid (w.heap.size + 1 ≤ V1.heap.size) := by have := hb1.size; simp only [World.size_alloc] at this; exact (by omega : _)
  have ba_0_1 : V1.cell? ⟨w.heap.size, 0, none⟩ = some (.string x.Name) := cell_later hb1 (by go_simp)
  have ba_1_1 : V1.cell? ⟨w.heap.size, 1, none⟩ = some (.int .i64 x.Value) := cell_later hb1 (by go_simp)
  have la_1 : w.heap.size < V1.heap.size := World.block_lt_of_cell? _ _ ba_0_1
  cases h0 : nameB x.Name
  · have q : Hid (stateB x = false) := by rw [Hid, stateB, h0]; rfl
    clear h0
    go_wp2
    go_ret
    exact ⟨ret_bool q.out.symm, hk1⟩
  have q : Hid (stateB x = inB x.Value 0 9999) := by rw [Hid, stateB, h0]; rfl
  clear h0
  go_wp2_with fail
  refine (l1In_any x.Value 0 9999 _).mono ?_
  rintro _ V1 ⟨rfl, rfl⟩
  go_wp2
  go_ret
  exact ⟨ret_bool q.out.symm, hk1⟩
theorem isDiaryState_any (x : State) (w : World) (hx : x.Name.size ≤ maxLen) :
    Calls Tryz.prog 26 #[.agg #[.string x.Name, .int .i64 x.Value]] w fun e w' => e = .returned (.bool (stateB x)) ∧ Below w.heap.size w w' := by
  go_enter Tryz.func26, Tryz.ntmps26
  have hk0 := bl_refl w
  go_wp2_with fail
  refine (isName_any x.Name _ hx).mono ?_
  rintro e V1 ⟨rfl, hb1⟩
  have hB1 := bl_trans (a := w) (by repeat' (first | exact bl_refl _ | refine bl_alloc ?_ _ | refine bl_drew ?_ | refine bl_drewN ?_ _ | refine bl_set ?_ ?_ _ | (simp; done) | (simp; omega))) hb1
  have hk1 := bl_trans hk0 hB1
  have z1 : Hid (w.heap.size + 1 ≤ V1.heap.size) := by have := hb1.size; simp only [World.size_alloc] at this; exact (by omega : _)
  have ba_0_1 : V1.cell? ⟨w.heap.size, 0, none⟩ = some (.string x.Name) := cell_later hb1 (by go_simp)
  have ba_1_1 : V1.cell? ⟨w.heap.size, 1, none⟩ = some (.int .i64 x.Value) := cell_later hb1 (by go_simp)
  have la_1 : w.heap.size < V1.heap.size := World.block_lt_of_cell? _ _ ba_0_1
  cases h0 : nameB x.Name
  · have q : Hid (stateB x = false) := by rw [Hid, stateB, h0]; rfl
    clear h0
    go_wp2
    go_ret
    exact ⟨ret_bool q.out.symm, hk1⟩
  have q : Hid (stateB x = inB x.Value 0 9999) := by rw [Hid, stateB, h0]; rfl
  clear h0
  go_wp2_with fail
  refine (inside_any x.Value 0 9999 _).mono ?_
  rintro _ V1 ⟨rfl, rfl⟩
  go_wp2
  go_ret
  exact ⟨ret_bool q.out.symm, hk1⟩

end Go.Proofs.YtenlbeghjabpkaaGreatDoor
