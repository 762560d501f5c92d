/-
  Appliances: the tests of one and of a fleet. No conditions.
-/
import Derived.Test.YtkgjbijkjlmomaaAppl
import Derived.Test.YtkgjbijkjlmomaaNamesI
import Derived.Test.YtkgjbijkjlmomaaMem7
import Derived.Test.YtkgjbijkjlmomaaIncA
namespace Go.Proofs.Ytkgjbijkjlmomaa
open Go.RowKit

def applB (x : Appliance) : Bool := nameB x.Name && inB x.Kind 0 3 && inB x.Node 0 13 && inB x.Crew 1 9 && inB x.State 0 5
theorem apState_any (n : Int) (w : World) :
    Calls Try.prog 97 #[.int .i64 n] w fun e w' => e = .returned (.bool (inB n 0 5)) ∧ w' = w := by
  go_enter Try.func97, Try.ntmps97
  go_wp2_with (go_at_call 71; refine (l1In_any _ _ _ _).mono ?_; rintro e V ⟨rfl, rfl⟩)
  go_ret
  exact ⟨rfl, rfl⟩
theorem isSt_any (n : Int) (w : World) :
    Calls Try.prog 98 #[.int .i64 n] w fun e w' => e = .returned (.bool (inB n 0 5)) ∧ w' = w := by
  go_enter Try.func98, Try.ntmps98
  go_wp2_with (go_at_call 43; refine (inside_any _ _ _ _).mono ?_; rintro e V ⟨rfl, rfl⟩)
  go_ret
  exact ⟨rfl, rfl⟩
set_option maxHeartbeats 1000000 in
theorem apGood_any (x : Appliance) (w : World) (hx : x.Name.size ≤ maxLen) :
    Calls Try.prog 84 #[.agg #[.string x.Name, .int .i64 x.Kind, .int .i64 x.Node, .int .i64 x.Crew, .int .i64 x.State]] w fun e w' => e = .returned (.bool (applB x)) ∧ Below w.heap.size w w' := by
  go_enter Try.func84, Try.ntmps84
  have hk0 := bl_refl w
  go_wp2_with fail
  refine (apName_any x.Name _ hx).mono ?_
  rintro e V1 ⟨rfl, hb1⟩
  have hB1 := bl_trans (a := w) (by repeat' (first | exact bl_refl _ | refine bl_alloc ?_ _ | refine bl_drew ?_ | refine bl_drewN ?_ _ | refine bl_set ?_ ?_ _ | (simp; done) | (simp; omega))) hb1
  have hk1 := bl_trans hk0 hB1
  have z1 : Hid (w.heap.size + 1 ≤ V1.heap.size) := by have := hb1.size; simp only [World.size_alloc] at this; exact (by omega : _)
  have ba_0_1 : V1.cell? ⟨w.heap.size, 0, none⟩ = some (.string x.Name) := cell_later hb1 (by go_simp)
  have ba_1_1 : V1.cell? ⟨w.heap.size, 1, none⟩ = some (.int .i64 x.Kind) := cell_later hb1 (by go_simp)
  have ba_2_1 : V1.cell? ⟨w.heap.size, 2, none⟩ = some (.int .i64 x.Node) := cell_later hb1 (by go_simp)
  have ba_3_1 : V1.cell? ⟨w.heap.size, 3, none⟩ = some (.int .i64 x.Crew) := cell_later hb1 (by go_simp)
  have ba_4_1 : V1.cell? ⟨w.heap.size, 4, none⟩ = some (.int .i64 x.State) := cell_later hb1 (by go_simp)
  have la_1 : w.heap.size < V1.heap.size := World.block_lt_of_cell? _ _ ba_0_1
  cases h0 : nameB x.Name
  · have q : Hid (applB x = false) := by rw [Hid, applB, h0]; simp
    clear h0
    go_wp2
    go_ret
    exact ⟨ret_bool q.out.symm, hk1⟩
  have H0 := Lib.hid h0
  go_wp2_with fail
  refine (l1In_any x.Kind 0 3 _).mono ?_
  rintro _ V1 ⟨rfl, rfl⟩
  cases h1 : inB x.Kind 0 3
  · have q : Hid (applB x = false) := by rw [Hid, applB, h0, h1]; simp
    clear h1
    go_wp2
    go_ret
    exact ⟨ret_bool q.out.symm, hk1⟩
  have H1 := Lib.hid h1
  go_wp2_with fail
  refine (apNode_any x.Node _).mono ?_
  rintro _ V1 ⟨rfl, rfl⟩
  cases h2 : inB x.Node 0 13
  · have q : Hid (applB x = false) := by rw [Hid, applB, h0, h1, h2]; simp
    clear h2
    go_wp2
    go_ret
    exact ⟨ret_bool q.out.symm, hk1⟩
  have H2 := Lib.hid h2
  go_wp2_with fail
  refine (l1In_any x.Crew 1 9 _).mono ?_
  rintro _ V1 ⟨rfl, rfl⟩
  cases h3 : inB x.Crew 1 9
  · have q : Hid (applB x = false) := by rw [Hid, applB, h0, h1, h2, h3]; simp
    clear h3
    go_wp2
    go_ret
    exact ⟨ret_bool q.out.symm, hk1⟩
  have H3 := Lib.hid h3
  go_wp2_with fail
  refine (apState_any x.State _).mono ?_
  rintro _ V1 ⟨rfl, rfl⟩
  have q : Hid (applB x = inB x.State 0 5) := by rw [Hid, applB, h0, h1, h2, h3]; simp
  clear h0 h1 h2 h3
  go_wp2
  go_ret
  exact ⟨ret_bool q.out.symm, hk1⟩
set_option maxHeartbeats 1000000 in
theorem isAppliance_any (x : Appliance) (w : World) (hx : x.Name.size ≤ maxLen) :
    Calls Try.prog 85 #[.agg #[.string x.Name, .int .i64 x.Kind, .int .i64 x.Node, .int .i64 x.Crew, .int .i64 x.State]] w fun e w' => e = .returned (.bool (applB x)) ∧ Below w.heap.size w w' := by
  go_enter Try.func85, Try.ntmps85
  have hk0 := bl_refl w
  go_wp2_with fail
  refine (isName_any x.Name _ hx).mono ?_
  rintro e V1 ⟨rfl, hb1⟩
  have hB1 := bl_trans (a := w) (by repeat' (first | exact bl_refl _ | refine bl_alloc ?_ _ | refine bl_drew ?_ | refine bl_drewN ?_ _ | refine bl_set ?_ ?_ _ | (simp; done) | (simp; omega))) hb1
  have hk1 := bl_trans hk0 hB1
  have z1 : Hid (w.heap.size + 1 ≤ V1.heap.size) := by have := hb1.size; simp only [World.size_alloc] at this; exact (by omega : _)
  have ba_0_1 : V1.cell? ⟨w.heap.size, 0, none⟩ = some (.string x.Name) := cell_later hb1 (by go_simp)
  have ba_1_1 : V1.cell? ⟨w.heap.size, 1, none⟩ = some (.int .i64 x.Kind) := cell_later hb1 (by go_simp)
  have ba_2_1 : V1.cell? ⟨w.heap.size, 2, none⟩ = some (.int .i64 x.Node) := cell_later hb1 (by go_simp)
  have ba_3_1 : V1.cell? ⟨w.heap.size, 3, none⟩ = some (.int .i64 x.Crew) := cell_later hb1 (by go_simp)
  have ba_4_1 : V1.cell? ⟨w.heap.size, 4, none⟩ = some (.int .i64 x.State) := cell_later hb1 (by go_simp)
  have la_1 : w.heap.size < V1.heap.size := World.block_lt_of_cell? _ _ ba_0_1
  cases h0 : nameB x.Name
  · have q : Hid (applB x = false) := by rw [Hid, applB, h0]; simp
    clear h0
    go_wp2
    go_ret
    exact ⟨ret_bool q.out.symm, hk1⟩
  have H0 := Lib.hid h0
  go_wp2_with fail
  refine (inside_any x.Kind 0 3 _).mono ?_
  rintro _ V1 ⟨rfl, rfl⟩
  cases h1 : inB x.Kind 0 3
  · have q : Hid (applB x = false) := by rw [Hid, applB, h0, h1]; simp
    clear h1
    go_wp2
    go_ret
    exact ⟨ret_bool q.out.symm, hk1⟩
  have H1 := Lib.hid h1
  go_wp2_with fail
  refine (inside_any x.Node 0 13 _).mono ?_
  rintro _ V1 ⟨rfl, rfl⟩
  cases h2 : inB x.Node 0 13
  · have q : Hid (applB x = false) := by rw [Hid, applB, h0, h1, h2]; simp
    clear h2
    go_wp2
    go_ret
    exact ⟨ret_bool q.out.symm, hk1⟩
  have H2 := Lib.hid h2
  go_wp2_with fail
  refine (inside_any x.Crew 1 9 _).mono ?_
  rintro _ V1 ⟨rfl, rfl⟩
  cases h3 : inB x.Crew 1 9
  · have q : Hid (applB x = false) := by rw [Hid, applB, h0, h1, h2, h3]; simp
    clear h3
    go_wp2
    go_ret
    exact ⟨ret_bool q.out.symm, hk1⟩
  have H3 := Lib.hid h3
  go_wp2_with fail
  refine (isSt_any x.State _).mono ?_
  rintro _ V1 ⟨rfl, rfl⟩
  have q : Hid (applB x = inB x.State 0 5) := by rw [Hid, applB, h0, h1, h2, h3]; simp
  clear h0 h1 h2 h3
  go_wp2
  go_ret
  exact ⟨ret_bool q.out.symm, hk1⟩

end Go.Proofs.Ytkgjbijkjlmomaa
