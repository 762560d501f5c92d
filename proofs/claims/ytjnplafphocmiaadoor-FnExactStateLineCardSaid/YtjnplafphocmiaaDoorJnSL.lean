/-
  StateLine: both texts answer slF. No conditions.
-/
import Derived.Test.YtjnplafphocmiaaDoorJnF0
namespace Go.Proofs.YtjnplafphocmiaaDoor
open Go.RowKit

noncomputable def slF (n : Int) (x : State) : ByteArray × Bool := if okL n x then (lineB n x, true) else (ByteArray.empty, false)
theorem slF_yes {n : Int} {x : State} (h : okL n x = true) : slF n x = (lineB n x, true) := by unfold slF; rw [if_pos h]
theorem slF_no {n : Int} {x : State} (h : okL n x = false) : slF n x = (ByteArray.empty, false) := by unfold slF; rw [if_neg (by rw [h]; exact Bool.false_ne_true)]
theorem ret_sb {a b : ByteArray} {p q : Bool} {r : ByteArray × Bool} (h : r = (a, p)) (_h1 : a = b) (_h2 : p = q) : Ending.returned (.tuple #[.string a, .bool p]) = .returned (.tuple #[.string r.1, .bool r.2]) := by rw [h]
set_option maxHeartbeats 1000000 in
theorem specStateLine_any (n : Int) (x : State) (w : World) (hx : x.Name.size ≤ maxLen) :
    Calls Tryd.prog 15 #[.int .i64 n, .agg #[.string x.Name, .int .i64 x.Value]] w fun e w' => e = .returned (.tuple #[.string (slF n x).1, .bool (slF n x).2]) ∧ Below w.heap.size w w' := by
  go_enter Tryd.func15, Tryd.ntmps15
  have hk0 := bl_refl w
  go_wp2_with fail
  refine (jnNumber_any n _).mono ?_
  rintro _ _ ⟨rfl, rfl⟩
  cases h0 : inB n 0 39
  · have q : Hid (slF n x = (ByteArray.empty, false)) := slF_no (by rw [okL, h0]; rfl)
    clear h0
    go_wp2
    go_ret2
    exact ⟨ret_sb q.out rfl rfl, (bl_trans hk0 (by repeat' (first | exact bl_refl _ | refine bl_alloc ?_ _ | refine bl_drew ?_ | refine bl_drewN ?_ _ | refine bl_set ?_ ?_ _ | (simp; done) | (simp; omega))))⟩
  · go_wp2_with fail
    refine (jnState_any x _ hx).mono ?_
    rintro e V1 ⟨rfl, hb1⟩
    have hB1 := bl_trans (a := w) (by repeat' (first | exact bl_refl _ | refine bl_alloc ?_ _ | refine bl_drew ?_ | refine bl_drewN ?_ _ | refine bl_set ?_ ?_ _ | (simp; done) | (simp; omega))) hb1
    have hk1 := bl_trans hk0 hB1
    have z1 : Hid (w.heap.size + 1 ≤ V1.heap.size) := by have := hb1.size; simp only [World.size_alloc] at this; exact (by omega : _)
    have ba_0_1 : V1.cell? ⟨w.heap.size, 0, none⟩ = some (.string x.Name) := cell_later hb1 (by go_simp)
    have ba_1_1 : V1.cell? ⟨w.heap.size, 1, none⟩ = some (.int .i64 x.Value) := cell_later hb1 (by go_simp)
    have la_1 : w.heap.size < V1.heap.size := World.block_lt_of_cell? _ _ ba_0_1
    clear hb1
    cases h1 : stateB x
    · have q : Hid (slF n x = (ByteArray.empty, false)) := slF_no (by rw [okL, h1, Bool.and_false])
      clear h1
      go_wp2
      go_ret2
      exact ⟨ret_sb q.out rfl rfl, hk1⟩
    · have hok : okL n x = true := by rw [okL, h0, h1]; rfl
      have q := Lib.hid (slF_yes hok)
      clear h0 h1
      go_wp2_with fail
      refine (jnLine_any n x _ hok).mono ?_
      rintro e V2 ⟨rfl, hb2⟩
      have hB2 := bl_trans (a := V1) (bl_refl _) hb2
      have hk2 := bl_trans hk1 hB2
      have z2 := Lib.hid hB2.size
      have ba_0_2 : V2.cell? ⟨w.heap.size, 0, none⟩ = some (.string x.Name) := cell_later hB2 ba_0_1
      have ba_1_2 : V2.cell? ⟨w.heap.size, 1, none⟩ = some (.int .i64 x.Value) := cell_later hB2 ba_1_1
      have la_2 : w.heap.size < V2.heap.size := World.block_lt_of_cell? _ _ ba_0_2
      clear hk1 ba_0_1 ba_1_1 la_1
      go_wp2
      go_ret2
      exact ⟨ret_sb q.out rfl rfl, hk2⟩
set_option maxHeartbeats 1000000 in
theorem implStateLine_any (n : Int) (x : State) (w : World) (hx : x.Name.size ≤ maxLen) (ht : Tab w) :
    Calls Tryd.prog 17 #[.int .i64 n, .agg #[.string x.Name, .int .i64 x.Value]] w fun e w' => e = .returned (.tuple #[.string (slF n x).1, .bool (slF n x).2]) ∧ Below w.heap.size w w' := by
  go_enter Tryd.func17, Tryd.ntmps17
  have hk0 := bl_refl w
  go_wp2_with fail
  refine (isDiaryState_any x _ hx).mono ?_
  rintro e V1 ⟨rfl, hb1⟩
  have hB1 := bl_trans (a := w) (by repeat' (first | exact bl_refl _ | refine bl_alloc ?_ _ | refine bl_drew ?_ | refine bl_drewN ?_ _ | refine bl_set ?_ ?_ _ | (simp; done) | (simp; omega))) hb1
  have hk1 := bl_trans hk0 hB1
  have z1 : Hid (w.heap.size + 1 ≤ V1.heap.size) := by have := hb1.size; simp only [World.size_alloc] at this; exact (by omega : _)
  have ba_0_1 : V1.cell? ⟨w.heap.size, 0, none⟩ = some (.string x.Name) := cell_later hb1 (by go_simp)
  have ba_1_1 : V1.cell? ⟨w.heap.size, 1, none⟩ = some (.int .i64 x.Value) := cell_later hb1 (by go_simp)
  have la_1 : w.heap.size < V1.heap.size := World.block_lt_of_cell? _ _ ba_0_1
  clear hb1
  cases h1 : stateB x
  · have q : Hid (slF n x = (ByteArray.empty, false)) := slF_no (by rw [okL, h1, Bool.and_false])
    clear h1
    go_wp2
    go_ret2
    exact ⟨ret_sb q.out rfl rfl, hk1⟩
  · go_wp2_with fail
    refine (inside_any n 0 39 _).mono ?_
    rintro _ V1 ⟨rfl, rfl⟩
    cases h0 : inB n 0 39
    · have q : Hid (slF n x = (ByteArray.empty, false)) := slF_no (by rw [okL, h0]; rfl)
      clear h0
      go_wp2
      go_ret2
      exact ⟨ret_sb q.out rfl rfl, hk1⟩
    · have hok : okL n x = true := by rw [okL, h0, h1]; rfl
      have q := Lib.hid (slF_yes hok)
      clear h0 h1
      go_wp2_with fail
      refine (stateLine_any n x _ hok (ht.below hk1)).mono ?_
      rintro e V2 ⟨rfl, hb2⟩
      have hB2 := bl_trans (a := V1) (bl_refl _) hb2
      have hk2 := bl_trans hk1 hB2
      have z2 := Lib.hid hB2.size
      have ba_0_2 : V2.cell? ⟨w.heap.size, 0, none⟩ = some (.string x.Name) := cell_later hB2 ba_0_1
      have ba_1_2 : V2.cell? ⟨w.heap.size, 1, none⟩ = some (.int .i64 x.Value) := cell_later hB2 ba_1_1
      have la_2 : w.heap.size < V2.heap.size := World.block_lt_of_cell? _ _ ba_0_2
      clear hk1 ba_0_1 ba_1_1 la_1
      go_wp2
      go_ret2
      exact ⟨ret_sb q.out rfl rfl, hk2⟩

end Go.Proofs.YtjnplafphocmiaaDoor
