/-
  Appliances as they are drawn. No conditions.
-/
import Derived.Test.YtpdblmcflniomaaGreatDoorIv27
import Derived.Deep.DeepCutAuto
import Derived.Deep.CutBlock
namespace Go.Proofs.YtpdblmcflniomaaGreatDoor
open Go.RowKit

/-- an appliance's box, while it is being drawn -/
def ApBox (w : World) (g r b : Nat) (N : Int) (name : ByteArray) (wx : World) : Prop := ∃ k n c s : Int, wx.cell? ⟨b, 0, none⟩ = some (.string name) ∧ wx.cell? ⟨b, 1, none⟩ = some (.int .i64 k) ∧ wx.cell? ⟨b, 2, none⟩ = some (.int .i64 n) ∧ wx.cell? ⟨b, 3, none⟩ = some (.int .i64 c) ∧ wx.cell? ⟨b, 4, none⟩ = some (.int .i64 s) ∧
  (wx.frozen? ⟨r, 0, none⟩ = false ∧ wx.frozen? ⟨r, 1, none⟩ = false ∧ wx.frozen? ⟨r, 2, none⟩ = false ∧ wx.frozen? ⟨r, 3, none⟩ = false ∧ wx.frozen? ⟨r, 4, none⟩ = false) ∧ (∃ v0 v1 v2 v3 v4, wx.cell? ⟨r, 0, none⟩ = some v0 ∧ wx.cell? ⟨r, 1, none⟩ = some v1 ∧ wx.cell? ⟨r, 2, none⟩ = some v2 ∧ wx.cell? ⟨r, 3, none⟩ = some v3 ∧ wx.cell? ⟨r, 4, none⟩ = some v4) ∧ Cur wx g N ∧ OnlyF [g] w wx
theorem Cur.setO {w : World} {g b o : Nat} {N : Int} (h : Cur w g N) (hb : g < b) (v : Value) : Cur (w.setCell ⟨b, o, none⟩ v) g N :=
  h.onlyF (F := [b]) ((OnlyF.refl _ _).set (List.mem_singleton.2 rfl) v) (fun j hj => by rw [List.mem_singleton.1 hj]; exact hb)
theorem OnlyF.setO {F : List Nat} {a w : World} {b o : Nat} (h : OnlyF F a w) (hb : a.heap.size ≤ b) (v : Value) : OnlyF F a (w.setCell ⟨b, o, none⟩ v) :=
  h.own (show OnlyF [b] w (w.setCell ⟨b, o, none⟩ v) from (OnlyF.refl _ _).set (List.mem_singleton.2 rfl) v) (fun j hj => by rw [List.mem_singleton.1 hj]; exact hb)
set_option maxRecDepth 100000 in
set_option maxHeartbeats 8000000 in
theorem appliance_any (g : Nat) (N : Int) (name : ByteArray) (w : World) (hc : Cur w g N) (hN : N ≤ 800000000) :
    Calls Tryz.prog 81 #[.pointer (some ⟨g, 0, none⟩), .string name, .int .i64 4] w fun e w' => ∃ k n c s : Int, e = .returned (.agg #[.string name, .int .i64 k, .int .i64 n, .int .i64 c, .int .i64 s]) ∧ Cur w' g (N + 20) ∧ OnlyF [g] w w' := by
  have lg0 := hc.lt
  go_enter Tryz.func81, Tryz.ntmps81
  go_wp2_with fail
  refine (among_any g _ _ _ _ [0, 0, 1, 2, 3] _ (hc.below (by repeat' (first | exact bl_refl _ | refine bl_alloc ?_ _ | refine bl_drew ?_ | refine bl_set ?_ (by simp; try omega) _))) (by omega) (by exact sl_lit' (by simp) rfl rfl) (by omega) (by omega) (by rintro b o h _; injection h with h; injection h with h1; omega)).mono ?_
  rintro e V1 ⟨k, rfl, h_k, hc1, hf1⟩
  have r0 : V1.cell? ⟨w.heap.size, 0, none⟩ = some (.string ⟨#[]⟩) := hf1.keeps (by go_simp) (by simp only [List.mem_singleton]; omega)
  have r1 : V1.cell? ⟨w.heap.size, 1, none⟩ = some (.int .i64 0) := hf1.keeps (by go_simp) (by simp only [List.mem_singleton]; omega)
  have r2 : V1.cell? ⟨w.heap.size, 2, none⟩ = some (.int .i64 0) := hf1.keeps (by go_simp) (by simp only [List.mem_singleton]; omega)
  have r3 : V1.cell? ⟨w.heap.size, 3, none⟩ = some (.int .i64 0) := hf1.keeps (by go_simp) (by simp only [List.mem_singleton]; omega)
  have r4 : V1.cell? ⟨w.heap.size, 4, none⟩ = some (.int .i64 0) := hf1.keeps (by go_simp) (by simp only [List.mem_singleton]; omega)
  have fr0 : V1.frozen? ⟨w.heap.size, 0, none⟩ = false := (hf1.frozen (by simp; try omega) (by simp only [List.mem_singleton]; omega)).trans (by go_simp)
  have fr1 : V1.frozen? ⟨w.heap.size, 1, none⟩ = false := (hf1.frozen (by simp; try omega) (by simp only [List.mem_singleton]; omega)).trans (by go_simp)
  have fr2 : V1.frozen? ⟨w.heap.size, 2, none⟩ = false := (hf1.frozen (by simp; try omega) (by simp only [List.mem_singleton]; omega)).trans (by go_simp)
  have fr3 : V1.frozen? ⟨w.heap.size, 3, none⟩ = false := (hf1.frozen (by simp; try omega) (by simp only [List.mem_singleton]; omega)).trans (by go_simp)
  have fr4 : V1.frozen? ⟨w.heap.size, 4, none⟩ = false := (hf1.frozen (by simp; try omega) (by simp only [List.mem_singleton]; omega)).trans (by go_simp)
  have lr1 : w.heap.size < V1.heap.size := World.block_lt_of_cell? _ _ r0
  have lg1 : g < V1.heap.size := hc1.lt
  have hF1 : OnlyF [g] w V1 := (OnlyF.below (a := w) (by repeat' (first | exact bl_refl _ | refine bl_alloc ?_ _ | refine bl_drew ?_ | refine bl_set ?_ (by simp; try omega) _))).trans hf1
  clear h_k
  go_wp2_with fail
  refine (pick_any g _ 4 _ (hc1.below (by repeat' (first | exact bl_refl _ | refine bl_alloc ?_ _ | refine bl_drew ?_ | refine bl_set ?_ (by simp; try omega) _))) (by omega) (by omega)).mono ?_
  rintro e V2 ⟨n, rfl, h_n, hc2, hf2⟩
  replace r0 : V2.cell? ⟨w.heap.size, 0, none⟩ = some (.string ⟨#[]⟩) := hf2.keeps (by go_simp) (by simp only [List.mem_singleton]; omega)
  replace r1 : V2.cell? ⟨w.heap.size, 1, none⟩ = some (.int .i64 0) := hf2.keeps (by go_simp) (by simp only [List.mem_singleton]; omega)
  replace r2 : V2.cell? ⟨w.heap.size, 2, none⟩ = some (.int .i64 0) := hf2.keeps (by go_simp) (by simp only [List.mem_singleton]; omega)
  replace r3 : V2.cell? ⟨w.heap.size, 3, none⟩ = some (.int .i64 0) := hf2.keeps (by go_simp) (by simp only [List.mem_singleton]; omega)
  replace r4 : V2.cell? ⟨w.heap.size, 4, none⟩ = some (.int .i64 0) := hf2.keeps (by go_simp) (by simp only [List.mem_singleton]; omega)
  replace fr0 : V2.frozen? ⟨w.heap.size, 0, none⟩ = false := (hf2.frozen (by simp; try omega) (by simp only [List.mem_singleton]; omega)).trans (by go_simp)
  replace fr1 : V2.frozen? ⟨w.heap.size, 1, none⟩ = false := (hf2.frozen (by simp; try omega) (by simp only [List.mem_singleton]; omega)).trans (by go_simp)
  replace fr2 : V2.frozen? ⟨w.heap.size, 2, none⟩ = false := (hf2.frozen (by simp; try omega) (by simp only [List.mem_singleton]; omega)).trans (by go_simp)
  replace fr3 : V2.frozen? ⟨w.heap.size, 3, none⟩ = false := (hf2.frozen (by simp; try omega) (by simp only [List.mem_singleton]; omega)).trans (by go_simp)
  replace fr4 : V2.frozen? ⟨w.heap.size, 4, none⟩ = false := (hf2.frozen (by simp; try omega) (by simp only [List.mem_singleton]; omega)).trans (by go_simp)
  have lr2 : w.heap.size < V2.heap.size := World.block_lt_of_cell? _ _ r0
  have lg2 : g < V2.heap.size := hc2.lt
  have hF2 : OnlyF [g] w V2 := hF1.trans ((OnlyF.below (a := V1) (by repeat' (first | exact bl_refl _ | refine bl_alloc ?_ _ | refine bl_drew ?_ | refine bl_set ?_ (by simp; try omega) _))).trans hf2)
  clear h_n
  go_wp2_with fail
  refine (among_any g _ _ _ _ [6, 4, 3, 2, 1, 9] _ (hc2.below (by repeat' (first | exact bl_refl _ | refine bl_alloc ?_ _ | refine bl_drew ?_ | refine bl_set ?_ (by simp; try omega) _))) (by omega) (by exact sl_lit' (by simp) rfl rfl) (by omega) (by omega) (by rintro b o h _; injection h with h; injection h with h1; omega)).mono ?_
  rintro e V3 ⟨c, rfl, h_c, hc3, hf3⟩
  replace r0 : V3.cell? ⟨w.heap.size, 0, none⟩ = some (.string ⟨#[]⟩) := hf3.keeps (by go_simp) (by simp only [List.mem_singleton]; omega)
  replace r1 : V3.cell? ⟨w.heap.size, 1, none⟩ = some (.int .i64 0) := hf3.keeps (by go_simp) (by simp only [List.mem_singleton]; omega)
  replace r2 : V3.cell? ⟨w.heap.size, 2, none⟩ = some (.int .i64 0) := hf3.keeps (by go_simp) (by simp only [List.mem_singleton]; omega)
  replace r3 : V3.cell? ⟨w.heap.size, 3, none⟩ = some (.int .i64 0) := hf3.keeps (by go_simp) (by simp only [List.mem_singleton]; omega)
  replace r4 : V3.cell? ⟨w.heap.size, 4, none⟩ = some (.int .i64 0) := hf3.keeps (by go_simp) (by simp only [List.mem_singleton]; omega)
  replace fr0 : V3.frozen? ⟨w.heap.size, 0, none⟩ = false := (hf3.frozen (by simp; try omega) (by simp only [List.mem_singleton]; omega)).trans (by go_simp)
  replace fr1 : V3.frozen? ⟨w.heap.size, 1, none⟩ = false := (hf3.frozen (by simp; try omega) (by simp only [List.mem_singleton]; omega)).trans (by go_simp)
  replace fr2 : V3.frozen? ⟨w.heap.size, 2, none⟩ = false := (hf3.frozen (by simp; try omega) (by simp only [List.mem_singleton]; omega)).trans (by go_simp)
  replace fr3 : V3.frozen? ⟨w.heap.size, 3, none⟩ = false := (hf3.frozen (by simp; try omega) (by simp only [List.mem_singleton]; omega)).trans (by go_simp)
  replace fr4 : V3.frozen? ⟨w.heap.size, 4, none⟩ = false := (hf3.frozen (by simp; try omega) (by simp only [List.mem_singleton]; omega)).trans (by go_simp)
  have lr3 : w.heap.size < V3.heap.size := World.block_lt_of_cell? _ _ r0
  have lg3 : g < V3.heap.size := hc3.lt
  have hF3 : OnlyF [g] w V3 := hF2.trans ((OnlyF.below (a := V2) (by repeat' (first | exact bl_refl _ | refine bl_alloc ?_ _ | refine bl_drew ?_ | refine bl_set ?_ (by simp; try omega) _))).trans hf3)
  clear h_c
  go_wp2_with fail
  refine (among_any g _ _ _ _ [0, 0, 0, 4, 1, 2, 3, 5] _ (hc3.below (by repeat' (first | exact bl_refl _ | refine bl_alloc ?_ _ | refine bl_drew ?_ | refine bl_set ?_ (by simp; try omega) _))) (by omega) (by exact sl_lit' (by simp) rfl rfl) (by omega) (by omega) (by rintro b o h _; injection h with h; injection h with h1; omega)).mono ?_
  rintro e V4 ⟨s, rfl, h_s, hc4, hf4⟩
  replace r0 : V4.cell? ⟨w.heap.size, 0, none⟩ = some (.string ⟨#[]⟩) := hf4.keeps (by go_simp) (by simp only [List.mem_singleton]; omega)
  replace r1 : V4.cell? ⟨w.heap.size, 1, none⟩ = some (.int .i64 0) := hf4.keeps (by go_simp) (by simp only [List.mem_singleton]; omega)
  replace r2 : V4.cell? ⟨w.heap.size, 2, none⟩ = some (.int .i64 0) := hf4.keeps (by go_simp) (by simp only [List.mem_singleton]; omega)
  replace r3 : V4.cell? ⟨w.heap.size, 3, none⟩ = some (.int .i64 0) := hf4.keeps (by go_simp) (by simp only [List.mem_singleton]; omega)
  replace r4 : V4.cell? ⟨w.heap.size, 4, none⟩ = some (.int .i64 0) := hf4.keeps (by go_simp) (by simp only [List.mem_singleton]; omega)
  replace fr0 : V4.frozen? ⟨w.heap.size, 0, none⟩ = false := (hf4.frozen (by simp; try omega) (by simp only [List.mem_singleton]; omega)).trans (by go_simp)
  replace fr1 : V4.frozen? ⟨w.heap.size, 1, none⟩ = false := (hf4.frozen (by simp; try omega) (by simp only [List.mem_singleton]; omega)).trans (by go_simp)
  replace fr2 : V4.frozen? ⟨w.heap.size, 2, none⟩ = false := (hf4.frozen (by simp; try omega) (by simp only [List.mem_singleton]; omega)).trans (by go_simp)
  replace fr3 : V4.frozen? ⟨w.heap.size, 3, none⟩ = false := (hf4.frozen (by simp; try omega) (by simp only [List.mem_singleton]; omega)).trans (by go_simp)
  replace fr4 : V4.frozen? ⟨w.heap.size, 4, none⟩ = false := (hf4.frozen (by simp; try omega) (by simp only [List.mem_singleton]; omega)).trans (by go_simp)
  have lr4 : w.heap.size < V4.heap.size := World.block_lt_of_cell? _ _ r0
  have lg4 : g < V4.heap.size := hc4.lt
  have hF4 : OnlyF [g] w V4 := hF3.trans ((OnlyF.below (a := V3) (by repeat' (first | exact bl_refl _ | refine bl_alloc ?_ _ | refine bl_drew ?_ | refine bl_set ?_ (by simp; try omega) _))).trans hf4)
  clear h_s
  have z4 : w.heap.size < V4.heap.size := lr4
  have ne_a_r : ¬ (V4.heap.size = w.heap.size) := by omega
  have ne_r_a : ¬ (w.heap.size = V4.heap.size) := by omega
  go_wp2_with fail
  refine (pick_any g _ 80 _ (hc4.below (by repeat' (first | exact bl_refl _ | refine bl_alloc ?_ _ | refine bl_drew ?_ | refine bl_set ?_ (by simp; try omega) _))) (by omega) (by omega)).mono ?_
  rintro e V5 ⟨q, rfl, h_q, hc5, hf5⟩
  replace r0 : V5.cell? ⟨w.heap.size, 0, none⟩ = some (.string ⟨#[]⟩) := hf5.keeps (by go_simp) (by simp only [List.mem_singleton]; omega)
  replace r1 : V5.cell? ⟨w.heap.size, 1, none⟩ = some (.int .i64 0) := hf5.keeps (by go_simp) (by simp only [List.mem_singleton]; omega)
  replace r2 : V5.cell? ⟨w.heap.size, 2, none⟩ = some (.int .i64 0) := hf5.keeps (by go_simp) (by simp only [List.mem_singleton]; omega)
  replace r3 : V5.cell? ⟨w.heap.size, 3, none⟩ = some (.int .i64 0) := hf5.keeps (by go_simp) (by simp only [List.mem_singleton]; omega)
  replace r4 : V5.cell? ⟨w.heap.size, 4, none⟩ = some (.int .i64 0) := hf5.keeps (by go_simp) (by simp only [List.mem_singleton]; omega)
  replace fr0 : V5.frozen? ⟨w.heap.size, 0, none⟩ = false := (hf5.frozen (by simp; try omega) (by simp only [List.mem_singleton]; omega)).trans (by go_simp)
  replace fr1 : V5.frozen? ⟨w.heap.size, 1, none⟩ = false := (hf5.frozen (by simp; try omega) (by simp only [List.mem_singleton]; omega)).trans (by go_simp)
  replace fr2 : V5.frozen? ⟨w.heap.size, 2, none⟩ = false := (hf5.frozen (by simp; try omega) (by simp only [List.mem_singleton]; omega)).trans (by go_simp)
  replace fr3 : V5.frozen? ⟨w.heap.size, 3, none⟩ = false := (hf5.frozen (by simp; try omega) (by simp only [List.mem_singleton]; omega)).trans (by go_simp)
  replace fr4 : V5.frozen? ⟨w.heap.size, 4, none⟩ = false := (hf5.frozen (by simp; try omega) (by simp only [List.mem_singleton]; omega)).trans (by go_simp)
  have lr5 : w.heap.size < V5.heap.size := World.block_lt_of_cell? _ _ r0
  have a0 : V5.cell? ⟨V4.heap.size, 0, none⟩ = some (.string name) := hf5.keeps (by go_simp) (by simp only [List.mem_singleton]; omega)
  have a1 : V5.cell? ⟨V4.heap.size, 1, none⟩ = some (.int .i64 k) := hf5.keeps (by go_simp) (by simp only [List.mem_singleton]; omega)
  have a2 : V5.cell? ⟨V4.heap.size, 2, none⟩ = some (.int .i64 n) := hf5.keeps (by go_simp) (by simp only [List.mem_singleton]; omega)
  have a3 : V5.cell? ⟨V4.heap.size, 3, none⟩ = some (.int .i64 c) := hf5.keeps (by go_simp) (by simp only [List.mem_singleton]; omega)
  have a4 : V5.cell? ⟨V4.heap.size, 4, none⟩ = some (.int .i64 s) := hf5.keeps (by go_simp) (by simp only [List.mem_singleton]; omega)
  have fa0 : V5.frozen? ⟨V4.heap.size, 0, none⟩ = false := (hf5.frozen (by simp; try omega) (by simp only [List.mem_singleton]; omega)).trans (by go_simp)
  have fa1 : V5.frozen? ⟨V4.heap.size, 1, none⟩ = false := (hf5.frozen (by simp; try omega) (by simp only [List.mem_singleton]; omega)).trans (by go_simp)
  have fa2 : V5.frozen? ⟨V4.heap.size, 2, none⟩ = false := (hf5.frozen (by simp; try omega) (by simp only [List.mem_singleton]; omega)).trans (by go_simp)
  have fa3 : V5.frozen? ⟨V4.heap.size, 3, none⟩ = false := (hf5.frozen (by simp; try omega) (by simp only [List.mem_singleton]; omega)).trans (by go_simp)
  have fa4 : V5.frozen? ⟨V4.heap.size, 4, none⟩ = false := (hf5.frozen (by simp; try omega) (by simp only [List.mem_singleton]; omega)).trans (by go_simp)
  have la5 : V4.heap.size < V5.heap.size := World.block_lt_of_cell? _ _ a0
  have lg5 : g < V5.heap.size := hc5.lt
  have hF5 : OnlyF [g] w V5 := hF4.trans ((OnlyF.below (a := V4) (by repeat' (first | exact bl_refl _ | refine bl_alloc ?_ _ | refine bl_drew ?_ | refine bl_set ?_ (by simp; try omega) _))).trans hf5)
  clear h_q
  go_upto_block 0 with fail
  go_cut [] (fun wx => ApBox w g w.heap.size V4.heap.size (N + 12) name wx)
  case first =>
    by_cases h0 : q = 0
    · subst h0
      go_wp2_with fail
      refine (among_any g _ _ _ _ [-1, 4] _ (hc5.below (by repeat' (first | exact bl_refl _ | refine bl_alloc ?_ _ | refine bl_drew ?_ | refine bl_set ?_ (by simp; try omega) _))) (by omega) (by exact sl_lit' (by simp) rfl rfl) (by omega) (by omega) (by rintro b o h _; injection h with h; injection h with h1; omega)).mono ?_
      rintro e V6 ⟨x, rfl, h_x, hc6, hf6⟩
      replace r0 : V6.cell? ⟨w.heap.size, 0, none⟩ = some (.string ⟨#[]⟩) := hf6.keeps (by go_simp) (by simp only [List.mem_singleton]; omega)
      replace r1 : V6.cell? ⟨w.heap.size, 1, none⟩ = some (.int .i64 0) := hf6.keeps (by go_simp) (by simp only [List.mem_singleton]; omega)
      replace r2 : V6.cell? ⟨w.heap.size, 2, none⟩ = some (.int .i64 0) := hf6.keeps (by go_simp) (by simp only [List.mem_singleton]; omega)
      replace r3 : V6.cell? ⟨w.heap.size, 3, none⟩ = some (.int .i64 0) := hf6.keeps (by go_simp) (by simp only [List.mem_singleton]; omega)
      replace r4 : V6.cell? ⟨w.heap.size, 4, none⟩ = some (.int .i64 0) := hf6.keeps (by go_simp) (by simp only [List.mem_singleton]; omega)
      replace fr0 : V6.frozen? ⟨w.heap.size, 0, none⟩ = false := (hf6.frozen (by simp; try omega) (by simp only [List.mem_singleton]; omega)).trans (by go_simp)
      replace fr1 : V6.frozen? ⟨w.heap.size, 1, none⟩ = false := (hf6.frozen (by simp; try omega) (by simp only [List.mem_singleton]; omega)).trans (by go_simp)
      replace fr2 : V6.frozen? ⟨w.heap.size, 2, none⟩ = false := (hf6.frozen (by simp; try omega) (by simp only [List.mem_singleton]; omega)).trans (by go_simp)
      replace fr3 : V6.frozen? ⟨w.heap.size, 3, none⟩ = false := (hf6.frozen (by simp; try omega) (by simp only [List.mem_singleton]; omega)).trans (by go_simp)
      replace fr4 : V6.frozen? ⟨w.heap.size, 4, none⟩ = false := (hf6.frozen (by simp; try omega) (by simp only [List.mem_singleton]; omega)).trans (by go_simp)
      have lr6 : w.heap.size < V6.heap.size := World.block_lt_of_cell? _ _ r0
      replace a0 : V6.cell? ⟨V4.heap.size, 0, none⟩ = some (.string name) := hf6.keeps (by go_simp) (by simp only [List.mem_singleton]; omega)
      replace a1 : V6.cell? ⟨V4.heap.size, 1, none⟩ = some (.int .i64 k) := hf6.keeps (by go_simp) (by simp only [List.mem_singleton]; omega)
      replace a2 : V6.cell? ⟨V4.heap.size, 2, none⟩ = some (.int .i64 n) := hf6.keeps (by go_simp) (by simp only [List.mem_singleton]; omega)
      replace a3 : V6.cell? ⟨V4.heap.size, 3, none⟩ = some (.int .i64 c) := hf6.keeps (by go_simp) (by simp only [List.mem_singleton]; omega)
      replace a4 : V6.cell? ⟨V4.heap.size, 4, none⟩ = some (.int .i64 s) := hf6.keeps (by go_simp) (by simp only [List.mem_singleton]; omega)
      replace fa0 : V6.frozen? ⟨V4.heap.size, 0, none⟩ = false := (hf6.frozen (by simp; try omega) (by simp only [List.mem_singleton]; omega)).trans (by go_simp)
      replace fa1 : V6.frozen? ⟨V4.heap.size, 1, none⟩ = false := (hf6.frozen (by simp; try omega) (by simp only [List.mem_singleton]; omega)).trans (by go_simp)
      replace fa2 : V6.frozen? ⟨V4.heap.size, 2, none⟩ = false := (hf6.frozen (by simp; try omega) (by simp only [List.mem_singleton]; omega)).trans (by go_simp)
      replace fa3 : V6.frozen? ⟨V4.heap.size, 3, none⟩ = false := (hf6.frozen (by simp; try omega) (by simp only [List.mem_singleton]; omega)).trans (by go_simp)
      replace fa4 : V6.frozen? ⟨V4.heap.size, 4, none⟩ = false := (hf6.frozen (by simp; try omega) (by simp only [List.mem_singleton]; omega)).trans (by go_simp)
      have la6 : V4.heap.size < V6.heap.size := World.block_lt_of_cell? _ _ a0
      have lg6 : g < V6.heap.size := hc6.lt
      have hF6 : OnlyF [g] w V6 := hF5.trans ((OnlyF.below (a := V5) (by repeat' (first | exact bl_refl _ | refine bl_alloc ?_ _ | refine bl_drew ?_ | refine bl_set ?_ (by simp; try omega) _))).trans hf6)
      clear h_x
      go_wp2_with fail
      go_meet
      exact ⟨x, n, c, s, (by go_simp), (by go_simp), (by go_simp), (by go_simp), (by go_simp), ⟨(by go_simp), (by go_simp), (by go_simp), (by go_simp), (by go_simp)⟩, ⟨.string ⟨#[]⟩, .int .i64 0, .int .i64 0, .int .i64 0, .int .i64 0, (by go_simp), (by go_simp), (by go_simp), (by go_simp), (by go_simp)⟩, ((hc6.mono (by omega)).setO (by omega) _), (hF6.setO (by omega) _)⟩
    by_cases h1 : q = 1
    · subst h1
      go_wp2_with fail
      refine (among_any g _ _ _ _ [-1, 13, 14] _ (hc5.below (by repeat' (first | exact bl_refl _ | refine bl_alloc ?_ _ | refine bl_drew ?_ | refine bl_set ?_ (by simp; try omega) _))) (by omega) (by exact sl_lit' (by simp) rfl rfl) (by omega) (by omega) (by rintro b o h _; injection h with h; injection h with h1; omega)).mono ?_
      rintro e V6 ⟨x, rfl, h_x, hc6, hf6⟩
      replace r0 : V6.cell? ⟨w.heap.size, 0, none⟩ = some (.string ⟨#[]⟩) := hf6.keeps (by go_simp) (by simp only [List.mem_singleton]; omega)
      replace r1 : V6.cell? ⟨w.heap.size, 1, none⟩ = some (.int .i64 0) := hf6.keeps (by go_simp) (by simp only [List.mem_singleton]; omega)
      replace r2 : V6.cell? ⟨w.heap.size, 2, none⟩ = some (.int .i64 0) := hf6.keeps (by go_simp) (by simp only [List.mem_singleton]; omega)
      replace r3 : V6.cell? ⟨w.heap.size, 3, none⟩ = some (.int .i64 0) := hf6.keeps (by go_simp) (by simp only [List.mem_singleton]; omega)
      replace r4 : V6.cell? ⟨w.heap.size, 4, none⟩ = some (.int .i64 0) := hf6.keeps (by go_simp) (by simp only [List.mem_singleton]; omega)
      replace fr0 : V6.frozen? ⟨w.heap.size, 0, none⟩ = false := (hf6.frozen (by simp; try omega) (by simp only [List.mem_singleton]; omega)).trans (by go_simp)
      replace fr1 : V6.frozen? ⟨w.heap.size, 1, none⟩ = false := (hf6.frozen (by simp; try omega) (by simp only [List.mem_singleton]; omega)).trans (by go_simp)
      replace fr2 : V6.frozen? ⟨w.heap.size, 2, none⟩ = false := (hf6.frozen (by simp; try omega) (by simp only [List.mem_singleton]; omega)).trans (by go_simp)
      replace fr3 : V6.frozen? ⟨w.heap.size, 3, none⟩ = false := (hf6.frozen (by simp; try omega) (by simp only [List.mem_singleton]; omega)).trans (by go_simp)
      replace fr4 : V6.frozen? ⟨w.heap.size, 4, none⟩ = false := (hf6.frozen (by simp; try omega) (by simp only [List.mem_singleton]; omega)).trans (by go_simp)
      have lr6 : w.heap.size < V6.heap.size := World.block_lt_of_cell? _ _ r0
      replace a0 : V6.cell? ⟨V4.heap.size, 0, none⟩ = some (.string name) := hf6.keeps (by go_simp) (by simp only [List.mem_singleton]; omega)
      replace a1 : V6.cell? ⟨V4.heap.size, 1, none⟩ = some (.int .i64 k) := hf6.keeps (by go_simp) (by simp only [List.mem_singleton]; omega)
      replace a2 : V6.cell? ⟨V4.heap.size, 2, none⟩ = some (.int .i64 n) := hf6.keeps (by go_simp) (by simp only [List.mem_singleton]; omega)
      replace a3 : V6.cell? ⟨V4.heap.size, 3, none⟩ = some (.int .i64 c) := hf6.keeps (by go_simp) (by simp only [List.mem_singleton]; omega)
      replace a4 : V6.cell? ⟨V4.heap.size, 4, none⟩ = some (.int .i64 s) := hf6.keeps (by go_simp) (by simp only [List.mem_singleton]; omega)
      replace fa0 : V6.frozen? ⟨V4.heap.size, 0, none⟩ = false := (hf6.frozen (by simp; try omega) (by simp only [List.mem_singleton]; omega)).trans (by go_simp)
      replace fa1 : V6.frozen? ⟨V4.heap.size, 1, none⟩ = false := (hf6.frozen (by simp; try omega) (by simp only [List.mem_singleton]; omega)).trans (by go_simp)
      replace fa2 : V6.frozen? ⟨V4.heap.size, 2, none⟩ = false := (hf6.frozen (by simp; try omega) (by simp only [List.mem_singleton]; omega)).trans (by go_simp)
      replace fa3 : V6.frozen? ⟨V4.heap.size, 3, none⟩ = false := (hf6.frozen (by simp; try omega) (by simp only [List.mem_singleton]; omega)).trans (by go_simp)
      replace fa4 : V6.frozen? ⟨V4.heap.size, 4, none⟩ = false := (hf6.frozen (by simp; try omega) (by simp only [List.mem_singleton]; omega)).trans (by go_simp)
      have la6 : V4.heap.size < V6.heap.size := World.block_lt_of_cell? _ _ a0
      have lg6 : g < V6.heap.size := hc6.lt
      have hF6 : OnlyF [g] w V6 := hF5.trans ((OnlyF.below (a := V5) (by repeat' (first | exact bl_refl _ | refine bl_alloc ?_ _ | refine bl_drew ?_ | refine bl_set ?_ (by simp; try omega) _))).trans hf6)
      clear h_x
      go_wp2_with fail
      go_meet
      exact ⟨k, x, c, s, (by go_simp), (by go_simp), (by go_simp), (by go_simp), (by go_simp), ⟨(by go_simp), (by go_simp), (by go_simp), (by go_simp), (by go_simp)⟩, ⟨.string ⟨#[]⟩, .int .i64 0, .int .i64 0, .int .i64 0, .int .i64 0, (by go_simp), (by go_simp), (by go_simp), (by go_simp), (by go_simp)⟩, ((hc6.mono (by omega)).setO (by omega) _), (hF6.setO (by omega) _)⟩
    by_cases h2 : q = 2
    · subst h2
      go_wp2_with fail
      refine (among_any g _ _ _ _ [0, 10, -9223372036854775808] _ (hc5.below (by repeat' (first | exact bl_refl _ | refine bl_alloc ?_ _ | refine bl_drew ?_ | refine bl_set ?_ (by simp; try omega) _))) (by omega) (by exact sl_lit' (by simp) rfl rfl) (by omega) (by omega) (by rintro b o h _; injection h with h; injection h with h1; omega)).mono ?_
      rintro e V6 ⟨x, rfl, h_x, hc6, hf6⟩
      replace r0 : V6.cell? ⟨w.heap.size, 0, none⟩ = some (.string ⟨#[]⟩) := hf6.keeps (by go_simp) (by simp only [List.mem_singleton]; omega)
      replace r1 : V6.cell? ⟨w.heap.size, 1, none⟩ = some (.int .i64 0) := hf6.keeps (by go_simp) (by simp only [List.mem_singleton]; omega)
      replace r2 : V6.cell? ⟨w.heap.size, 2, none⟩ = some (.int .i64 0) := hf6.keeps (by go_simp) (by simp only [List.mem_singleton]; omega)
      replace r3 : V6.cell? ⟨w.heap.size, 3, none⟩ = some (.int .i64 0) := hf6.keeps (by go_simp) (by simp only [List.mem_singleton]; omega)
      replace r4 : V6.cell? ⟨w.heap.size, 4, none⟩ = some (.int .i64 0) := hf6.keeps (by go_simp) (by simp only [List.mem_singleton]; omega)
      replace fr0 : V6.frozen? ⟨w.heap.size, 0, none⟩ = false := (hf6.frozen (by simp; try omega) (by simp only [List.mem_singleton]; omega)).trans (by go_simp)
      replace fr1 : V6.frozen? ⟨w.heap.size, 1, none⟩ = false := (hf6.frozen (by simp; try omega) (by simp only [List.mem_singleton]; omega)).trans (by go_simp)
      replace fr2 : V6.frozen? ⟨w.heap.size, 2, none⟩ = false := (hf6.frozen (by simp; try omega) (by simp only [List.mem_singleton]; omega)).trans (by go_simp)
      replace fr3 : V6.frozen? ⟨w.heap.size, 3, none⟩ = false := (hf6.frozen (by simp; try omega) (by simp only [List.mem_singleton]; omega)).trans (by go_simp)
      replace fr4 : V6.frozen? ⟨w.heap.size, 4, none⟩ = false := (hf6.frozen (by simp; try omega) (by simp only [List.mem_singleton]; omega)).trans (by go_simp)
      have lr6 : w.heap.size < V6.heap.size := World.block_lt_of_cell? _ _ r0
      replace a0 : V6.cell? ⟨V4.heap.size, 0, none⟩ = some (.string name) := hf6.keeps (by go_simp) (by simp only [List.mem_singleton]; omega)
      replace a1 : V6.cell? ⟨V4.heap.size, 1, none⟩ = some (.int .i64 k) := hf6.keeps (by go_simp) (by simp only [List.mem_singleton]; omega)
      replace a2 : V6.cell? ⟨V4.heap.size, 2, none⟩ = some (.int .i64 n) := hf6.keeps (by go_simp) (by simp only [List.mem_singleton]; omega)
      replace a3 : V6.cell? ⟨V4.heap.size, 3, none⟩ = some (.int .i64 c) := hf6.keeps (by go_simp) (by simp only [List.mem_singleton]; omega)
      replace a4 : V6.cell? ⟨V4.heap.size, 4, none⟩ = some (.int .i64 s) := hf6.keeps (by go_simp) (by simp only [List.mem_singleton]; omega)
      replace fa0 : V6.frozen? ⟨V4.heap.size, 0, none⟩ = false := (hf6.frozen (by simp; try omega) (by simp only [List.mem_singleton]; omega)).trans (by go_simp)
      replace fa1 : V6.frozen? ⟨V4.heap.size, 1, none⟩ = false := (hf6.frozen (by simp; try omega) (by simp only [List.mem_singleton]; omega)).trans (by go_simp)
      replace fa2 : V6.frozen? ⟨V4.heap.size, 2, none⟩ = false := (hf6.frozen (by simp; try omega) (by simp only [List.mem_singleton]; omega)).trans (by go_simp)
      replace fa3 : V6.frozen? ⟨V4.heap.size, 3, none⟩ = false := (hf6.frozen (by simp; try omega) (by simp only [List.mem_singleton]; omega)).trans (by go_simp)
      replace fa4 : V6.frozen? ⟨V4.heap.size, 4, none⟩ = false := (hf6.frozen (by simp; try omega) (by simp only [List.mem_singleton]; omega)).trans (by go_simp)
      have la6 : V4.heap.size < V6.heap.size := World.block_lt_of_cell? _ _ a0
      have lg6 : g < V6.heap.size := hc6.lt
      have hF6 : OnlyF [g] w V6 := hF5.trans ((OnlyF.below (a := V5) (by repeat' (first | exact bl_refl _ | refine bl_alloc ?_ _ | refine bl_drew ?_ | refine bl_set ?_ (by simp; try omega) _))).trans hf6)
      clear h_x
      go_wp2_with fail
      go_meet
      exact ⟨k, n, x, s, (by go_simp), (by go_simp), (by go_simp), (by go_simp), (by go_simp), ⟨(by go_simp), (by go_simp), (by go_simp), (by go_simp), (by go_simp)⟩, ⟨.string ⟨#[]⟩, .int .i64 0, .int .i64 0, .int .i64 0, .int .i64 0, (by go_simp), (by go_simp), (by go_simp), (by go_simp), (by go_simp)⟩, ((hc6.mono (by omega)).setO (by omega) _), (hF6.setO (by omega) _)⟩
    by_cases h3 : q = 3
    · subst h3
      go_wp2_with fail
      refine (among_any g _ _ _ _ [-1, 6] _ (hc5.below (by repeat' (first | exact bl_refl _ | refine bl_alloc ?_ _ | refine bl_drew ?_ | refine bl_set ?_ (by simp; try omega) _))) (by omega) (by exact sl_lit' (by simp) rfl rfl) (by omega) (by omega) (by rintro b o h _; injection h with h; injection h with h1; omega)).mono ?_
      rintro e V6 ⟨x, rfl, h_x, hc6, hf6⟩
      replace r0 : V6.cell? ⟨w.heap.size, 0, none⟩ = some (.string ⟨#[]⟩) := hf6.keeps (by go_simp) (by simp only [List.mem_singleton]; omega)
      replace r1 : V6.cell? ⟨w.heap.size, 1, none⟩ = some (.int .i64 0) := hf6.keeps (by go_simp) (by simp only [List.mem_singleton]; omega)
      replace r2 : V6.cell? ⟨w.heap.size, 2, none⟩ = some (.int .i64 0) := hf6.keeps (by go_simp) (by simp only [List.mem_singleton]; omega)
      replace r3 : V6.cell? ⟨w.heap.size, 3, none⟩ = some (.int .i64 0) := hf6.keeps (by go_simp) (by simp only [List.mem_singleton]; omega)
      replace r4 : V6.cell? ⟨w.heap.size, 4, none⟩ = some (.int .i64 0) := hf6.keeps (by go_simp) (by simp only [List.mem_singleton]; omega)
      replace fr0 : V6.frozen? ⟨w.heap.size, 0, none⟩ = false := (hf6.frozen (by simp; try omega) (by simp only [List.mem_singleton]; omega)).trans (by go_simp)
      replace fr1 : V6.frozen? ⟨w.heap.size, 1, none⟩ = false := (hf6.frozen (by simp; try omega) (by simp only [List.mem_singleton]; omega)).trans (by go_simp)
      replace fr2 : V6.frozen? ⟨w.heap.size, 2, none⟩ = false := (hf6.frozen (by simp; try omega) (by simp only [List.mem_singleton]; omega)).trans (by go_simp)
      replace fr3 : V6.frozen? ⟨w.heap.size, 3, none⟩ = false := (hf6.frozen (by simp; try omega) (by simp only [List.mem_singleton]; omega)).trans (by go_simp)
      replace fr4 : V6.frozen? ⟨w.heap.size, 4, none⟩ = false := (hf6.frozen (by simp; try omega) (by simp only [List.mem_singleton]; omega)).trans (by go_simp)
      have lr6 : w.heap.size < V6.heap.size := World.block_lt_of_cell? _ _ r0
      replace a0 : V6.cell? ⟨V4.heap.size, 0, none⟩ = some (.string name) := hf6.keeps (by go_simp) (by simp only [List.mem_singleton]; omega)
      replace a1 : V6.cell? ⟨V4.heap.size, 1, none⟩ = some (.int .i64 k) := hf6.keeps (by go_simp) (by simp only [List.mem_singleton]; omega)
      replace a2 : V6.cell? ⟨V4.heap.size, 2, none⟩ = some (.int .i64 n) := hf6.keeps (by go_simp) (by simp only [List.mem_singleton]; omega)
      replace a3 : V6.cell? ⟨V4.heap.size, 3, none⟩ = some (.int .i64 c) := hf6.keeps (by go_simp) (by simp only [List.mem_singleton]; omega)
      replace a4 : V6.cell? ⟨V4.heap.size, 4, none⟩ = some (.int .i64 s) := hf6.keeps (by go_simp) (by simp only [List.mem_singleton]; omega)
      replace fa0 : V6.frozen? ⟨V4.heap.size, 0, none⟩ = false := (hf6.frozen (by simp; try omega) (by simp only [List.mem_singleton]; omega)).trans (by go_simp)
      replace fa1 : V6.frozen? ⟨V4.heap.size, 1, none⟩ = false := (hf6.frozen (by simp; try omega) (by simp only [List.mem_singleton]; omega)).trans (by go_simp)
      replace fa2 : V6.frozen? ⟨V4.heap.size, 2, none⟩ = false := (hf6.frozen (by simp; try omega) (by simp only [List.mem_singleton]; omega)).trans (by go_simp)
      replace fa3 : V6.frozen? ⟨V4.heap.size, 3, none⟩ = false := (hf6.frozen (by simp; try omega) (by simp only [List.mem_singleton]; omega)).trans (by go_simp)
      replace fa4 : V6.frozen? ⟨V4.heap.size, 4, none⟩ = false := (hf6.frozen (by simp; try omega) (by simp only [List.mem_singleton]; omega)).trans (by go_simp)
      have la6 : V4.heap.size < V6.heap.size := World.block_lt_of_cell? _ _ a0
      have lg6 : g < V6.heap.size := hc6.lt
      have hF6 : OnlyF [g] w V6 := hF5.trans ((OnlyF.below (a := V5) (by repeat' (first | exact bl_refl _ | refine bl_alloc ?_ _ | refine bl_drew ?_ | refine bl_set ?_ (by simp; try omega) _))).trans hf6)
      clear h_x
      go_wp2_with fail
      go_meet
      exact ⟨k, n, c, x, (by go_simp), (by go_simp), (by go_simp), (by go_simp), (by go_simp), ⟨(by go_simp), (by go_simp), (by go_simp), (by go_simp), (by go_simp)⟩, ⟨.string ⟨#[]⟩, .int .i64 0, .int .i64 0, .int .i64 0, .int .i64 0, (by go_simp), (by go_simp), (by go_simp), (by go_simp), (by go_simp)⟩, ((hc6.mono (by omega)).setO (by omega) _), (hF6.setO (by omega) _)⟩
    go_wp2_with fail
    go_meet
    exact ⟨k, n, c, s, (by go_simp), (by go_simp), (by go_simp), (by go_simp), (by go_simp), ⟨(by go_simp), (by go_simp), (by go_simp), (by go_simp), (by go_simp)⟩, ⟨.string ⟨#[]⟩, .int .i64 0, .int .i64 0, .int .i64 0, .int .i64 0, (by go_simp), (by go_simp), (by go_simp), (by go_simp), (by go_simp)⟩, (hc5.mono (by omega)), hF5⟩
  case rest =>
    obtain ⟨k, n, c, s, x0, x1, x2, x3, x4, ⟨y0, y1, y2, y3, y4⟩, ⟨v0, v1, v2, v3, v4, r0, r1, r2, r3, r4⟩, hcx, hfx⟩ := hcut
    have lgx := hcx.lt
    have lrx : w.heap.size < wc.heap.size := World.block_lt_of_cell? _ _ r0
    go_wp2
    refine bodyPost_ret (v := .agg #[.string name, .int .i64 k, .int .i64 n, .int .i64 c, .int .i64 s]) (by simp [results, Tryz.results81, go_sem, r0, r1, r2, r3, r4]; try rfl) rfl ?_
    refine ⟨k, n, c, s, rfl, ?_, ?_⟩
    · repeat' (first | with_reducible exact hcx.mono (by omega) | with_reducible refine Cur.setO ?_ (by omega) _)
    · repeat' (first | with_reducible exact hfx | with_reducible refine OnlyF.setO ?_ (Nat.le_refl _) _)
end Go.Proofs.YtpdblmcflniomaaGreatDoor
