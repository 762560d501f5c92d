/-
  The drawing of inputs: states. No conditions.
-/
import Derived.Test.YtenlbeghjabpkaaGreatDoorCur
import Derived.Test.YtenlbeghjabpkaaGreatDoorState
namespace Go.Proofs.YtenlbeghjabpkaaGreatDoor
open Go.RowKit

theorem sl_lit' {α : Type} [Flat α] {W : World} {E : TypeId} {xs : List α} {vs : Array Value} {g' n : Nat} (hg : g' = W.heap.size) (hn : n = xs.length) (hv : vs.toList = cellsOf xs) : Sl (W.alloc (.cells vs E)) (some ⟨g', 0, none⟩) n xs := by
  subst hg; subst hn; exact sl_lit W E xs vs hv
/-- a state as it is drawn -/
def RetState (w : World) (g : Nat) (N : Int) (e : Ending) (w' : World) : Prop :=
  ∃ x : State, e = .returned (.agg #[.string x.Name, .int .i64 x.Value]) ∧ x.Name.size ≤ 7 ∧ (-1 ≤ x.Value ∧ x.Value ≤ 10000) ∧ Cur w' g N ∧ OnlyF [g] w w'
set_option maxRecDepth 100000 in
set_option maxHeartbeats 8000000 in
theorem curState_any (g : Nat) (N : Int) (w : World) (hc : Cur w g N) (hN : N ≤ 900000000) :
    Calls Tryz.prog 24 #[.pointer (some ⟨g, 0, none⟩)] w (RetState w g (N + 20)) := by
  have lg0 := hc.lt
  go_enter Tryz.func24, Tryz.ntmps24
  go_wp2_with fail
  refine (of_any g _ _ _ _ [⟨#[112, 49]⟩, ⟨#[112, 49]⟩, ⟨#[112, 50]⟩, ⟨#[108, 97, 100, 100, 101, 114]⟩, ⟨#[97]⟩, ⟨#[116, 57]⟩] _ (hc.below (by repeat' (first | exact bl_refl _ | refine bl_alloc ?_ _ | refine bl_drew ?_ | refine bl_set ?_ (by simp; try omega) _))) (by omega) (by exact sl_lit' (by simp) rfl rfl) (by omega) (by omega) (by rintro b o h _; injection h with h; injection h with h1; omega)).mono ?_
  rintro e V1 ⟨x1, rfl, hx1, hc1, hf1⟩
  have r0 : V1.cell? ⟨w.heap.size, 0, none⟩ = some (.string ⟨#[]⟩) := hf1.keeps (by go_simp) (by simp only [List.mem_singleton]; omega)
  have r1 : V1.cell? ⟨w.heap.size, 1, none⟩ = some (.int .i64 0) := hf1.keeps (by go_simp) (by simp only [List.mem_singleton]; omega)
  have fr0 : V1.frozen? ⟨w.heap.size, 0, none⟩ = false := (hf1.frozen (by simp; try omega) (by simp only [List.mem_singleton]; omega)).trans (by go_simp)
  have fr1 : V1.frozen? ⟨w.heap.size, 1, none⟩ = false := (hf1.frozen (by simp; try omega) (by simp only [List.mem_singleton]; omega)).trans (by go_simp)
  have lr1 : w.heap.size < V1.heap.size := World.block_lt_of_cell? _ _ r0
  have lg1 : g < V1.heap.size := hc1.lt
  have hF1 : OnlyF [g] w V1 := (OnlyF.below (a := w) (by repeat' (first | exact bl_refl _ | refine bl_alloc ?_ _ | refine bl_drew ?_ | refine bl_set ?_ (by simp; try omega) _))).trans hf1
  have hz1 : x1.size ≤ 7 := by simp only [List.mem_cons, List.not_mem_nil, or_false] at hx1; rcases hx1 with rfl | rfl | rfl | rfl | rfl | rfl <;> decide
  clear hx1
  go_wp2_with fail
  refine (pick_any g _ 10 _ (hc1.below (by repeat' (first | exact bl_refl _ | refine bl_alloc ?_ _ | refine bl_drew ?_ | refine bl_set ?_ (by simp; try omega) _))) (by omega) (by omega)).mono ?_
  rintro e V2 ⟨p, rfl, hp, hc2, hf2⟩
  replace r0 : V2.cell? ⟨w.heap.size, 0, none⟩ = some (.string ⟨#[]⟩) := hf2.keeps (by go_simp) (by simp only [List.mem_singleton]; omega)
  replace r1 : V2.cell? ⟨w.heap.size, 1, none⟩ = some (.int .i64 0) := hf2.keeps (by go_simp) (by simp only [List.mem_singleton]; omega)
  replace fr0 : V2.frozen? ⟨w.heap.size, 0, none⟩ = false := (hf2.frozen (by simp; try omega) (by simp only [List.mem_singleton]; omega)).trans (by go_simp)
  replace fr1 : V2.frozen? ⟨w.heap.size, 1, none⟩ = false := (hf2.frozen (by simp; try omega) (by simp only [List.mem_singleton]; omega)).trans (by go_simp)
  have lr2 : w.heap.size < V2.heap.size := World.block_lt_of_cell? _ _ r0
  have lg2 : g < V2.heap.size := hc2.lt
  have hF2 : OnlyF [g] w V2 := hF1.trans ((OnlyF.below (a := V1) (by repeat' (first | exact bl_refl _ | refine bl_alloc ?_ _ | refine bl_drew ?_ | refine bl_set ?_ (by simp; try omega) _))).trans hf2)
  have hp9 : p < 10 := hp.2 (by omega)
  have hp0 := hp.1
  clear hp
  go_wp2_with fail
  refine (among_any g _ _ _ _ [0, 1, 3, 5, 9999, p] _ (hc2.below (by repeat' (first | exact bl_refl _ | refine bl_alloc ?_ _ | refine bl_drew ?_ | refine bl_set ?_ (by simp; try omega) _))) (by omega) (by exact sl_lit' (by simp) rfl rfl) (by omega) (by omega) (by rintro b o h _; injection h with h; injection h with h1; omega)).mono ?_
  rintro e V3 ⟨v, rfl, hv, hc3, hf3⟩
  replace r0 : V3.cell? ⟨w.heap.size, 0, none⟩ = some (.string ⟨#[]⟩) := hf3.keeps (by go_simp) (by simp only [List.mem_singleton]; omega)
  replace r1 : V3.cell? ⟨w.heap.size, 1, none⟩ = some (.int .i64 0) := hf3.keeps (by go_simp) (by simp only [List.mem_singleton]; omega)
  replace fr0 : V3.frozen? ⟨w.heap.size, 0, none⟩ = false := (hf3.frozen (by simp; try omega) (by simp only [List.mem_singleton]; omega)).trans (by go_simp)
  replace fr1 : V3.frozen? ⟨w.heap.size, 1, none⟩ = false := (hf3.frozen (by simp; try omega) (by simp only [List.mem_singleton]; omega)).trans (by go_simp)
  have lr3 : w.heap.size < V3.heap.size := World.block_lt_of_cell? _ _ r0
  have lg3 : g < V3.heap.size := hc3.lt
  have hF3 : OnlyF [g] w V3 := hF2.trans ((OnlyF.below (a := V2) (by repeat' (first | exact bl_refl _ | refine bl_alloc ?_ _ | refine bl_drew ?_ | refine bl_set ?_ (by simp; try omega) _))).trans hf3)
  have hv1 : -1 ≤ v ∧ v ≤ 10000 := by simp only [List.mem_cons, List.not_mem_nil, or_false] at hv; rcases hv with rfl | rfl | rfl | rfl | rfl | rfl <;> omega
  clear hv
  have ne_m_r : ¬ (V3.heap.size = w.heap.size) := by omega
  have ne_r_m : ¬ (w.heap.size = V3.heap.size) := by omega
  go_wp2_with fail
  refine (pick_any g _ 40 _ (hc3.below (by repeat' (first | exact bl_refl _ | refine bl_alloc ?_ _ | refine bl_drew ?_ | refine bl_set ?_ (by simp; try omega) _))) (by omega) (by omega)).mono ?_
  rintro e V4 ⟨q, rfl, hq, hc4, hf4⟩
  replace r0 : V4.cell? ⟨w.heap.size, 0, none⟩ = some (.string ⟨#[]⟩) := hf4.keeps (by go_simp) (by simp only [List.mem_singleton]; omega)
  replace r1 : V4.cell? ⟨w.heap.size, 1, none⟩ = some (.int .i64 0) := hf4.keeps (by go_simp) (by simp only [List.mem_singleton]; omega)
  replace fr0 : V4.frozen? ⟨w.heap.size, 0, none⟩ = false := (hf4.frozen (by simp; try omega) (by simp only [List.mem_singleton]; omega)).trans (by go_simp)
  replace fr1 : V4.frozen? ⟨w.heap.size, 1, none⟩ = false := (hf4.frozen (by simp; try omega) (by simp only [List.mem_singleton]; omega)).trans (by go_simp)
  have lr4 : w.heap.size < V4.heap.size := World.block_lt_of_cell? _ _ r0
  have m0 : V4.cell? ⟨V3.heap.size, 0, none⟩ = some (.string x1) := hf4.keeps (by go_simp) (by simp only [List.mem_singleton]; omega)
  have m1 : V4.cell? ⟨V3.heap.size, 1, none⟩ = some (.int .i64 v) := hf4.keeps (by go_simp) (by simp only [List.mem_singleton]; omega)
  have fm0 : V4.frozen? ⟨V3.heap.size, 0, none⟩ = false := (hf4.frozen (by simp; try omega) (by simp only [List.mem_singleton]; omega)).trans (by go_simp)
  have fm1 : V4.frozen? ⟨V3.heap.size, 1, none⟩ = false := (hf4.frozen (by simp; try omega) (by simp only [List.mem_singleton]; omega)).trans (by go_simp)
  have lm4 : V3.heap.size < V4.heap.size := World.block_lt_of_cell? _ _ m0
  have lg4 : g < V4.heap.size := hc4.lt
  have hF4 : OnlyF [g] w V4 := hF3.trans ((OnlyF.below (a := V3) (by repeat' (first | exact bl_refl _ | refine bl_alloc ?_ _ | refine bl_drew ?_ | refine bl_set ?_ (by simp; try omega) _))).trans hf4)
  have hq0 := hq.1
  clear hq
  by_cases hq1 : q = 0
  · subst hq1
    go_wp2_with fail
    refine (of_any g _ _ _ _ [⟨#[]⟩, ⟨#[49, 112]⟩, ⟨#[80, 49]⟩, ⟨#[115, 101, 118, 101, 110, 120, 120]⟩] _ (hc4.below (by repeat' (first | exact bl_refl _ | refine bl_alloc ?_ _ | refine bl_drew ?_ | refine bl_set ?_ (by simp; try omega) _))) (by omega) (by exact sl_lit' (by simp) rfl rfl) (by omega) (by omega) (by rintro b o h _; injection h with h; injection h with h1; omega)).mono ?_
    rintro e V5 ⟨x2, rfl, hx2, hc5, hf5⟩
    replace r0 : V5.cell? ⟨w.heap.size, 0, none⟩ = some (.string ⟨#[]⟩) := hf5.keeps (by go_simp) (by simp only [List.mem_singleton]; omega)
    replace r1 : V5.cell? ⟨w.heap.size, 1, none⟩ = some (.int .i64 0) := hf5.keeps (by go_simp) (by simp only [List.mem_singleton]; omega)
    replace fr0 : V5.frozen? ⟨w.heap.size, 0, none⟩ = false := (hf5.frozen (by simp; try omega) (by simp only [List.mem_singleton]; omega)).trans (by go_simp)
    replace fr1 : V5.frozen? ⟨w.heap.size, 1, none⟩ = false := (hf5.frozen (by simp; try omega) (by simp only [List.mem_singleton]; omega)).trans (by go_simp)
    have lr5 : w.heap.size < V5.heap.size := World.block_lt_of_cell? _ _ r0
    replace m0 : V5.cell? ⟨V3.heap.size, 0, none⟩ = some (.string x1) := hf5.keeps (by go_simp) (by simp only [List.mem_singleton]; omega)
    replace m1 : V5.cell? ⟨V3.heap.size, 1, none⟩ = some (.int .i64 v) := hf5.keeps (by go_simp) (by simp only [List.mem_singleton]; omega)
    replace fm0 : V5.frozen? ⟨V3.heap.size, 0, none⟩ = false := (hf5.frozen (by simp; try omega) (by simp only [List.mem_singleton]; omega)).trans (by go_simp)
    replace fm1 : V5.frozen? ⟨V3.heap.size, 1, none⟩ = false := (hf5.frozen (by simp; try omega) (by simp only [List.mem_singleton]; omega)).trans (by go_simp)
    have lm5 : V3.heap.size < V5.heap.size := World.block_lt_of_cell? _ _ m0
    have lg5 : g < V5.heap.size := hc5.lt
    have hF5 : OnlyF [g] w V5 := hF4.trans ((OnlyF.below (a := V4) (by repeat' (first | exact bl_refl _ | refine bl_alloc ?_ _ | refine bl_drew ?_ | refine bl_set ?_ (by simp; try omega) _))).trans hf5)
    have hz2 : x2.size ≤ 7 := by simp only [List.mem_cons, List.not_mem_nil, or_false] at hx2; rcases hx2 with rfl | rfl | rfl | rfl <;> decide
    clear hx2
    go_wp2
    refine bodyPost_ret (v := .agg #[.string x2, .int .i64 v]) (by simp [results, Tryz.results24, go_sem, r0, r1]; try rfl) rfl ?_
    refine ⟨⟨x2, v⟩, rfl, hz2, hv1, ?_, ?_⟩
    · repeat' (first | exact hc5.mono (by omega) | refine Cur.set ?_ (by omega) _ _)
    · repeat' (first | exact hF5 | refine OnlyF.setN ?_ (by omega) _ _)
  by_cases hq2 : q = 1
  · subst hq2
    go_wp2_with fail
    refine (among_any g _ _ _ _ [-1, 10000] _ (hc4.below (by repeat' (first | exact bl_refl _ | refine bl_alloc ?_ _ | refine bl_drew ?_ | refine bl_set ?_ (by simp; try omega) _))) (by omega) (by exact sl_lit' (by simp) rfl rfl) (by omega) (by omega) (by rintro b o h _; injection h with h; injection h with h1; omega)).mono ?_
    rintro e V5 ⟨y, rfl, hy, hc5, hf5⟩
    replace r0 : V5.cell? ⟨w.heap.size, 0, none⟩ = some (.string ⟨#[]⟩) := hf5.keeps (by go_simp) (by simp only [List.mem_singleton]; omega)
    replace r1 : V5.cell? ⟨w.heap.size, 1, none⟩ = some (.int .i64 0) := hf5.keeps (by go_simp) (by simp only [List.mem_singleton]; omega)
    replace fr0 : V5.frozen? ⟨w.heap.size, 0, none⟩ = false := (hf5.frozen (by simp; try omega) (by simp only [List.mem_singleton]; omega)).trans (by go_simp)
    replace fr1 : V5.frozen? ⟨w.heap.size, 1, none⟩ = false := (hf5.frozen (by simp; try omega) (by simp only [List.mem_singleton]; omega)).trans (by go_simp)
    have lr5 : w.heap.size < V5.heap.size := World.block_lt_of_cell? _ _ r0
    replace m0 : V5.cell? ⟨V3.heap.size, 0, none⟩ = some (.string x1) := hf5.keeps (by go_simp) (by simp only [List.mem_singleton]; omega)
    replace m1 : V5.cell? ⟨V3.heap.size, 1, none⟩ = some (.int .i64 v) := hf5.keeps (by go_simp) (by simp only [List.mem_singleton]; omega)
    replace fm0 : V5.frozen? ⟨V3.heap.size, 0, none⟩ = false := (hf5.frozen (by simp; try omega) (by simp only [List.mem_singleton]; omega)).trans (by go_simp)
    replace fm1 : V5.frozen? ⟨V3.heap.size, 1, none⟩ = false := (hf5.frozen (by simp; try omega) (by simp only [List.mem_singleton]; omega)).trans (by go_simp)
    have lm5 : V3.heap.size < V5.heap.size := World.block_lt_of_cell? _ _ m0
    have lg5 : g < V5.heap.size := hc5.lt
    have hF5 : OnlyF [g] w V5 := hF4.trans ((OnlyF.below (a := V4) (by repeat' (first | exact bl_refl _ | refine bl_alloc ?_ _ | refine bl_drew ?_ | refine bl_set ?_ (by simp; try omega) _))).trans hf5)
    have hy1 : -1 ≤ y ∧ y ≤ 10000 := by simp only [List.mem_cons, List.not_mem_nil, or_false] at hy; rcases hy with rfl | rfl <;> omega
    clear hy
    go_wp2
    refine bodyPost_ret (v := .agg #[.string x1, .int .i64 y]) (by simp [results, Tryz.results24, go_sem, r0, r1]; try rfl) rfl ?_
    refine ⟨⟨x1, y⟩, rfl, hz1, hy1, ?_, ?_⟩
    · repeat' (first | exact hc5.mono (by omega) | refine Cur.set ?_ (by omega) _ _)
    · repeat' (first | exact hF5 | refine OnlyF.setN ?_ (by omega) _ _)
  go_wp2
  refine bodyPost_ret (v := .agg #[.string x1, .int .i64 v]) (by simp [results, Tryz.results24, go_sem, r0, r1]; try rfl) rfl ?_
  refine ⟨⟨x1, v⟩, rfl, hz1, hv1, ?_, ?_⟩
  · repeat' (first | exact hc4.mono (by omega) | refine Cur.set ?_ (by omega) _ _)
  · repeat' (first | exact hF4 | refine OnlyF.setN ?_ (by omega) _ _)
end Go.Proofs.YtenlbeghjabpkaaGreatDoor
