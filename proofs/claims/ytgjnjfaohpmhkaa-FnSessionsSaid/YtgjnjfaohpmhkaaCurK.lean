/-
  Persons, kinds and days as they are drawn. No conditions.
-/
import Derived.Test.YtgjnjfaohpmhkaaCurB
namespace Go.Proofs.Ytgjnjfaohpmhkaa
open Go.RowKit

set_option maxRecDepth 100000 in
set_option maxHeartbeats 8000000 in
theorem personOf_any (g : Nat) (N : Int) (w : World) (hc : Cur w g N) (hN : N ≤ 900000000) :
    Calls Try.prog 71 #[.pointer (some ⟨g, 0, none⟩)] w fun e w' => ∃ x : ByteArray, e = .returned (.string x) ∧ x.size ≤ 7 ∧ Cur w' g (N + 4) ∧ OnlyF [g] w w' := by
  have lg0 := hc.lt
  go_enter Try.func71, Try.ntmps71
  go_wp2_with fail
  refine (of_any g _ _ _ _ [⟨#[97, 110, 110]⟩, ⟨#[]⟩, ⟨#[49, 97]⟩, ⟨#[115, 101, 118, 101, 110, 120, 120]⟩] _ (hc.below (by repeat' (first | exact bl_refl _ | refine bl_alloc ?_ _ | refine bl_drew ?_ | refine bl_set ?_ (by simp; try omega) _))) (by omega) (by exact sl_lit' (by simp) rfl rfl) (by omega) (by omega) (by rintro b o h _; injection h with h; injection h with h1; omega)).mono ?_
  rintro e V1 ⟨x1, rfl, hx1, hc1, hf1⟩
  have lg1 : g < V1.heap.size := hc1.lt
  have hF1 : OnlyF [g] w V1 := (OnlyF.below (a := w) (by repeat' (first | exact bl_refl _ | refine bl_alloc ?_ _ | refine bl_drew ?_ | refine bl_set ?_ (by simp; try omega) _))).trans hf1
  have hz1 : x1.size ≤ 7 := by simp only [List.mem_cons, List.not_mem_nil, or_false] at hx1; rcases hx1 with rfl | rfl | rfl | rfl <;> decide
  clear hx1
  go_wp2_with fail
  refine (of_any g _ _ _ _ [⟨#[97, 110, 110]⟩, ⟨#[98, 111, 98]⟩, ⟨#[99, 121]⟩, ⟨#[100, 111, 114, 97]⟩, ⟨#[101, 118, 101]⟩, x1] _ (hc1.below (by repeat' (first | exact bl_refl _ | refine bl_alloc ?_ _ | refine bl_drew ?_ | refine bl_set ?_ (by simp; try omega) _))) (by omega) (by exact sl_lit' (by simp) rfl rfl) (by omega) (by omega) (by rintro b o h _; injection h with h; injection h with h1; omega)).mono ?_
  rintro e V2 ⟨x2, rfl, hx2, hc2, hf2⟩
  have lg2 : g < V2.heap.size := hc2.lt
  have hF2 : OnlyF [g] w V2 := hF1.trans ((OnlyF.below (a := V1) (by repeat' (first | exact bl_refl _ | refine bl_alloc ?_ _ | refine bl_drew ?_ | refine bl_set ?_ (by simp; try omega) _))).trans hf2)
  have hz2 : x2.size ≤ 7 := by simp only [List.mem_cons, List.not_mem_nil, or_false] at hx2; rcases hx2 with rfl | rfl | rfl | rfl | rfl | rfl <;> first | exact hz1 | decide
  clear hx2
  go_wp2
  go_ret
  exact ⟨x2, rfl, hz2, hc2.mono (by omega), hF2⟩
set_option maxRecDepth 100000 in
set_option maxHeartbeats 8000000 in
theorem skillKind_any (g : Nat) (N : Int) (w : World) (hc : Cur w g N) (hN : N ≤ 900000000) :
    Calls Try.prog 72 #[.pointer (some ⟨g, 0, none⟩)] w fun e w' => ∃ x : Int, e = .returned (.int .i64 x) ∧ (-1 ≤ x ∧ x ≤ 6) ∧ Cur w' g (N + 4) ∧ OnlyF [g] w w' := by
  have lg0 := hc.lt
  go_enter Try.func72, Try.ntmps72
  go_wp2_with fail
  refine (among_any g _ _ _ _ [4, -1, 6] _ (hc.below (by repeat' (first | exact bl_refl _ | refine bl_alloc ?_ _ | refine bl_drew ?_ | refine bl_set ?_ (by simp; try omega) _))) (by omega) (by exact sl_lit' (by simp) rfl rfl) (by omega) (by omega) (by rintro b o h _; injection h with h; injection h with h1; omega)).mono ?_
  rintro e V1 ⟨v0, rfl, hv0, hc1, hf1⟩
  have lg1 : g < V1.heap.size := hc1.lt
  have hF1 : OnlyF [g] w V1 := (OnlyF.below (a := w) (by repeat' (first | exact bl_refl _ | refine bl_alloc ?_ _ | refine bl_drew ?_ | refine bl_set ?_ (by simp; try omega) _))).trans hf1
  have hw0 : -1 ≤ v0 ∧ v0 ≤ 6 := by simp only [List.mem_cons, List.not_mem_nil, or_false] at hv0; rcases hv0 with rfl | rfl | rfl <;> omega
  clear hv0
  go_wp2_with fail
  refine (among_any g _ _ _ _ [0, 0, 1, 2, 3, 5, v0] _ (hc1.below (by repeat' (first | exact bl_refl _ | refine bl_alloc ?_ _ | refine bl_drew ?_ | refine bl_set ?_ (by simp; try omega) _))) (by omega) (by exact sl_lit' (by simp) rfl rfl) (by omega) (by omega) (by rintro b o h _; injection h with h; injection h with h1; omega)).mono ?_
  rintro e V2 ⟨v1, rfl, hv1, hc2, hf2⟩
  have lg2 : g < V2.heap.size := hc2.lt
  have hF2 : OnlyF [g] w V2 := hF1.trans ((OnlyF.below (a := V1) (by repeat' (first | exact bl_refl _ | refine bl_alloc ?_ _ | refine bl_drew ?_ | refine bl_set ?_ (by simp; try omega) _))).trans hf2)
  have hw1 : -1 ≤ v1 ∧ v1 ≤ 6 := by simp only [List.mem_cons, List.not_mem_nil, or_false] at hv1; rcases hv1 with rfl | rfl | rfl | rfl | rfl | rfl | rfl <;> omega
  clear hv1
  go_wp2
  go_ret
  exact ⟨v1, rfl, hw1, hc2.mono (by omega), hF2⟩
set_option maxRecDepth 100000 in
set_option maxHeartbeats 8000000 in
theorem skillDay_any (g : Nat) (N : Int) (w : World) (hc : Cur w g N) (hN : N ≤ 900000000) :
    Calls Try.prog 52 #[.pointer (some ⟨g, 0, none⟩)] w fun e w' => ∃ x : Int, e = .returned (.int .i64 x) ∧ (-1 ≤ x ∧ x ≤ 20001) ∧ Cur w' g (N + 6) ∧ OnlyF [g] w w' := by
  have lg0 := hc.lt
  go_enter Try.func52, Try.ntmps52
  go_wp2_with fail
  refine (pick_any g _ 300 _ (hc.below (by repeat' (first | exact bl_refl _ | refine bl_alloc ?_ _ | refine bl_drew ?_ | refine bl_set ?_ (by simp; try omega) _))) (by omega) (by omega)).mono ?_
  rintro e V1 ⟨v0, rfl, hv0, hc1, hf1⟩
  have lg1 : g < V1.heap.size := hc1.lt
  have hF1 : OnlyF [g] w V1 := (OnlyF.below (a := w) (by repeat' (first | exact bl_refl _ | refine bl_alloc ?_ _ | refine bl_drew ?_ | refine bl_set ?_ (by simp; try omega) _))).trans hf1
  have hw0 : 0 ≤ v0 ∧ v0 < 300 := ⟨hv0.1, hv0.2 (by omega)⟩
  clear hv0
  go_wp2_with fail
  refine (among_any g _ _ _ _ [-1, 20001] _ (hc1.below (by repeat' (first | exact bl_refl _ | refine bl_alloc ?_ _ | refine bl_drew ?_ | refine bl_set ?_ (by simp; try omega) _))) (by omega) (by exact sl_lit' (by simp) rfl rfl) (by omega) (by omega) (by rintro b o h _; injection h with h; injection h with h1; omega)).mono ?_
  rintro e V2 ⟨v1, rfl, hv1, hc2, hf2⟩
  have lg2 : g < V2.heap.size := hc2.lt
  have hF2 : OnlyF [g] w V2 := hF1.trans ((OnlyF.below (a := V1) (by repeat' (first | exact bl_refl _ | refine bl_alloc ?_ _ | refine bl_drew ?_ | refine bl_set ?_ (by simp; try omega) _))).trans hf2)
  have hw1 : -1 ≤ v1 ∧ v1 ≤ 20001 := by simp only [List.mem_cons, List.not_mem_nil, or_false] at hv1; rcases hv1 with rfl | rfl <;> omega
  clear hv1
  go_wp2_with fail
  refine (among_any g _ _ _ _ [0, 80, 90, 91, 95, 100, 101, 300, v0, 20000, v1] _ (hc2.below (by repeat' (first | exact bl_refl _ | refine bl_alloc ?_ _ | refine bl_drew ?_ | refine bl_set ?_ (by simp; try omega) _))) (by omega) (by exact sl_lit' (by simp) rfl rfl) (by omega) (by omega) (by rintro b o h _; injection h with h; injection h with h1; omega)).mono ?_
  rintro e V3 ⟨v2, rfl, hv2, hc3, hf3⟩
  have lg3 : g < V3.heap.size := hc3.lt
  have hF3 : OnlyF [g] w V3 := hF2.trans ((OnlyF.below (a := V2) (by repeat' (first | exact bl_refl _ | refine bl_alloc ?_ _ | refine bl_drew ?_ | refine bl_set ?_ (by simp; try omega) _))).trans hf3)
  have hw2 : -1 ≤ v2 ∧ v2 ≤ 20001 := by simp only [List.mem_cons, List.not_mem_nil, or_false] at hv2; rcases hv2 with rfl | rfl | rfl | rfl | rfl | rfl | rfl | rfl | rfl | rfl | rfl <;> omega
  clear hv2
  go_wp2
  go_ret
  exact ⟨v2, rfl, hw2, hc3.mono (by omega), hF3⟩

end Go.Proofs.Ytgjnjfaohpmhkaa
