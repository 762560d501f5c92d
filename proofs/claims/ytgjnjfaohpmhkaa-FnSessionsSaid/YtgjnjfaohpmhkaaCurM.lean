/-
  Skills drawn for the laws. No conditions.
-/
import Derived.Test.YtgjnjfaohpmhkaaCurL
namespace Go.Proofs.Ytgjnjfaohpmhkaa
open Go.RowKit

set_option maxRecDepth 100000 in
set_option maxHeartbeats 8000000 in
theorem drawCounts_any (A : Option Addr) (n c : Nat) (cs : List Byt) (w : World) (hcode : CodeIs w A n cs) :
    Calls Try.prog 28 #[.slice A n c] w fun e w' => ∃ (l : List Skill) (A' : Option Addr) (c' : Nat) (u : Int), e = .returned (.tuple #[.slice A' l.length c', .int .i64 u]) ∧ l.length ≤ 26 ∧ (∀ x, x ∈ l → x.Person.size ≤ 7) ∧ (-1 ≤ u ∧ u ≤ 20001) ∧ Own w' w.heap.size 44 (.slice A' l.length c') l ∧ Below w.heap.size w w' := by
  go_enter Try.func28, Try.ntmps28
  go_wp2_with fail
  refine (skills_any w.heap.size 0 _ (hcode.cur (by simp)) (by omega)).mono ?_
  rintro e V1 ⟨l, A', c', rfl, hl, hlp, ho1, hc1, hf1⟩
  have lg1 := hc1.lt
  have hk1 : Below w.heap.size w V1 := below_only (by repeat' (first | exact bl_refl _ | refine bl_alloc ?_ _ | refine bl_drew ?_)) hf1 (lies1 w.heap.size) (Nat.le_refl _)
  go_wp2_with fail
  refine (skillDay_any w.heap.size _ _ (hc1.below (by repeat' (first | exact bl_refl _ | refine bl_alloc ?_ _ | refine bl_drew ?_))) (by omega)).mono ?_
  rintro e V2 ⟨u, rfl, hz_u, hc2, hf2⟩
  have lg2 := hc2.lt
  have hk2 : Below w.heap.size w V2 := below_only (bl_trans hk1 (by repeat' (first | exact bl_refl _ | refine bl_alloc ?_ _ | refine bl_drew ?_))) hf2 (lies1 w.heap.size) (Nat.le_refl _)
  have ho2 := (ho1.below (by repeat' (first | exact bl_refl _ | refine bl_alloc ?_ _ | refine bl_drew ?_))).onlyF hf2 (by simp only [World.size_alloc]; omega)
  go_wp2
  go_ret2
  exact ⟨l, A', c', u, rfl, hl, hlp, hz_u, ho2.mono (by simp only [World.size_alloc]; omega), hk2⟩
end Go.Proofs.Ytgjnjfaohpmhkaa
