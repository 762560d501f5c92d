/-
  Filling: tests. No conditions.
-/
import Derived.Test.YtokcgjjnljflaaaMvN
import Derived.Test.YtokcgjjnljflaaaMvK
namespace Go.Proofs.Ytokcgjjnljflaaa
open Go.RowKit

theorem el_load : Elem Try.prog 41 28 (Flat.sz LoadR) := elem_mk Try.underlying41 (by kernel_rfl)
theorem okFill_no {x : Load} {wanted : List Thing} {others : List Load} (h : loadsB 7 (x :: others) = false) : okFill x wanted others = false := by
  rw [loadsB_cons] at h
  unfold okFill
  cases h0 : loadB x.Appliance x.Things with
  | false => rfl
  | true => rw [h0, Bool.true_and] at h; rw [h, Bool.and_false]
theorem fillT_no {x : Load} {wanted : List Thing} {others : List Load} (h : okFill x wanted others = false) : fillT x wanted others = noL := by unfold fillT; rw [h]; rfl
theorem fillT_yes {x : Load} {wanted : List Thing} {others : List Load} (h : okFill x wanted others = true) : fillT x wanted others = fillF x wanted others := by unfold fillT; rw [h]; rfl
theorem okF1 {x : Load} {wanted : List Thing} {others : List Load} (h : loadB x.Appliance x.Things = false) : okFill x wanted others = false := by unfold okFill; rw [h]; rfl
theorem okF2 {x : Load} {wanted : List Thing} {others : List Load} (h : thingsB wanted = false) : okFill x wanted others = false := by unfold okFill; rw [h]; simp
theorem okF3 {x : Load} {wanted : List Thing} {others : List Load} (h : othersB x.Appliance others = false) : okFill x wanted others = false := by unfold okFill; rw [h]; simp
noncomputable def canF (x : Load) (wanted : List Thing) (others : List Load) : Bool × Bool := ((fillT x wanted others).2.2, okFill x wanted others)
theorem canF_no {x : Load} {wanted : List Thing} {others : List Load} (h : okFill x wanted others = false) : canF x wanted others = (false, false) := by unfold canF; rw [fillT_no h, h]; rfl
theorem ret_bbc {a b c d : Bool} (h : a = c) (h' : b = d) : Ending.returned (.tuple #[.bool a, .bool b]) = .returned (.tuple #[.bool c, .bool d]) := by rw [h, h']

end Go.Proofs.Ytokcgjjnljflaaa
