/-
  OpenIncident: what it answers. No conditions.
-/
import Derived.Test.YtkgjbijkjlmomaaIcP
namespace Go.Proofs.Ytkgjbijkjlmomaa
open Go.RowKit

def opE (xs : List Incident) (node : Int) : List Incident × Int × Bool := if (decide (xs.length < 8) && decide (newN xs ≤ 999)) then (xs ++ [newX xs node], newN xs, true) else ([], 0, false)
theorem opE_no {xs : List Incident} {node : Int} (h : (decide (xs.length < 8) && decide (newN xs ≤ 999)) = false) : opE xs node = ([], 0, false) := by unfold opE; rw [if_neg (by rw [h]; exact Bool.false_ne_true)]
theorem opE_yes {xs : List Incident} {node : Int} (h : (decide (xs.length < 8) && decide (newN xs ≤ 999)) = true) : opE xs node = (xs ++ [newX xs node], newN xs, true) := by unfold opE; rw [if_pos h]
theorem opF_E {xs : List Incident} {node : Int} (h : incsB xs = true) (h1 : inB node 0 13 = true) : opF xs node = opE xs node := by unfold opF opE; rw [h, h1]; rfl
theorem opF_0 {xs : List Incident} {node : Int} (h : (incsB xs && inB node 0 13) = false) : opF xs node = ([], 0, false) := opF_no (by rw [h]; rfl)

end Go.Proofs.Ytkgjbijkjlmomaa
