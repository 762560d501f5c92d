/-
  Incidents: how long an answer of OpenIncident is. No conditions.
-/
import Derived.Test.YtnaadihbkiakeaaIcLen
namespace Go.Proofs.Ytnaadihbkiakeaa
open Go.RowKit

theorem opF_len (xs : List Incident) (node : Int) : (opF xs node).1.length ≤ 1048576 ∧ ((opF xs node).1.length : Int) + sumIncident (opF xs node).1 ≤ 1048576 := by
  cases h : (incsB xs && inB node 0 13 && (decide (xs.length < 8) && decide (newN xs ≤ 999))) with
  | false => rw [opF_no h]; exact len_nil
  | true =>
    rw [opF_yes h]
    simp only [Bool.and_eq_true] at h
    have hv := incs_iff.1 h.1.1
    refine len_of (by have := hv.len; simp; omega) (fun x hx => ?_)
    rcases List.mem_append.1 hx with hx | hx
    · exact vi_names hv x hx
    · rw [List.mem_singleton.1 hx]; exact Nat.zero_le _

end Go.Proofs.Ytnaadihbkiakeaa
