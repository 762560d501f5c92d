/-
  Incidents: how long an answer of ReleaseFrom is. No conditions.
-/
import Derived.Test.YtkgjbijkjlmomaaIcLen
namespace Go.Proofs.Ytkgjbijkjlmomaa
open Go.RowKit

theorem rlF_len (xs : List Incident) (number : Int) (s : ByteArray) : (rlF xs number s).1.length ≤ 1048576 ∧ ((rlF xs number s).1.length : Int) + sumIncident (rlF xs number s).1 ≤ 1048576 := by
  cases h : (incsB xs && nameB s && decide (0 ≤ openI xs number) && decide (atB xs s = openI xs number)) with
  | false => rw [rlF_no h]; exact len_nil
  | true =>
    have h0 := h
    simp only [Bool.and_eq_true, decide_eq_true_eq] at h
    have hv := incs_iff.1 h.1.1.1
    have hr := indexF_range (isO number) xs
    have hr2 : openI xs number < xs.length := hr.2
    have hge : 0 ≤ openI xs number := h.1.2
    unfold rlF
    rw [if_pos h0]
    refine len_of (by rw [List.length_set]; have := hv.len; omega) (set_names (vi_names hv) ?_)
    exact Nat.le_trans (List.length_filter_le _ _) (vi_names hv _ (nth_mem (by omega)))

end Go.Proofs.Ytkgjbijkjlmomaa
