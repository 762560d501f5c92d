/-
  Incidents: how long an answer of Commit is. No conditions.
-/
import Derived.Test.YtnaadihbkiakeaaIcLen
namespace Go.Proofs.Ytnaadihbkiakeaa
open Go.RowKit

theorem ad_names {x : Incident} {s : ByteArray} (h : x.Names.length < 12) : (adX x s).Names.length ≤ 12 := by
  show (insQ x.Names (posS x.Names s) s).length ≤ 12
  rw [insQ_len (posS_le _ _)]; omega
theorem cmF_len (xs : List Incident) (number : Int) (s : ByteArray) : (cmF xs number s).1.length ≤ 1048576 ∧ ((cmF xs number s).1.length : Int) + sumIncident (cmF xs number s).1 ≤ 1048576 := by
  cases h : (incsB xs && nameB s && decide (0 ≤ openI xs number) && decide (atB xs s < 0) && decide ((nth xs (openI xs number).toNat).Names.length < 12)) with
  | false => rw [cmF_no h]; exact len_nil
  | true =>
    have h0 := h
    simp only [Bool.and_eq_true, decide_eq_true_eq] at h
    have hv := incs_iff.1 h.1.1.1.1
    unfold cmF
    rw [if_pos h0]
    exact len_of (by rw [List.length_set]; have := hv.len; omega) (set_names (vi_names hv) (ad_names h.2))

end Go.Proofs.Ytnaadihbkiakeaa
