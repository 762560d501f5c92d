/-
  Incidents: how long the answers are. No conditions.
-/
import Derived.Test.YtnaadihbkiakeaaIcP
import Derived.Test.YtnaadihbkiakeaaIcM
namespace Go.Proofs.Ytnaadihbkiakeaa
open Go.RowKit

theorem len_of {l : List Incident} (hl : l.length ≤ 9) (h : ∀ x, x ∈ l → x.Names.length ≤ 12) : l.length ≤ 1048576 ∧ (l.length : Int) + sumIncident l ≤ 1048576 := by
  have := sumIncident_le h
  omega
theorem vi_names {xs : List Incident} (h : Vi xs) : ∀ x, x ∈ xs → x.Names.length ≤ 12 := fun x hx => by
  obtain ⟨k, hk, rfl⟩ := List.getElem_of_mem hx
  have := incB_len (h.one k hk)
  rw [← nth_ge hk] at this
  exact this
theorem set_names {xs : List Incident} {k m : Nat} {y : Incident} (h : ∀ x, x ∈ xs → x.Names.length ≤ m) (hy : y.Names.length ≤ m) : ∀ x, x ∈ xs.set k y → x.Names.length ≤ m := fun x hx => by
  rcases List.mem_or_eq_of_mem_set hx with hx | rfl
  · exact h x hx
  · exact hy
theorem len_nil : ([] : List Incident).length ≤ 1048576 ∧ (([] : List Incident).length : Int) + sumIncident [] ≤ 1048576 := len_of (by simp) (fun x hx => by cases hx)
theorem clF_len (xs : List Incident) (number : Int) : (clF xs number).1.length ≤ 1048576 ∧ ((clF xs number).1.length : Int) + sumIncident (clF xs number).1 ≤ 1048576 := by
  cases h : (incsB xs && decide (0 ≤ openI xs number)) with
  | false => rw [clF_no h]; exact len_nil
  | true =>
    simp only [Bool.and_eq_true] at h
    have hv := incs_iff.1 h.1
    unfold clF
    rw [if_pos (by rw [h.1, h.2]; rfl)]
    refine len_of (by rw [List.length_set]; have := hv.len; omega) (set_names (vi_names hv) ?_)
    exact Nat.zero_le _

end Go.Proofs.Ytnaadihbkiakeaa
