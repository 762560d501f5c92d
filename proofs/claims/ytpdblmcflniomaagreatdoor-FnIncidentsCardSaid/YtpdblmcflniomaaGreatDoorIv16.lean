/-
  Several texts in one. No conditions.
-/
import Derived.Test.YtpdblmcflniomaaGreatDoorIv15
namespace Go.Proofs.YtpdblmcflniomaaGreatDoor
open Go.RowKit

theorem set_mix {α : Type} {L a b : List α} {i : Nat} (hL : L = a.take i ++ b.drop i) (hl : a.length = b.length) (hi : i < a.length) {x : α} (hx : a[i]? = some x) : L.set i x = a.take (i + 1) ++ b.drop (i + 1) := by
  subst hL
  rw [List.set_append_right _ _ (by rw [List.length_take]; omega), List.length_take, Nat.min_eq_left (by omega), Nat.sub_self, List.drop_eq_getElem_cons (by omega), List.set_cons_zero, List.take_add_one, hx]
  simp
/-- what a mark leaves at one -/
def mkXIncident (m : Int) (l : Nat) : Incident := ⟨m, m + 1, ((m + 1 + 1) % 3 == 0), marks mkT 1 (m + 1 + 1 + 1) l⟩
def marksIncidentS (k : Int) (ls : List Nat) : List Incident := (List.range ls.length).map fun j : Nat => mkXIncident (k + 3 * (j : Int) + 1 * ((ls.take j).sum : Nat)) (nth ls j)
theorem marksIncidentS_len (k : Int) (ls : List Nat) : (marksIncidentS k ls).length = ls.length := by simp [marksIncidentS]
theorem marksIncidentS_get (k : Int) (ls : List Nat) {j : Nat} (h : j < ls.length) : (marksIncidentS k ls)[j]? = some (mkXIncident (k + 3 * (j : Int) + 1 * ((ls.take j).sum : Nat)) (nth ls j)) := by simp [marksIncidentS, h]
theorem sumIncident_le {xs : List Incident} {m : Nat} (h : ∀ x, x ∈ xs → x.Names.length ≤ m) : sumIncident xs ≤ m * xs.length := by
  unfold sumIncident
  induction xs with
  | nil => simp
  | cons x xs ih =>
    have h1 := ih (fun y hy => h y (List.mem_cons_of_mem _ hy))
    have h2 := h x List.mem_cons_self
    simp only [List.map_cons, List.sum_cons, List.length_cons, Nat.mul_add, Nat.mul_one]
    omega

end Go.Proofs.YtpdblmcflniomaaGreatDoor

namespace Go.Proofs.YtpdblmcflniomaaGreatDoor
open Go.RowKit

theorem len_of {l : List Incident} (hl : l.length ≤ 9) (h : ∀ x, x ∈ l → x.Names.length ≤ 12) : l.length ≤ 1048576 ∧ (l.length : Int) + sumIncident l ≤ 1048576 := by
  have := sumIncident_le h
  omega
theorem vi_names {xs : List Incident} (h : Vi xs) : ∀ x, x ∈ xs → x.Names.length ≤ 12 := fun x hx => by
  obtain ⟨k, hk, rfl⟩ := List.getElem_of_mem hx
  have := incB_len (h.one k hk)
  rw [← nth_ge hk] at this
  exact this
theorem set_names {xs : List Incident} {k m : Nat} {y : Incident} (h : ∀ x, x ∈ xs → x.Names.length ≤ m) (hy : y.Names.length ≤ m) : ∀ x, x ∈ xs.set k y → x.Names.length ≤ m := fun x hx => by
  rcases List.mem_or_eq_of_mem_set hx with hx | rfl
  · exact h x hx
  · exact hy
theorem len_nil : ([] : List Incident).length ≤ 1048576 ∧ (([] : List Incident).length : Int) + sumIncident [] ≤ 1048576 := len_of (by simp) (fun x hx => by cases hx)
theorem clF_len (xs : List Incident) (number : Int) : (clF xs number).1.length ≤ 1048576 ∧ ((clF xs number).1.length : Int) + sumIncident (clF xs number).1 ≤ 1048576 := by
  cases h : (incsB xs && decide (0 ≤ openI xs number)) with
  | false => rw [clF_no h]; exact len_nil
  | true =>
    simp only [Bool.and_eq_true] at h
    have hv := incs_iff.1 h.1
    unfold clF
    rw [if_pos (by rw [h.1, h.2]; rfl)]
    refine len_of (by rw [List.length_set]; have := hv.len; omega) (set_names (vi_names hv) ?_)
    exact Nat.zero_le _

end Go.Proofs.YtpdblmcflniomaaGreatDoor

namespace Go.Proofs.YtpdblmcflniomaaGreatDoor
open Go.RowKit

theorem ad_names {x : Incident} {s : ByteArray} (h : x.Names.length < 12) : (adX x s).Names.length ≤ 12 := by
  show (insQ x.Names (posS x.Names s) s).length ≤ 12
  rw [insQ_len (posS_le _ _)]; omega
theorem cmF_len (xs : List Incident) (number : Int) (s : ByteArray) : (cmF xs number s).1.length ≤ 1048576 ∧ ((cmF xs number s).1.length : Int) + sumIncident (cmF xs number s).1 ≤ 1048576 := by
  cases h : (incsB xs && nameB s && decide (0 ≤ openI xs number) && decide (atB xs s < 0) && decide ((nth xs (openI xs number).toNat).Names.length < 12)) with
  | false => rw [cmF_no h]; exact len_nil
  | true =>
    have h0 := h
    simp only [Bool.and_eq_true, decide_eq_true_eq] at h
    have hv := incs_iff.1 h.1.1.1.1
    unfold cmF
    rw [if_pos h0]
    exact len_of (by rw [List.length_set]; have := hv.len; omega) (set_names (vi_names hv) (ad_names h.2))

end Go.Proofs.YtpdblmcflniomaaGreatDoor
