/-
  Lists of incidents: what a mark leaves, and the test of it. No conditions.
-/
import Derived.Test.YtnaadihbkiakeaaIncM
namespace Go.Proofs.Ytnaadihbkiakeaa
open Go.RowKit

theorem set_mix {α : Type} {L a b : List α} {i : Nat} (hL : L = a.take i ++ b.drop i) (hl : a.length = b.length) (hi : i < a.length) {x : α} (hx : a[i]? = some x) : L.set i x = a.take (i + 1) ++ b.drop (i + 1) := by
  subst hL
  rw [List.set_append_right _ _ (by rw [List.length_take]; omega), List.length_take, Nat.min_eq_left (by omega), Nat.sub_self, List.drop_eq_getElem_cons (by omega), List.set_cons_zero, List.take_add_one, hx]
  simp
/-- what a mark leaves at one -/
def mkXIncident (m : Int) (l : Nat) : Incident := ⟨m, m + 1, ((m + 1 + 1) % 3 == 0), marks mkT 1 (m + 1 + 1 + 1) l⟩
def marksIncidentS (k : Int) (ls : List Nat) : List Incident := (List.range ls.length).map fun j : Nat => mkXIncident (k + 3 * (j : Int) + 1 * ((ls.take j).sum : Nat)) (nth ls j)
theorem marksIncidentS_len (k : Int) (ls : List Nat) : (marksIncidentS k ls).length = ls.length := by simp [marksIncidentS]
theorem marksIncidentS_get (k : Int) (ls : List Nat) {j : Nat} (h : j < ls.length) : (marksIncidentS k ls)[j]? = some (mkXIncident (k + 3 * (j : Int) + 1 * ((ls.take j).sum : Nat)) (nth ls j)) := by simp [marksIncidentS, h]
theorem sumIncident_le {xs : List Incident} {m : Nat} (h : ∀ x, x ∈ xs → x.Names.length ≤ m) : sumIncident xs ≤ m * xs.length := by
  unfold sumIncident
  induction xs with
  | nil => simp
  | cons x xs ih =>
    have h1 := ih (fun y hy => h y (List.mem_cons_of_mem _ hy))
    have h2 := h x List.mem_cons_self
    simp only [List.map_cons, List.sum_cons, List.length_cons, Nat.mul_add, Nat.mul_one]
    omega

end Go.Proofs.Ytnaadihbkiakeaa
