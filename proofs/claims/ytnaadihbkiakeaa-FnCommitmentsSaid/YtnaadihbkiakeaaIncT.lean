/-
  Incidents: what the tests of a list answer. No conditions.
-/
import Derived.Test.YtnaadihbkiakeaaIncB
import Derived.Test.YtnaadihbkiakeaaIncC
import Derived.Test.YtnaadihbkiakeaaIncS
namespace Go.Proofs.Ytnaadihbkiakeaa
open Go.RowKit

def incAt (xs : List Incident) (k : Nat) : Bool := incB (nth xs k).Number (nth xs k).Node (nth xs k).Closed (nth xs k).Names
def freshB (xs : List Incident) (k : Nat) : Bool := allB (nth xs k).Names.length (fun j => !(xs.take k).any (fun y => hasS y.Names (nth (nth xs k).Names j)))
def okInc (xs : List Incident) (k : Nat) : Bool := incAt xs k && !(decide (0 < k) && decide ((nth xs (k - 1)).Number ≥ (nth xs k).Number)) && freshB xs k
def incsB (xs : List Incident) : Bool := allB xs.length (okInc xs) && decide (xs.length ≤ 8)
theorem okInc_0 {xs : List Incident} {k : Nat} (h : incAt xs k = false) : okInc xs k = false := by simp only [okInc, h]; rfl
theorem okInc_1 {xs : List Incident} {k : Nat} (h : 0 < k) (h' : (nth xs (k - 1)).Number ≥ (nth xs k).Number) : okInc xs k = false := by simp only [okInc, decide_eq_true h, decide_eq_true h']; simp
theorem okInc_2 {xs : List Incident} {k j : Nat} (hj : j < (nth xs k).Names.length) (h : (xs.take k).any (fun y => hasS y.Names (nth (nth xs k).Names j)) = true) : okInc xs k = false := by
  have : freshB xs k = false := allB_false hj (by rw [h]; rfl)
  simp only [okInc, this]; simp
theorem okInc_y {xs : List Incident} {k : Nat} (h : incAt xs k = true) (h' : ¬ 0 < k ∨ ¬ (nth xs (k - 1)).Number ≥ (nth xs k).Number) (h2 : ∀ j, j < (nth xs k).Names.length → (xs.take k).any (fun y => hasS y.Names (nth (nth xs k).Names j)) = false) : okInc xs k = true := by
  have h3 : freshB xs k = true := allB_true (fun j hj => by rw [h2 j hj]; rfl)
  rcases h' with h' | h' <;> simp only [okInc, h, h3, decide_eq_false h'] <;> simp
theorem incsB_no {xs : List Incident} {k : Nat} (hk : k < xs.length) (h : okInc xs k = false) : incsB xs = false := by simp only [incsB, allB_false hk h]; rfl
theorem incsB_all {xs : List Incident} (h : ∀ j, j < xs.length → okInc xs j = true) : incsB xs = decide (xs.length ≤ 8) := by simp only [incsB, allB_true h]; rfl
theorem incsB_len {xs : List Incident} (h : incsB xs = true) : xs.length ≤ 8 := by simp [incsB] at h; exact h.2
theorem incsB_at {xs : List Incident} (h : incsB xs = true) {k : Nat} (hk : k < xs.length) : incAt xs k = true := by
  simp only [incsB, Bool.and_eq_true] at h
  have := allB_iff.1 h.1 k hk
  simp only [okInc, Bool.and_eq_true] at this
  exact this.1.1
theorem any_take_no {α : Type} [Inhabited α] {xs : List α} {p : α → Bool} {k : Nat} (hk : k ≤ xs.length) (h : ∀ j, j < k → p (nth xs j) = false) : (xs.take k).any p = false := by
  rw [List.any_eq_false]
  intro x hx
  obtain ⟨j, hj, rfl⟩ := List.getElem_of_mem hx
  rw [List.length_take] at hj
  have := h j (by omega)
  rw [nth_get (List.getElem?_eq_getElem (by omega : j < xs.length))] at this
  rw [List.getElem_take, this]; simp
theorem any_take_yes {α : Type} [Inhabited α] {xs : List α} {p : α → Bool} {j k : Nat} (hk : k ≤ xs.length) (hj : j < k) (h : p (nth xs j) = true) : (xs.take k).any p = true := by
  rw [List.any_eq_true]
  refine ⟨nth xs j, ?_, h⟩
  rw [nth_get (List.getElem?_eq_getElem (by omega : j < xs.length))]
  rw [List.mem_iff_getElem?]
  exact ⟨j, by rw [List.getElem?_take, if_pos hj]; exact List.getElem?_eq_getElem _⟩

end Go.Proofs.Ytnaadihbkiakeaa
