/-
  slices.Insert's memory: cells of a row, copies into it. No conditions.
-/
import Derived.Test.YtokcgjjnljflaaaMem10
import Derived.Lib.Overlaps
import Derived.Laws.Externs
namespace Go.Proofs.Ytokcgjjnljflaaa
open Go.RowKit

theorem cell_row {w : World} {g : Nat} {cur : Array Value} {t : TypeId} {fz : Nat × Nat} (h : w.heap[g]? = some (.cells cur t fz)) (j : Nat) : w.cell? ⟨g, j, none⟩ = cur[j]? := by
  simp [World.cell?, h]
theorem frozen_row {w : World} {g : Nat} {cur : Array Value} {t : TypeId} (h : w.heap[g]? = some (.cells cur t (0, 0))) (j : Nat) : w.frozen? ⟨g, j, none⟩ = false := by
  simp [World.frozen?, h]
theorem shape_row {w : World} {g : Nat} {cur : Array Value} {t : TypeId} {fz : Nat × Nat} (h : w.heap[g]? = some (.cells cur t fz)) : w.shape? g = some (t, cur.size) := by
  simp [World.shape?, h]
section
variable {α : Type} [Flat α]
/-- what stands from i on, read out of the row -/
theorem row_from {cur : Array Value} {xs : List α} {n i : Nat} (hn : xs.length = n) (ht : cur.toList.take (n * Flat.sz α) = cellsOf xs) (hi : i ≤ n) : ∀ (j : Nat) (v : Value), (cellsOf (xs.drop i))[j]? = some v → cur[i * Flat.sz α + j]? = some v := by
  intro j v hv
  have hj : j < (n - i) * Flat.sz α := by
    have := (List.getElem?_eq_some_iff.1 hv).1
    rwa [drop_cells_length hn] at this
  have h1 : cellsOf xs = cellsOf (xs.take i) ++ cellsOf (xs.drop i) := by rw [← cellsOf_append, List.take_append_drop]
  have h2 : (cellsOf (xs.take i)).length = i * Flat.sz α := by rw [cellsOf_length, List.length_take, Nat.min_eq_left (by omega)]
  have e : (n - i) * Flat.sz α = n * Flat.sz α - i * Flat.sz α := Nat.sub_mul _ _ _
  have h3 : (cellsOf xs)[i * Flat.sz α + j]? = some v := by
    rw [h1, List.getElem?_append_right (by omega), h2, Nat.add_sub_cancel_left]; exact hv
  rw [← ht, List.getElem?_take, if_pos (by omega)] at h3
  simpa using h3
theorem row_head {cur : Array Value} {xs : List α} {n i : Nat} (ht : cur.toList.take (n * Flat.sz α) = cellsOf xs) : ∀ (j : Nat) (v : Value), (cellsOf (xs.take i))[j]? = some v → cur[j]? = some v := by
  intro j v hv
  have h1 : cellsOf xs = cellsOf (xs.take i) ++ cellsOf (xs.drop i) := by rw [← cellsOf_append, List.take_append_drop]
  have h3 : (cellsOf xs)[j]? = some v := by rw [h1, List.getElem?_append_left ((List.getElem?_eq_some_iff.1 hv).1)]; exact hv
  have hj := (List.getElem?_eq_some_iff.1 h3).1
  rw [← ht, List.getElem?_take] at h3
  split at h3
  · simpa using h3
  · cases h3
end
/-- A call hands back a slice with one element more, at place i. -/
def RetIns {α : Type} [Flat α] (w : World) (base : Nat) (E : TypeId) (A : Option Addr) (n c : Nat) (ys : List α) (e : Ending) (w' : World) : Prop :=
  ∃ A' c', e = .returned (.slice A' (n + 1) c') ∧ Own w' base E (.slice A' (n + 1) c') ys ∧ w.grownBy w' (Value.ownBlock (.slice A n c))
end Go.Proofs.Ytokcgjjnljflaaa
