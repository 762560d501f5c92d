/-
  One cell of an element overwritten. No conditions.
-/
import Derived.Test.YtgjnjfaohpmhkaaMem3
namespace Go.Proofs.Ytgjnjfaohpmhkaa
open Go.RowKit
theorem cellsOf_set1 {α : Type} [Flat α] [Inhabited α] {xs : List α} {k j : Nat} (hk : k < xs.length) (hj : j < Flat.sz α) {y : α} {v : Value} (hy : Flat.enc y = (Flat.enc (nth xs k)).set j v) :
    (cellsOf xs).set (k * Flat.sz α + j) v = cellsOf (xs.set k y) := by
  have e1 : xs = xs.take k ++ [nth xs k] ++ xs.drop (k + 1) := by
    conv => lhs; rw [← List.take_append_drop k xs, drop_nth hk]
    simp
  have e2 : xs.set k y = xs.take k ++ [y] ++ xs.drop (k + 1) := by
    rw [List.set_eq_take_append_cons_drop, if_pos hk]; simp
  have hl : (cellsOf (xs.take k)).length = k * Flat.sz α := by rw [cellsOf_length, List.length_take, Nat.min_eq_left (by omega)]
  have h1 : (cellsOf xs) = cellsOf (xs.take k) ++ (Flat.enc (nth xs k) ++ cellsOf (xs.drop (k + 1))) := by
    conv => lhs; rw [e1]
    rw [cellsOf_append, cellsOf_append, cellsOf_one, List.append_assoc]
  rw [h1, e2, cellsOf_append, cellsOf_append, cellsOf_one, ← hl, List.set_append_right _ _ (by omega), Nat.add_sub_cancel_left, List.set_append_left _ _ (by rw [Flat.len]; exact hj), hy, List.append_assoc]
theorem Own.put1 {α : Type} [Flat α] [Inhabited α] {w : World} {base g n cap : Nat} {E : TypeId} {xs : List α} (h : Own w base E (.slice (some ⟨g, 0, none⟩) n cap) xs) {k : Nat} (hk : k < n) (j : Nat) (hj : j < Flat.sz α) {y : α} {v : Value}
    (hy : Flat.enc y = (Flat.enc (nth xs k)).set j v) : Own (w.setCell ⟨g, k * Flat.sz α + j, none⟩ v) base E (.slice (some ⟨g, 0, none⟩) n cap) (xs.set k y) := by
  have hn := h.sl.1
  unfold Own at h ⊢
  rw [List.length_set, ← cellsOf_set1 (by omega) hj hy]
  rw [hn] at h ⊢
  exact (World.ownsRow.stored h _ v).1
end Go.Proofs.Ytgjnjfaohpmhkaa
