/-
  Lists of incidents: the mark of one that was handed in. No conditions.
-/
import Derived.Test.YtnaadihbkiakeaaIncL
namespace Go.Proofs.Ytnaadihbkiakeaa
open Go.RowKit

/-- What a mark of a list handed in leaves. -/
def MarkPost (w : World) (F : List Nat) (bound : Int) (e : Ending) (w' : World) : Prop := ∃ r : Int, e = .returned (.int .i64 r) ∧ 0 ≤ r ∧ r ≤ bound ∧ OnlyF F w w'
theorem nth_set_self {α : Type} [Inhabited α] {L : List α} {i : Nat} {y : α} (h : i < L.length) : nth (L.set i y) i = y := nth_get (by rw [List.getElem?_set_self h])
theorem sum_take_le (L : List Nat) (i : Nat) : (L.take i).sum ≤ L.sum := by
  conv => rhs; rw [← List.take_append_drop i L, List.sum_append]
  omega
end Go.Proofs.Ytnaadihbkiakeaa
