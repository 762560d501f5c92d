/-
  More memory words: results of two parts. No conditions.
-/
import Derived.Test.YtgjnjfaohpmhkaaMem
namespace Go.Proofs.Ytgjnjfaohpmhkaa
open Go.RowKit
/-- A call hands back a slice of its own that holds xs, and a bool. -/
def RetOwn2 {α : Type} [Flat α] (w : World) (E : TypeId) (r : List α × Bool) (e : Ending) (w' : World) : Prop :=
  ∃ A c, e = .returned (.tuple #[.slice A r.1.length c, .bool r.2]) ∧ Own w' w.heap.size E (.slice A r.1.length c) r.1 ∧ Below w.heap.size w w'
theorem retOwn2_mk {α : Type} [Flat α] {w w' : World} {E : TypeId} {r : List α × Bool} {xs : List α} {b : Bool} {A : Option Addr} {n c : Nat} (hr : r = (xs, b)) (ho : Own w' w.heap.size E (.slice A n c) xs) (hb : Below w.heap.size w w') :
    RetOwn2 w E r (.returned (.tuple #[.slice A n c, .bool b])) w' := by
  subst hr
  have := ho.sl.1
  subst this
  exact ⟨A, c, rfl, ho, hb⟩
theorem RetOwn2.back {α : Type} [Flat α] {w0 w w' : World} {E : TypeId} {r : List α × Bool} {e : Ending} (h : RetOwn2 w E r e w') (hb : Below w0.heap.size w0 w) : RetOwn2 w0 E r e w' := by
  obtain ⟨A, c, he, ho, hb'⟩ := h
  exact ⟨A, c, he, ho.mono hb.size, bl_trans hb hb'⟩
end Go.Proofs.Ytgjnjfaohpmhkaa
