/-
  More memory words: what a callee leaves of the boxes before it. No conditions.
-/
import Derived.Deep.RegionHeld3
import Derived.Test.YtmmaddlbaonajaaMem5
namespace Go.Proofs.Ytmmaddlbaonajaa
open Go.RowKit

theorem frozen_later {W V : World} {p : Addr} (hb : Below W.heap.size W V) (hp : p.block < W.heap.size) (h : W.frozen? p = false) : V.frozen? p = false := (hb.frozen hp).trans h
theorem Own.set {α : Type} [Flat α] {w : World} {base : Nat} {E : TypeId} {v : Value} {xs : List α} (h : Own w base E v xs) {g : Nat} (hg : g < base) {o : Nat} (u : Value) : Own (w.setCell ⟨g, o, none⟩ u) base E v xs :=
  h.grown (gb_set (gb_refl _ _) o u) (.inr (fun e => by have := h.lt g e; omega))

end Go.Proofs.Ytmmaddlbaonajaa
