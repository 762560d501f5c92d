/-
  More memory words: what a callee leaves of the boxes before it. No conditions.
-/
import Derived.Deep.RegionHeld3
import Derived.Deep.DeepCutAuto
import Derived.Test.YtfglmghcgoembaaGreatDoorHx5
namespace Go.Proofs.YtfglmghcgoembaaGreatDoor
open Go.RowKit

theorem frozen_later {W V : World} {p : Addr} (hb : Below W.heap.size W V) (hp : p.block < W.heap.size) (h : W.frozen? p = false) : V.frozen? p = false := (hb.frozen hp).trans h
theorem Own.set {α : Type} [Flat α] {w : World} {base : Nat} {E : TypeId} {v : Value} {xs : List α} (h : Own w base E v xs) {g : Nat} (hg : g < base) {o : Nat} (u : Value) : Own (w.setCell ⟨g, o, none⟩ u) base E v xs :=
  h.grown (gb_set (gb_refl _ _) o u) (.inr (fun e => by have := h.lt g e; omega))
theorem OnlyF.alloc {F : List Nat} {a b : World} (h : OnlyF F a b) (o : Obj) : OnlyF F a (b.alloc o) := h.trans (.below (bl_alloc (bl_refl b) o))
theorem OnlyF.drew {F : List Nat} {a b : World} (h : OnlyF F a b) : OnlyF F a b.drew := h.trans (.below (bl_drew (bl_refl b)))
theorem OnlyF.set {F : List Nat} {a b : World} (h : OnlyF F a b) {g o : Nat} (hg : g ∈ F) (u : Value) : OnlyF F a (b.setCell ⟨g, o, none⟩ u) :=
  h.trans ((OnlyF.of_gb (v := .slice (some ⟨g, 0, none⟩) 0 0) (gb_set (gb_refl b _) o u)).mono (fun k hk => by
    have hk' : k = g := by simpa [Value.ownBlock] using hk
    rw [hk']; exact hg))
theorem OnlyF.frozen {F : List Nat} {a b : World} (h : OnlyF F a b) {p : Addr} (hlt : p.block < a.heap.size) (hn : p.block ∉ F) : b.frozen? p = a.frozen? p := World.frozen?_of_block (h.block p.block hlt hn)
/-- append of one new element, whose block is told by its number. -/
theorem wpList_app1g {α : Type} [Flat α] {P : Program} {ops : Array Oper} {rest : List Oper} {o : Oper} {a : Act} {Q : Exit → Act → World → Prop} (hgd : o.guard = none) (s x : Operand) (t e : TypeId)
    (ho : o.op = .call { callee := .builtin .append, args := #[s, x], argTypes := #[t, t] }) (he : Elem P t e (Flat.sz α)) {w0 w : World} {A : Option Addr} {n c g : Nat} {xs : List α} (y : α) (hs : a.eval s = .slice A n c)
    (hown : Own w w0.heap.size e (.slice A n c) xs) (hb : Below w0.heap.size w0 w) (hx : a.eval x = .slice (some ⟨g, 0, none⟩) 1 1) (hg : w.heap.size = g) (hlim : n ≤ 274877906944)
    (h : ∀ A' c' w', Own w' w0.heap.size e (.slice A' (n + 1) c') (xs ++ [y]) → Below w0.heap.size w0 w' → (w.alloc (.cells (Flat.enc y).toArray e)).grownBy w' (Value.ownBlock (.slice A n c)) → wpList P ops Q rest (a.put o.dst (.slice A' (n + 1) c')) w') :
    wpList P ops Q (o :: rest) a (w.alloc (.cells (Flat.enc y).toArray e)) := by
  subst hg; exact wpList_app1 hgd s x t e ho he y hs hown hb hx hlim h

end Go.Proofs.YtfglmghcgoembaaGreatDoor
