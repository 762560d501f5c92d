/-
  Several texts in one. No conditions.
-/
import Derived.Test.YtfglmghcgoembaaGreatDoorHx0
namespace Go.Proofs.YtfglmghcgoembaaGreatDoor
open Go.RowKit
/-- A call hands back a slice of its own that holds xs, and a bool. -/
def RetOwn2 {α : Type} [Flat α] (w : World) (E : TypeId) (r : List α × Bool) (e : Ending) (w' : World) : Prop :=
  ∃ A c, e = .returned (.tuple #[.slice A r.1.length c, .bool r.2]) ∧ Own w' w.heap.size E (.slice A r.1.length c) r.1 ∧ Below w.heap.size w w'
theorem retOwn2_mk {α : Type} [Flat α] {w w' : World} {E : TypeId} {r : List α × Bool} {xs : List α} {b : Bool} {A : Option Addr} {n c : Nat} (hr : r = (xs, b)) (ho : Own w' w.heap.size E (.slice A n c) xs) (hb : Below w.heap.size w w') :
    RetOwn2 w E r (.returned (.tuple #[.slice A n c, .bool b])) w' := by
  subst hr
  have := ho.sl.1
  subst this
  exact ⟨A, c, rfl, ho, hb⟩
theorem RetOwn2.back {α : Type} [Flat α] {w0 w w' : World} {E : TypeId} {r : List α × Bool} {e : Ending} (h : RetOwn2 w E r e w') (hb : Below w0.heap.size w0 w) : RetOwn2 w0 E r e w' := by
  obtain ⟨A, c, he, ho, hb'⟩ := h
  exact ⟨A, c, he, ho.mono hb.size, bl_trans hb hb'⟩
end Go.Proofs.YtfglmghcgoembaaGreatDoor

namespace Go.Proofs.YtfglmghcgoembaaGreatDoor
open Go.RowKit
theorem gb_refl (w : World) (row : Option Nat) : w.grownBy w row := ⟨rfl, rfl, rfl, Nat.le_refl _, fun _ _ _ => rfl⟩
theorem gb_trans {a b c : World} {row : Option Nat} (h : a.grownBy b row) (k : b.grownBy c row) : a.grownBy c row :=
  ⟨k.os.trans h.os, k.tape.trans h.tape, k.output.trans h.output, Nat.le_trans h.size k.size, fun i hi hne => (k.block i (Nat.lt_of_lt_of_le hi h.size) hne).trans (h.block i hi hne)⟩
theorem gb_below {a b : World} (h : Below a.heap.size a b) (row : Option Nat) : a.grownBy b row := ⟨h.os, h.tape, h.output, h.size, fun i hi _ => h.block i hi⟩
theorem gb_set {a w : World} {g : Nat} (h : a.grownBy w (some g)) (o : Nat) (u : Value) : a.grownBy (w.setCell ⟨g, o, none⟩ u) (some g) :=
  ⟨h.os, h.tape, h.output, by simpa [World.setCell] using h.size, fun i hi hne => (Below.heap_setCell w _ u i (fun e => hne (by rw [e]))).trans (h.block i hi hne)⟩
theorem Below.of_gb {B : Nat} {a b : World} {row : Option Nat} (h : a.grownBy b row) (hB : B ≤ a.heap.size) (hr : ∀ k, row = some k → B ≤ k) : Below B a b :=
  ⟨h.os, h.tape, h.output, h.size, fun k hk => h.block k (by omega) (fun e => by have := hr k e.symm; omega)⟩
theorem Own.form {α : Type} [Flat α] {w : World} {base : Nat} {E : TypeId} {A : Option Addr} {n c : Nat} {xs : List α} (h : Own w base E (.slice A n c) xs) (hn : 0 < n) : ∃ g, A = some ⟨g, 0, none⟩ := by
  have hl := h.sl.1
  obtain ⟨g, cap, hv, _, _⟩ := World.ownsRow.form h (by omega)
  injection hv with hA
  exact ⟨g, hA⟩
/-- the marks from m on, each of which takes s numbers -/
def marks {α : Type} (f : Int → α) (s : Nat) (k : Int) (n : Nat) : List α := (List.range n).map (fun i : Nat => f (k + (s : Int) * i))
theorem marks_len {α : Type} (f : Int → α) (s : Nat) (k : Int) (n : Nat) : (marks f s k n).length = n := by simp [marks]
theorem marks_succ {α : Type} (f : Int → α) (s : Nat) (k : Int) (n : Nat) : marks f s k (n + 1) = marks f s k n ++ [f (k + (s : Int) * n)] := by
  simp [marks, List.range_succ]
theorem marks_nth {α : Type} [Inhabited α] {f : Int → α} {s : Nat} {k : Int} {n i : Nat} (h : i < n) : nth (marks f s k n) i = f (k + (s : Int) * i) :=
  nth_get (by simp [marks, h])
theorem marks_put {α : Type} {f : Int → α} {s : Nat} {k : Int} {n i : Nat} {xs L : List α} (hx : xs.length = n) (h : i < n) (hL : L = marks f s k i ++ xs.drop i) {x : α} (he : x = f (k + (s : Int) * i)) :
    L.set i x = marks f s k (i + 1) ++ xs.drop (i + 1) := by
  subst hL
  rw [List.set_append_right _ _ (by rw [marks_len]; exact Nat.le_refl _), marks_len, Nat.sub_self, marks_succ, List.drop_eq_getElem_cons (by omega), List.set_cons_zero, he]
  simp
end Go.Proofs.YtfglmghcgoembaaGreatDoor
