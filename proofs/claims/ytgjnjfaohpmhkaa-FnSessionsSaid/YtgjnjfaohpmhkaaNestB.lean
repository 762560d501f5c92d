/-
  Lists of structs that hold one slice each: one more; calls that hand such a list back. No conditions.
-/
import Derived.Test.YtgjnjfaohpmhkaaNest
namespace Go.Proofs.Ytgjnjfaohpmhkaa
open Go.RowKit

section
variable {R α X : Type} [Flat R] [Flat α] [Deep X] {N : Nest R α X} {w w' : World} {base : Nat} {E E' : TypeId}
theorem OwnP.nil (N : Nest R α X) (w : World) (base : Nat) {E E' : TypeId} (h : E ≠ E') : OwnP N w base E E' (.slice none 0 0) [] :=
  OwnP.fresh (Own.nil _ _ _) (fun i p hp => by simp at hp) h
/-- One struct more, behind an append to the outer slice; its own slice is a new one. -/
theorem OwnP.snoc {A A' : Option Addr} {n c m c' : Nat} {ps : List (R × List α)} {r : R} {l : List α} (h : OwnP N w base E E' (.slice A n c) ps) (ho : Own w' base E (.slice A' m c') (ps.map Prod.fst ++ [r])) (hi : Own w' base E' (N.hdr r) l)
    (hf : OnlyF (Value.ownBlock (.slice A n c)).toList w w') (hb : ∀ x, (N.hdr r).ownBlock = some x → ∀ (j : Nat) q, ps[j]? = some q → (N.hdr q.1).ownBlock ≠ some x) : OwnP N w' base E E' (.slice A' m c') (ps ++ [(r, l)]) := by
  have hold : ∀ (i : Nat) p, (ps ++ [(r, l)])[i]? = some p → ps[i]? = some p ∨ (i = ps.length ∧ p = (r, l)) := fun i p hp => by
    rcases Nat.lt_or_ge i ps.length with hi' | hi'
    · rw [List.getElem?_append_left hi'] at hp; exact .inl hp
    · rw [List.getElem?_append_right hi'] at hp
      have h0 : i - ps.length < 1 := (List.getElem?_eq_some_iff.1 hp).1
      have h1 : i = ps.length := by omega
      subst h1
      rw [Nat.sub_self] at hp
      exact .inr ⟨rfl, by simpa using hp.symm⟩
  refine ⟨by rw [List.map_append]; exact ho, fun i p hp => ?_, fun i j p q hij hp hq x hx hx' => ?_, h.ne⟩
  · rcases hold i p hp with hp' | ⟨_, rfl⟩
    · refine (h.inn i p hp').only hf (fun y hy hm => ?_)
      exact h.sep (k := y) (by simpa using hm) hp' (by simpa using hy)
    · exact hi
  · rcases hold i p hp with hp' | ⟨e1, rfl⟩
    · rcases hold j q hq with hq' | ⟨e2, rfl⟩
      · exact h.apart i j p q hij hp' hq' x hx hx'
      · exact hb x hx' i p hp' hx
    · rcases hold j q hq with hq' | ⟨e2, rfl⟩
      · exact hb x hx j q hq' hx'
      · omega
/-- A call hands back such a slice and a bool. -/
def RetOwnX2 (N : Nest R α X) (w : World) (E E' : TypeId) (r : List X × Bool) (e : Ending) (w' : World) : Prop :=
  ∃ A c F, e = .returned (.tuple #[.slice A r.1.length c, .bool r.2]) ∧ OwnX N w' w.heap.size E E' (.slice A r.1.length c) r.1 F ∧ Below w.heap.size w w'
theorem retOwnX2_mk {A : Option Addr} {n c : Nat} {ps : List (R × List α)} {xs : List X} {b : Bool} {r : List X × Bool} (hr : r = (xs, b)) (hp : N.plain ps = xs) (ho : OwnP N w' w.heap.size E E' (.slice A n c) ps) (hb : Below w.heap.size w w') : RetOwnX2 N w E E' r (.returned (.tuple #[.slice A n c, .bool b])) w' := by
  subst hr; subst hp
  have hl : (N.plain ps).length = n := ho.sl.1
  subst hl
  exact ⟨A, c, _, rfl, ho.x, hb⟩
theorem retOwnX2_nil (hE : E ≠ E') {r : List X × Bool} {b : Bool} (hr : r = ([], b)) (hb : Below w.heap.size w w') : RetOwnX2 N w E E' r (.returned (.tuple #[.slice none 0 0, .bool b])) w' :=
  retOwnX2_mk hr rfl (OwnP.nil N w' _ hE) hb
/-- .. with a number between. -/
def RetOwnX3 (N : Nest R α X) (w : World) (E E' : TypeId) (r : List X × Int × Bool) (e : Ending) (w' : World) : Prop :=
  ∃ A c F, e = .returned (.tuple #[.slice A r.1.length c, .int .i64 r.2.1, .bool r.2.2]) ∧ OwnX N w' w.heap.size E E' (.slice A r.1.length c) r.1 F ∧ Below w.heap.size w w'
theorem retOwnX3_mk {A : Option Addr} {n c : Nat} {ps : List (R × List α)} {xs : List X} {b : Bool} {k : Int} {r : List X × Int × Bool} (hr : r = (xs, k, b)) (hp : N.plain ps = xs) (ho : OwnP N w' w.heap.size E E' (.slice A n c) ps) (hb : Below w.heap.size w w') : RetOwnX3 N w E E' r (.returned (.tuple #[.slice A n c, .int .i64 k, .bool b])) w' := by
  subst hr; subst hp
  have hl : (N.plain ps).length = n := ho.sl.1
  subst hl
  exact ⟨A, c, _, rfl, ho.x, hb⟩
theorem retOwnX3_nil (hE : E ≠ E') {r : List X × Int × Bool} {b : Bool} {k : Int} (hr : r = ([], k, b)) (hb : Below w.heap.size w w') : RetOwnX3 N w E E' r (.returned (.tuple #[.slice none 0 0, .int .i64 k, .bool b])) w' :=
  retOwnX3_mk hr rfl (OwnP.nil N w' _ hE) hb
end

end Go.Proofs.Ytgjnjfaohpmhkaa
