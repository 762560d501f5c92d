/-
  Several texts in one. No conditions.
-/
import Derived.WalkKit
import Derived.WalkSpells
import Derived.WalkLawsBesides
import Derived.Deep.QuietTactic
import Derived.BigQuiet
import Derived.Handy
import Derived.Lib.Hide
import Derived.Deep.AppendLies
import Derived.Maps.AppendAt
import Derived.Test.YtfglmghcgoembaaGreatDoorProg
namespace Go.Proofs.YtfglmghcgoembaaGreatDoor
open Go.RowKit

/-- What can be read in w reads alike in w'. -/
def Keeps (w w' : World) : Prop := ∀ (a : Addr) (v : Value), w.cell? a = some v → w'.cell? a = some v
theorem Keeps.refl (w : World) : Keeps w w := fun _ _ h => h
theorem Keeps.trans {a b c : World} (h : Keeps a b) (k : Keeps b c) : Keeps a c := fun _ _ e => k _ _ (h _ _ e)
theorem Keeps.of_below {w w' : World} (h : Below w.heap.size w w') : Keeps w w' := fun _ _ e => cell_later h e

/-- Plain data that lies in memory: how many cells, and which cells read as it. -/
class Deep (α : Type) where
  sz : Nat
  pos : 0 < sz
  rep : World → List Value → α → Prop
  len : ∀ {w cs x}, rep w cs x → cs.length = sz
  keep : ∀ {w w' cs x}, Keeps w w' → rep w cs x → rep w' cs x

/-- Plain data whose cells do not hang on the world. -/
class Flat (α : Type) where
  sz : Nat
  pos : 0 < sz
  enc : α → List Value
  len : ∀ x, (enc x).length = sz
  one : ∀ x, ∀ u ∈ enc x, u.oneCell' = true

instance {α : Type} [Flat α] : Deep α where
  sz := Flat.sz α
  pos := Flat.pos
  rep := fun _ cs x => cs = Flat.enc x
  len := fun {_ _ x} h => by subst h; exact Flat.len x
  keep := fun _ h => h

instance : Flat Int where
  sz := 1
  pos := by omega
  enc := fun x => [.int .i64 x]
  len := fun _ => rfl
  one := fun _ u h => by simp at h; subst h; rfl

instance : Flat Bool where
  sz := 1
  pos := by omega
  enc := fun x => [.bool x]
  len := fun _ => rfl
  one := fun _ u h => by simp at h; subst h; rfl

instance : Flat ByteArray where
  sz := 1
  pos := by omega
  enc := fun x => [.string x]
  len := fun _ => rfl
  one := fun _ u h => by simp at h; subst h; rfl

/-- The k-th element. -/
def nth {α : Type} [Inhabited α] (xs : List α) (k : Nat) : α := xs.getD k default
theorem nth_get {α : Type} [Inhabited α] {xs : List α} {k : Nat} {x : α} (h : xs[k]? = some x) : nth xs k = x := by
  unfold nth; rw [List.getD_eq_getElem?_getD, h]; rfl
theorem get_nth {α : Type} [Inhabited α] {xs : List α} {k : Nat} (h : k < xs.length) : xs[k]? = some (nth xs k) := by
  unfold nth; rw [List.getD_eq_getElem?_getD, List.getElem?_eq_getElem h]; rfl
theorem take_succ {α : Type} [Inhabited α] {xs : List α} {k : Nat} (h : k < xs.length) : xs.take (k + 1) = xs.take k ++ [nth xs k] := by
  rw [List.take_add_one, get_nth h]; rfl
theorem drop_nth {α : Type} [Inhabited α] {xs : List α} {k : Nat} (h : k < xs.length) : xs.drop k = nth xs k :: xs.drop (k + 1) := by
  rw [List.drop_eq_getElem_cons h]; congr 1; exact (nth_get (List.getElem?_eq_getElem h)).symm

section
variable {α : Type} [Deep α]
/-- The slice '.slice A n _' reads in w as the list xs. -/
def Sl (w : World) (A : Option Addr) (n : Nat) (xs : List α) : Prop :=
  xs.length = n ∧ ∀ k x, xs[k]? = some x → ∃ b o cs, A = some ⟨b, o, none⟩ ∧ Deep.rep w cs x ∧
    ∀ j v, cs[j]? = some v → w.cell? ⟨b, o + k * Deep.sz α + j, none⟩ = some v

theorem Sl.keep {w w' : World} {A : Option Addr} {n : Nat} {xs : List α} (h : Sl w A n xs) (k : Keeps w w') : Sl w' A n xs :=
  ⟨h.1, fun i x hx => by
    obtain ⟨b, o, cs, hA, hr, hc⟩ := h.2 i x hx
    exact ⟨b, o, cs, hA, Deep.keep k hr, fun j v hv => k _ _ (hc j v hv)⟩⟩
theorem Sl.below {w w' : World} {A : Option Addr} {n : Nat} {xs : List α} (h : Sl w A n xs) (k : Below w.heap.size w w') : Sl w' A n xs := h.keep (.of_below k)
theorem Sl.nil (w : World) (A : Option Addr) : Sl w A 0 ([] : List α) := ⟨rfl, fun k x h => by simp at h⟩
theorem Sl.at [Inhabited α] {w : World} {A : Option Addr} {n : Nat} {xs : List α} (h : Sl w A n xs) {k : Nat} (hk : k < n) :
    ∃ b o cs, A = some ⟨b, o, none⟩ ∧ Deep.rep w cs (nth xs k) ∧ ∀ j v, cs[j]? = some v → w.cell? ⟨b, o + k * Deep.sz α + j, none⟩ = some v :=
  h.2 k _ (get_nth (by have := h.1; omega))
/-- Two elements of one slice: the same block and offset. -/
theorem Sl.at2 [Inhabited α] {w : World} {b o n : Nat} {xs : List α} (h : Sl w (some ⟨b, o, none⟩) n xs) {k : Nat} (hk : k < n) :
    ∃ cs, Deep.rep w cs (nth xs k) ∧ ∀ j v, cs[j]? = some v → w.cell? ⟨b, o + k * Deep.sz α + j, none⟩ = some v := by
  obtain ⟨b', o', cs, hA, hr, hc⟩ := h.at hk
  injection hA with hA; injection hA with h1 h2; subst h1; subst h2
  exact ⟨cs, hr, hc⟩
end

theorem addr_add (b o j : Nat) : (⟨b, o, none⟩ : Addr).add j = ⟨b, o + j, none⟩ := by
  unfold Addr.add; split
  · rename_i h; subst h; rfl
  · rfl

section
variable {α : Type} [Flat α]
theorem Sl.lt [Inhabited α] {w : World} {b o n : Nat} {xs : List α} (h : Sl w (some ⟨b, o, none⟩) n xs) {k : Nat} (hk : k < n) : b < w.heap.size := by
  obtain ⟨b', o', hA, hc⟩ : ∃ b' o', some (⟨b, o, none⟩ : Addr) = some ⟨b', o', none⟩ ∧ ∀ j v, (Flat.enc (nth xs k))[j]? = some v → w.cell? ⟨b', o' + k * Flat.sz α + j, none⟩ = some v := by
    obtain ⟨b', o', cs, hA, hr, hc⟩ := h.at hk
    have hr' : cs = Flat.enc (nth xs k) := hr
    subst hr'
    exact ⟨b', o', hA, hc⟩
  injection hA with hA; injection hA with h1 h2; subst h1; subst h2
  have hl := Flat.len (nth xs k)
  have hp := Flat.pos (α := α)
  exact World.block_lt_of_cell? w _ (hc 0 _ (List.getElem?_eq_getElem (by omega)))
theorem Sl.flat [Inhabited α] {w : World} {A : Option Addr} {n : Nat} {xs : List α} (h : Sl w A n xs) {k : Nat} (hk : k < n) :
    ∃ b o, A = some ⟨b, o, none⟩ ∧ ∀ j v, (Flat.enc (nth xs k))[j]? = some v → w.cell? ⟨b, o + k * Flat.sz α + j, none⟩ = some v := by
  obtain ⟨b, o, cs, hA, hr, hc⟩ := h.at hk
  have hr' : cs = Flat.enc (nth xs k) := hr
  subst hr'
  exact ⟨b, o, hA, hc⟩
theorem Sl.flat2 [Inhabited α] {w : World} {b o n : Nat} {xs : List α} (h : Sl w (some ⟨b, o, none⟩) n xs) {k : Nat} (hk : k < n) :
    ∀ j v, (Flat.enc (nth xs k))[j]? = some v → w.cell? ⟨b, o + k * Flat.sz α + j, none⟩ = some v := by
  obtain ⟨cs, hr, hc⟩ := h.at2 hk
  have hr' : cs = Flat.enc (nth xs k) := hr
  subst hr'
  exact hc

/-- All cells of a list, in a row. -/
def cellsOf (xs : List α) : List Value := xs.flatMap Flat.enc
theorem cellsOf_length (xs : List α) : (cellsOf xs).length = xs.length * Flat.sz α := by
  induction xs with
  | nil => simp [cellsOf]
  | cons x xs ih => simp only [cellsOf, List.flatMap_cons, List.length_append, Flat.len, List.length_cons] at ih ⊢; rw [ih, Nat.add_mul]; omega
theorem cellsOf_append (xs ys : List α) : cellsOf (xs ++ ys) = cellsOf xs ++ cellsOf ys := by simp [cellsOf]
theorem cellsOf_one (x : α) : cellsOf [x] = Flat.enc x := by simp [cellsOf]
theorem cellsOf_nil : cellsOf ([] : List α) = [] := rfl
theorem cellsOf_oneCell (xs : List α) : ∀ u ∈ cellsOf xs, u.oneCell' = true := by
  intro u hu
  simp only [cellsOf, List.mem_flatMap] at hu
  obtain ⟨x, _, hx⟩ := hu
  exact Flat.one x u hx
theorem cellsOf_get {xs : List α} {k : Nat} {x : α} (hx : xs[k]? = some x) {j : Nat} {v : Value} (hv : (Flat.enc x)[j]? = some v) :
    (cellsOf xs)[k * Flat.sz α + j]? = some v := by
  induction xs generalizing k with
  | nil => simp at hx
  | cons y ys ih =>
    simp only [cellsOf, List.flatMap_cons]
    cases k with
    | zero =>
      simp at hx; subst hx
      have hj : j < (Flat.enc y).length := (List.getElem?_eq_some_iff.1 hv).1
      rw [Nat.zero_mul, Nat.zero_add, List.getElem?_append_left hj]; exact hv
    | succ k =>
      simp at hx
      have h1 := Flat.len y
      rw [List.getElem?_append_right (by rw [h1, Nat.add_mul]; omega), h1]
      have e : (k + 1) * Flat.sz α + j - Flat.sz α = k * Flat.sz α + j := by rw [Nat.add_mul]; omega
      rw [e]; exact ih hx
/-- The cells of the k-th element overwritten. -/
def setMany (L : List Value) (off : Nat) : List Value → List Value
  | [] => L
  | v :: vs => setMany (L.set off v) (off + 1) vs
theorem setMany_append (pre mid post new : List Value) (h : new.length = mid.length) : setMany (pre ++ mid ++ post) pre.length new = pre ++ new ++ post := by
  induction new generalizing pre mid with
  | nil => cases mid with
    | nil => rfl
    | cons => simp at h
  | cons v vs ih =>
    cases mid with
    | nil => simp at h
    | cons m ms =>
      simp only [setMany]
      have e : ((pre ++ m :: ms ++ post).set pre.length v) = (pre ++ [v]) ++ ms ++ post := by
        rw [List.append_assoc, List.set_append_right _ _ (by omega)]; simp
      rw [e]
      have := ih (pre ++ [v]) ms (by simpa using h)
      simp only [List.length_append, List.length_cons, List.length_nil, Nat.zero_add] at this
      rw [this]; simp
theorem setMany_cells {xs : List α} {k : Nat} (hk : k < xs.length) (y : α) : setMany (cellsOf xs) (k * Flat.sz α) (Flat.enc y) = cellsOf (xs.set k y) := by
  have e1 : xs = xs.take k ++ [xs[k]] ++ xs.drop (k + 1) := by simp
  have e2 : xs.set k y = xs.take k ++ [y] ++ xs.drop (k + 1) := by
    rw [List.set_eq_take_append_cons_drop, if_pos hk]; simp
  have hl : (cellsOf (xs.take k)).length = k * Flat.sz α := by rw [cellsOf_length, List.length_take, Nat.min_eq_left (by omega)]
  rw [e2]
  conv => lhs; rw [e1]
  rw [cellsOf_append, cellsOf_append, cellsOf_append, cellsOf_append, ← hl, cellsOf_one, cellsOf_one]
  exact setMany_append _ _ _ _ (by rw [Flat.len, Flat.len])

/-- The slice value v, of element type E, is the call's own (its block from 'base' on) and holds xs. -/
def Own (w : World) (base : Nat) (E : TypeId) (v : Value) (xs : List α) : Prop := w.ownsRow base E (Flat.sz α) v xs.length (cellsOf xs)

theorem Own.sl {w : World} {base : Nat} {E : TypeId} {A : Option Addr} {n c : Nat} {xs : List α} (h : Own w base E (.slice A n c) xs) : Sl w A n xs := by
  have hn : xs.length = n := by
    rcases h.2 with ⟨hv, h0⟩ | ⟨g, cap, cur, hv, _⟩
    · injection hv with _ h2; omega
    · injection hv with _ h2; exact h2.symm
  refine ⟨hn, fun k x hx => ?_⟩
  have hk : k < xs.length := (List.getElem?_eq_some_iff.1 hx).1
  obtain ⟨g, cap, hv, _, _⟩ := World.ownsRow.form h (by omega)
  injection hv with hA _
  refine ⟨g, 0, Flat.enc x, hA, rfl, fun j v hv => ?_⟩
  have := World.ownsRow.cells h (g := g) (by rw [hA]; rfl) _ _ (cellsOf_get hx hv)
  rw [addr_add] at this
  show w.cell? ⟨g, 0 + k * Flat.sz α + j, none⟩ = some v
  rw [Nat.add_assoc]
  exact this
theorem Own.slice {w : World} {base : Nat} {E : TypeId} {v : Value} {xs : List α} (h : Own w base E v xs) : ∃ A c, v = .slice A xs.length c := by
  rcases h.2 with ⟨hv, h0⟩ | ⟨g, cap, cur, hv, _⟩
  · exact ⟨none, 0, by rw [hv, h0]⟩
  · exact ⟨_, _, hv⟩
theorem Own.lt {w : World} {base : Nat} {E : TypeId} {v : Value} {xs : List α} (h : Own w base E v xs) : ∀ k, v.ownBlock = some k → base ≤ k ∧ k < w.heap.size := World.ownsRow.lt h
theorem Own.nil (w : World) (base : Nat) (E : TypeId) : Own w base E (.slice none 0 0) ([] : List α) := by
  have := World.ownsRow_nil w base E (Flat.sz α)
  simpa [Own, cellsOf] using this
theorem Own.below {w w' : World} {base : Nat} {E : TypeId} {v : Value} {xs : List α} (h : Own w base E v xs) (hb : Below w.heap.size w w') : Own w' base E v xs := by
  refine World.ownsRow.kept (row := none) h ⟨hb.os, hb.tape, hb.output, hb.size, fun k hk _ => hb.block k hk⟩ ?_
  cases v.ownBlock <;> simp
theorem Own.grown {w w' : World} {base : Nat} {E : TypeId} {v : Value} {xs : List α} {row : Option Nat} (h : Own w base E v xs) (hb : w.grownBy w' row) (hne : v.ownBlock = none ∨ v.ownBlock ≠ row) : Own w' base E v xs :=
  World.ownsRow.kept h hb hne
theorem Own.alloc {w : World} {base : Nat} {E : TypeId} {v : Value} {xs : List α} (h : Own w base E v xs) (o : Obj) : Own (w.alloc o) base E v xs := World.ownsRow.alloc h o
theorem Own.mono {w : World} {base base' : Nat} {E : TypeId} {v : Value} {xs : List α} (h : Own w base E v xs) (hb : base' ≤ base) : Own w base' E v xs := by
  refine ⟨h.1, ?_⟩
  rcases h.2 with h2 | ⟨g, cap, cur, hv, hg, r⟩
  · exact .inl h2
  · exact .inr ⟨g, cap, cur, hv, by omega, r⟩
end

/-- Cells stored one behind the other. -/
def setCells (w : World) (g off : Nat) : List Value → World
  | [] => w
  | v :: vs => setCells (w.setCell ⟨g, off, none⟩ v) g (off + 1) vs
theorem ownsRow_setCells {base g n cap size : Nat} {e : TypeId} (vs : List Value) : ∀ {w : World} {xs : List Value} (off : Nat), w.ownsRow base e size (.slice (some ⟨g, 0, none⟩) n cap) n xs →
    (setCells w g off vs).ownsRow base e size (.slice (some ⟨g, 0, none⟩) n cap) n (setMany xs off vs) := by
  induction vs with
  | nil => intro w xs off h; exact h
  | cons v vs ih => intro w xs off h; exact ih (off + 1) (World.ownsRow.stored h off v).1
theorem below_setCells {B g : Nat} {a : World} (vs : List Value) : ∀ {w : World} (off : Nat), Below B a w → B ≤ g → Below B a (setCells w g off vs) := by
  induction vs with
  | nil => intro w off h _; exact h
  | cons v vs ih => intro w off h hg; exact ih (off + 1) (h.setCell hg v) hg
/-- The k-th element overwritten. -/
theorem Own.put {α : Type} [Flat α] {w : World} {base g n cap : Nat} {E : TypeId} {xs : List α} (h : Own w base E (.slice (some ⟨g, 0, none⟩) n cap) xs) {k : Nat} (hk : k < n) (y : α) :
    Own (setCells w g (k * Flat.sz α) (Flat.enc y)) base E (.slice (some ⟨g, 0, none⟩) n cap) (xs.set k y) := by
  have hn := h.sl.1
  unfold Own at h ⊢
  rw [List.length_set, ← setMany_cells (by omega) y]
  rw [hn] at h ⊢
  exact ownsRow_setCells _ _ h
theorem Own.cellAt {α : Type} [Flat α] [Inhabited α] {w : World} {base g n cap : Nat} {E : TypeId} {xs : List α} (h : Own w base E (.slice (some ⟨g, 0, none⟩) n cap) xs) {k : Nat} (hk : k < n) :
    ∀ j v, (Flat.enc (nth xs k))[j]? = some v → w.cell? ⟨g, k * Flat.sz α + j, none⟩ = some v := by
  intro j v hv
  have h2 := h.sl.flat2 hk j v hv
  rwa [Nat.zero_add] at h2
theorem Own.frozenAt {α : Type} [Flat α] {w : World} {base g n cap : Nat} {E : TypeId} {xs : List α} (h : Own w base E (.slice (some ⟨g, 0, none⟩) n cap) xs) (j : Nat) : w.frozen? ⟨g, j, none⟩ = false := by
  have hn := h.sl.1
  unfold Own at h
  rw [hn] at h
  exact World.ownsRow.frozenAt h j
theorem madeCells_own {α : Type} [Flat α] {z : Array Value} (d : α) (hz : z.toList = Flat.enc d) (n : Nat) : (madeCells z (n * Flat.sz α)).toList = cellsOf (List.replicate n d) := by
  have hp := Flat.pos (α := α)
  have hl := Flat.len d
  have hs : z.size = Flat.sz α := by rw [← Array.length_toList, hz, hl]
  apply List.ext_getElem?
  intro j
  by_cases hj : j < n * Flat.sz α
  · have hq : j / Flat.sz α < n := (Nat.div_lt_iff_lt_mul hp).2 hj
    have hm : j % Flat.sz α < Flat.sz α := Nat.mod_lt _ hp
    have e : j / Flat.sz α * Flat.sz α + j % Flat.sz α = j := by rw [Nat.mul_comm]; exact Nat.div_add_mod j _
    have h1 : (Flat.enc d)[j % Flat.sz α]? = some ((Flat.enc d)[j % Flat.sz α]'(by omega)) := List.getElem?_eq_getElem _
    have h2 := cellsOf_get (xs := List.replicate n d) (k := j / Flat.sz α) (x := d) (by rw [List.getElem?_replicate, if_pos hq]) h1
    rw [e] at h2
    rw [h2, ← h1, ← hz]
    have hsz : j % z.size < z.size := by rw [hs]; exact hm
    have : (madeCells z (n * Flat.sz α)).toList[j]? = some (z[j % z.size]!) := by simp [madeCells, hj]
    rw [this, ← hs, Array.getElem?_toList, Array.getElem?_eq_getElem hsz, getElem!_pos z _ hsz]
  · rw [List.getElem?_eq_none (by rw [Array.length_toList, size_madeCells]; omega), List.getElem?_eq_none (by rw [cellsOf_length, List.length_replicate]; omega)]
theorem Own.made {α : Type} [Flat α] (w : World) (E : TypeId) {z : Array Value} (d : α) (hz : z.toList = Flat.enc d) (n : Nat) (hn : n ≤ maxLen) :
    Own (w.alloc (.cells (madeCells z (n * Flat.sz α)) E)) w.heap.size E (.slice (some ⟨w.heap.size, 0, none⟩) n n) (List.replicate n d) := by
  have h := World.ownsRow_lit (base := w.heap.size) (e := E) (size := Flat.sz α) w (madeCells z (n * Flat.sz α)) n (Nat.le_refl _) hn (size_madeCells _ _)
  unfold Own
  rw [List.length_replicate, ← madeCells_own d hz n]
  exact h
/-- A call hands back a slice of its own that holds xs. -/
def RetOwn {α : Type} [Flat α] (w : World) (E : TypeId) (xs : List α) (e : Ending) (w' : World) : Prop :=
  ∃ A c, e = .returned (.slice A xs.length c) ∧ Own w' w.heap.size E (.slice A xs.length c) xs ∧ Below w.heap.size w w'
theorem retOwn_mk {α : Type} [Flat α] {w w' : World} {E : TypeId} {xs : List α} {A : Option Addr} {n c : Nat} (hn : xs.length = n) (ho : Own w' w.heap.size E (.slice A n c) xs) (hb : Below w.heap.size w w') :
    RetOwn w E xs (.returned (.slice A n c)) w' := by subst hn; exact ⟨A, c, rfl, ho, hb⟩
/-- What append and make ask of an element's type. -/
def Elem (P : Program) (t e : TypeId) (sz : Nat) : Prop :=
  ∃ i z, P.underlying t = some (.slice e) ∧ P.info? e = some i ∧ i.zero = some z ∧ i.size = sz ∧ i.bytes ≤ 256 ∧ z.cells.size = sz
theorem elem_mk {P : Program} {t e : TypeId} {sz : Nat} (h1 : P.underlying t = some (.slice e)) (h2 : (P.info? e).map (fun i => (i.zero.map (fun z => z.cells.size), i.size, decide (i.bytes ≤ 256))) = some (some sz, sz, true)) : Elem P t e sz := by
  cases h : P.info? e with
  | none => rw [h] at h2; cases h2
  | some i =>
    rw [h] at h2
    simp only [Option.map_some, Option.some.injEq, Prod.mk.injEq, decide_eq_true_eq] at h2
    obtain ⟨hz, hs, hb⟩ := h2
    cases h' : i.zero with
    | none => rw [h'] at hz; cases hz
    | some z =>
      rw [h'] at hz
      simp only [Option.map_some, Option.some.injEq] at hz
      exact ⟨i, z, h1, h, h', hs, hb, hz⟩
/-- append of one new element to a slice of the call's own. -/
theorem wpList_app1 {α : Type} [Flat α] {P : Program} {ops : Array Oper} {rest : List Oper} {o : Oper} {a : Act} {Q : Exit → Act → World → Prop} (hgd : o.guard = none) (s x : Operand) (t e : TypeId)
    (ho : o.op = .call { callee := .builtin .append, args := #[s, x], argTypes := #[t, t] }) (he : Elem P t e (Flat.sz α)) {w0 w : World} {A : Option Addr} {n c : Nat} {xs : List α} (y : α) (hs : a.eval s = .slice A n c)
    (hown : Own w w0.heap.size e (.slice A n c) xs) (hb : Below w0.heap.size w0 w) (hx : a.eval x = .slice (some ⟨w.heap.size, 0, none⟩) 1 1) (hlim : n ≤ 274877906944)
    (h : ∀ A' c' w', Own w' w0.heap.size e (.slice A' (n + 1) c') (xs ++ [y]) → Below w0.heap.size w0 w' → (w.alloc (.cells (Flat.enc y).toArray e)).grownBy w' (Value.ownBlock (.slice A n c)) → wpList P ops Q rest (a.put o.dst (.slice A' (n + 1) c')) w') :
    wpList P ops Q (o :: rest) a (w.alloc (.cells (Flat.enc y).toArray e)) := by
  obtain ⟨i, z, h1, h2, h3, h4, h5, h6⟩ := he
  have hn := hown.sl.1
  have ho1 : (w.alloc (.cells (Flat.enc y).toArray e)).ownsRow w0.heap.size e (Flat.sz α) (.slice A n c) n (cellsOf xs) := by
    have := World.ownsRow.alloc hown (.cells (Flat.enc y).toArray e)
    rwa [hn] at this
  refine wpList_append_own _ hgd s x t ho w0.heap.size e i z (Flat.sz α) i.bytes h1 h2 h3 h4 rfl h6 Flat.pos _ n (cellsOf xs) hs ho1 ⟨w.heap.size, 0, none⟩ 1 1 (Flat.enc y) hx (by rw [Flat.len, Nat.one_mul]) ?_ (Flat.one y) ?_ ?_ ?_ ?_
  · intro j u hu
    rw [addr_add, Nat.zero_add, World.cell?_alloc_new]
    simpa using hu
  · unfold maxLen; omega
  · have : (n + 1) * i.bytes ≤ (n + 1) * 256 := Nat.mul_le_mul_left _ h5
    omega
  · simp only [World.size_alloc]; have := hb.size; omega
  · intro v' w' hown' hg _
    have hnx : (xs ++ [y]).length = n + 1 := by simp [hn]
    have hO : Own w' w0.heap.size e v' (xs ++ [y]) := by unfold Own; rw [hnx, cellsOf_append, cellsOf_one]; exact hown'
    obtain ⟨A', c', rfl⟩ := hO.slice
    rw [hnx] at hO ⊢
    refine h A' c' w' hO ?_ hg
    exact (hb.alloc hb.size _).grown hg (by simp only [World.size_alloc]; have := hb.size; omega) (fun k hk => (hown.lt k hk).1)
/-- make([]T, n). -/
theorem run_make_rowN {P : Program} (t e : TypeId) (i : TypeInfo) (z : Value) (ht : P.underlying t = some (.slice e)) (hi : P.info? e = some i) (hz : i.zero = some z)
    (kl kc : IntKind) (n c : Nat) (hnc : n ≤ c) (hbytes : i.bytes * c ≤ 281474976710656) (h63 : c ≤ 9223372036854775807) (w : World) :
    (Instr.makeSlice t (.int kl (n : Int)) (.int kc (c : Int))).run P w = .ok (.slice (some ⟨w.heap.size, 0, none⟩) n c) (w.alloc (.cells (madeCells z.cells (c * i.size)) e)) := by
  have hb : (i.bytes : Int) * (c : Int) ≤ 281474976710656 := by
    have h : ((i.bytes * c : Nat) : Int) ≤ 281474976710656 := by omega
    rwa [Int.natCast_mul] at h
  have hr := run_make (P := P) w t e i z ht hi hz kl kc n c (by omega) (by omega) hb (by omega)
  simp only [Int.toNat_natCast] at hr
  exact hr
theorem set_take {α : Type} {xs ys : List α} {k n : Nat} {d : α} (hx : xs.length = n) (hk : k < n) (hy : ys = xs.take k ++ List.replicate (n - k) d) {x : α} (hg : xs[k]? = some x) :
    ys.set k x = xs.take (k + 1) ++ List.replicate (n - (k + 1)) d := by
  subst hy
  have e : n - k = (n - (k + 1)) + 1 := by omega
  rw [e, List.replicate_succ, List.set_append_right _ _ (by rw [List.length_take]; omega), List.length_take, Nat.min_eq_left (by omega), Nat.sub_self, List.set_cons_zero, List.take_add_one, hg]
  simp
/-- The worlds that a call which makes memory may leave. -/
def Gw (w : World) : Type := { w' : World // Below w.heap.size w w' }
instance (w : World) : Nonempty (Gw w) := ⟨⟨w, Below.refl _ _⟩⟩
theorem Gw.cell {w : World} {a : Addr} {v : Value} (h : w.cell? a = some v) (g : Gw w) : g.val.cell? a = some v := cell_later g.property h
/-- A region that draws its order, whose operations read and whose calls may make memory: one walk in the order of the text serves every order. -/
theorem wp_region_grow {P : Program} {id : Nat} {Q : Exit → Act → World → Prop} {a : Act} {w : World} {l : List Oper} (hm : P.follows .mixedOrders = true) (hB : Region.lexB .any l.toArray = true)
    (h : ∀ W, W = w → wpQuiet P l.toArray (fun w' => ∃ g : Gw W, w' = g.val) (fun a' => ∀ w', (∃ g : Gw W, w' = g.val) → Q .normal a' w') l a) : (Code.region id l.toArray true).wp P Q a w :=
  wp_region_quiet (C := fun w' => ∃ g : Gw w, w' = g.val) hm hB ⟨⟨{ w with drawn := w.drawn + 1 }, ⟨rfl, rfl, rfl, Nat.le_refl _, fun _ _ => rfl⟩⟩, rfl⟩ (by simpa using h w rfl)
theorem wpGrow_nil {P : Program} {ops : Array Oper} {W : World} {Q : Exit → Act → World → Prop} {a : Act} (h : ∀ V, Below W.heap.size W V → Q .normal a V) :
    wpQuiet P ops (fun w' => ∃ g : Gw W, w' = g.val) (fun a' => ∀ w', (∃ g : Gw W, w' = g.val) → Q .normal a' w') [] a := by
  rintro _ ⟨g, rfl⟩; exact h g.val g.property
theorem Calls.grow_of {P : Program} {f : FuncId} {args : Array Value} {W : World} {g : Gw W} {v : Value}
    (h : Calls P f args g.val fun e w' => e = .returned v ∧ Below g.val.heap.size g.val w') : Calls P f args g.val fun e w'' => e = .returned v ∧ ∃ g' : Gw W, w'' = g'.val :=
  h.mono fun _ _ ⟨he, hb⟩ => ⟨he, ⟨_, g.property.trans (hb.mono g.property.size)⟩, rfl⟩
theorem Calls.grow_same {P : Program} {f : FuncId} {args : Array Value} {W : World} {g : Gw W} {v : Value}
    (h : Calls P f args g.val fun e w' => e = .returned v ∧ w' = g.val) : Calls P f args g.val fun e w'' => e = .returned v ∧ ∃ g' : Gw W, w'' = g'.val :=
  h.mono fun _ _ ⟨he, hb⟩ => ⟨he, g, hb⟩

theorem bl_refl (w : World) : Below w.heap.size w w := Below.refl _ _
theorem bl_alloc {a w : World} (h : Below a.heap.size a w) (o : Obj) : Below a.heap.size a (w.alloc o) := h.alloc h.size o
theorem bl_drewN {a w : World} (h : Below a.heap.size a w) (n : Nat) : Below a.heap.size a (w.drewN n) := below_drewN h n
theorem bl_drew {a w : World} (h : Below a.heap.size a w) : Below a.heap.size a w.drew := h.drew
theorem bl_set {a w : World} (h : Below a.heap.size a w) {p : Addr} (hp : a.heap.size ≤ p.block) (u : Value) : Below a.heap.size a (w.setCell p u) := h.setCell hp u
theorem bl_trans {a b c : World} (h : Below a.heap.size a b) (k : Below b.heap.size b c) : Below a.heap.size a c := h.trans (k.mono h.size)
theorem bl_grown {a w w' : World} {row : Option Nat} (h : Below a.heap.size a w) (hg : w.grownBy w' row) (hr : ∀ k, row = some k → a.heap.size ≤ k) : Below a.heap.size a w' := h.grown hg h.size hr
end Go.Proofs.YtfglmghcgoembaaGreatDoor

namespace Go.Proofs.YtfglmghcgoembaaGreatDoor
open Go.RowKit

/-- a ≤ n ≤ b, kept closed. -/
def inB (n a b : Int) : Bool := decide (a ≤ n) && decide (n ≤ b)
theorem inB_iff {n a b : Int} : inB n a b = true ↔ a ≤ n ∧ n ≤ b := by simp [inB]

def allB (n : Nat) (p : Nat → Bool) : Bool := (List.range n).all p
theorem allB_true {n : Nat} {p : Nat → Bool} (h : ∀ j, j < n → p j = true) : allB n p = true := by
  simp only [allB, List.all_eq_true, List.mem_range]; exact h
theorem allB_false {n k : Nat} {p : Nat → Bool} (hk : k < n) (h : p k = false) : allB n p = false := by
  simp only [allB, List.all_eq_false, List.mem_range]; exact ⟨k, hk, by simp [h]⟩
theorem allB_iff {n : Nat} {p : Nat → Bool} : allB n p = true ↔ ∀ j, j < n → p j = true := by
  simp only [allB, List.all_eq_true, List.mem_range]
theorem upto_succ {k : Nat} {p : Nat → Prop} (h : ∀ j, j < k → p j) (hk : p k) : ∀ j, j < k + 1 → p j := fun j hj => by
  rcases Nat.lt_or_ge j k with h1 | h1
  · exact h j h1
  · obtain rfl : j = k := by omega
    exact hk
theorem ret_bool {a b : Bool} (h : a = b) : Ending.returned (.bool a) = .returned (.bool b) := by rw [h]
theorem ret_i64 {a b : Int} (h : a = b) : Ending.returned (.int .i64 a) = .returned (.int .i64 b) := by rw [h]

/-- Are two values one? Kept closed. -/
def sameB {α : Type} [DecidableEq α] (x y : α) : Bool := decide (x = y)
theorem sameB_iff {α : Type} [DecidableEq α] {x y : α} : sameB x y = true ↔ x = y := by simp [sameB]
theorem sameB_no {α : Type} [DecidableEq α] {x y : α} : sameB x y = false ↔ x ≠ y := by simp [sameB]
theorem sameB_take {α : Type} [DecidableEq α] [Inhabited α] {xs ys : List α} {k : Nat} (hx : k < xs.length) (hy : k < ys.length) (h : xs.take k = ys.take k) (he : sameB (nth xs k) (nth ys k) = true) :
    xs.take (k + 1) = ys.take (k + 1) := by rw [take_succ hx, take_succ hy, h, sameB_iff.1 he]
theorem sameB_nth {α : Type} [DecidableEq α] [Inhabited α] {xs ys : List α} {k : Nat} (he : sameB (nth xs k) (nth ys k) = false) : sameB xs ys = false := by
  rw [sameB_no] at he ⊢; intro h; exact he (by rw [h])
theorem sameB_len {α : Type} [DecidableEq α] {xs ys : List α} (h : xs.length ≠ ys.length) : sameB xs ys = false := by
  rw [sameB_no]; intro e; exact h (by rw [e])
theorem sameB_all {α : Type} [DecidableEq α] {xs ys : List α} {n : Nat} (hx : xs.length = n) (hy : ys.length = n) (h : xs.take n = ys.take n) : sameB xs ys = true := by
  rw [sameB_iff]; rwa [List.take_of_length_le (by omega), List.take_of_length_le (by omega)] at h
/-- What is left of a size; -1 if there is none. -/
def szF (left n : Int) : Int := if left < n then -1 else left - n
theorem bytes_inj {a b : ByteArray} (h : a.toList = b.toList) : a = b := by
  rw [ByteArray.toList_eq, ByteArray.toList_eq] at h
  cases a; cases b; congr 1; exact Array.toList_inj.1 h
theorem bytes_beq {a b : ByteArray} : (a.toList == b.toList) = sameB a b := by
  cases h : sameB a b
  · rw [beq_eq_false_iff_ne]; intro e; rw [sameB_no] at h; exact h (bytes_inj e)
  · rw [sameB_iff] at h; rw [h]; simp
/-- What a size function of the laws answers: -1, or what is left, and then p holds. -/
def SzPost (w : World) (left : Int) (p : Prop) (e : Ending) (w' : World) : Prop :=
  ∃ r : Int, e = .returned (.int .i64 r) ∧ (r = -1 ∨ (0 ≤ r ∧ r ≤ left ∧ p)) ∧ Below w.heap.size w w'
theorem l1In_any (n a b : Int) (w : World) :
    Calls Tryz.prog 81 #[.int .i64 n, .int .i64 a, .int .i64 b] w fun e w' => e = .returned (.bool (inB n a b)) ∧ w' = w := by
  by_cases h1 : a ≤ n
  all_goals
    go_enter Tryz.func81, Tryz.ntmps81
    go_wp2
    go_ret
    exact ⟨ret_bool (by simp [inB]; omega), rfl⟩
theorem inside_any (n a b : Int) (w : World) :
    Calls Tryz.prog 44 #[.int .i64 n, .int .i64 a, .int .i64 b] w fun e w' => e = .returned (.bool (inB n a b)) ∧ w' = w := by
  by_cases h1 : a ≤ n
  all_goals
    go_enter Tryz.func44, Tryz.ntmps44
    go_wp2
    go_ret
    exact ⟨ret_bool (by simp [inB]; omega), rfl⟩
end Go.Proofs.YtfglmghcgoembaaGreatDoor
