/-
  Several texts in one. No conditions.
-/
import Derived.Test.YtpdblmcflniomaaGreatDoorIv2
import Derived.Test.YtpdblmcflniomaaGreatDoorIv3
namespace Go.Proofs.YtpdblmcflniomaaGreatDoor
open Go.RowKit
/-- As Elem, the zero value too. -/
def ElemZ (P : Program) (t e : TypeId) {α : Type} [Flat α] (d : α) : Prop :=
  ∃ i z, P.underlying t = some (.slice e) ∧ P.info? e = some i ∧ i.zero = some z ∧ i.size = Flat.sz α ∧ i.bytes ≤ 256 ∧ z.cells.toList = Flat.enc d
theorem elemZ_mk {α : Type} [Flat α] {P : Program} {t e : TypeId} {d : α} (h1 : P.underlying t = some (.slice e)) (h2 : (P.info? e).map (fun i => (i.zero.map (fun z => z.cells.toList), i.size, decide (i.bytes ≤ 256))) = some (some (Flat.enc d), Flat.sz α, true)) : ElemZ P t e d := by
  cases h : P.info? e with
  | none => rw [h] at h2; cases h2
  | some i =>
    rw [h] at h2
    simp only [Option.map_some, Option.some.injEq, Prod.mk.injEq, decide_eq_true_eq] at h2
    obtain ⟨hz, hs, hb⟩ := h2
    cases h' : i.zero with
    | none => rw [h'] at hz; cases hz
    | some z =>
      rw [h'] at hz
      simp only [Option.map_some, Option.some.injEq] at hz
      exact ⟨i, z, h1, h, h', hs, hb, hz⟩
theorem ElemZ.elem {α : Type} [Flat α] {P : Program} {t e : TypeId} {d : α} (h : ElemZ P t e d) : Elem P t e (Flat.sz α) := by
  obtain ⟨i, z, h1, h2, h3, h4, h5, h6⟩ := h
  exact ⟨i, z, h1, h2, h3, h4, h5, by rw [← Array.length_toList, h6, Flat.len]⟩
theorem Own.cap {α : Type} [Flat α] {w : World} {base : Nat} {E : TypeId} {A : Option Addr} {n c : Nat} {xs : List α} (h : Own w base E (.slice A n c) xs) : n ≤ c ∧ c ≤ maxLen := by
  have hl := h.sl.1
  rcases h.2 with ⟨hv, h0⟩ | ⟨g, cap, cur, hv, _, _, h1, h2, _⟩
  · injection hv with _ e1 e2; subst e2; unfold maxLen; omega
  · injection hv with _ e1 e2; subst e2; exact ⟨by omega, h2⟩
/-- s[:i] -/
theorem Own.pre {α : Type} [Flat α] {w : World} {base g : Nat} {E : TypeId} {n c : Nat} {xs : List α} (h : Own w base E (.slice (some ⟨g, 0, none⟩) n c) xs) {i : Nat} (hi : i ≤ n) : Own w base E (.slice (some ⟨g, 0, none⟩) i c) (xs.take i) := by
  have hl := h.sl.1
  have hlt : (xs.take i).length = i := by rw [List.length_take]; omega
  unfold Own at h ⊢
  rw [hl] at h
  rw [hlt]
  refine ⟨by rw [cellsOf_length, hlt], ?_⟩
  rcases h.2 with ⟨hv, h0⟩ | ⟨g', cap, cur, hv, hb, hg, hnc, hcm, hcs, ht⟩
  · cases hv
  · injection hv with e1 e2 e3
    injection e1 with e1
    injection e1 with e1
    subst e1; subst e3
    refine .inr ⟨g, c, cur, rfl, hb, hg, by omega, hcm, hcs, ?_⟩
    have e4 : cur.toList.take (i * Flat.sz α) = (cur.toList.take (n * Flat.sz α)).take (i * Flat.sz α) := by
      rw [List.take_take, Nat.min_eq_left (Nat.mul_le_mul_right _ hi)]
    rw [e4, ht]
    conv => lhs; rw [← List.take_append_drop i xs, cellsOf_append]
    rw [List.take_append_of_le_length (by rw [cellsOf_length, hlt]; exact Nat.le_refl _), List.take_of_length_le (by rw [cellsOf_length, hlt]; exact Nat.le_refl _)]
theorem run_zero {P : Program} {e : TypeId} {i : TypeInfo} {z : Value} (hi : P.info? e = some i) (hz : i.zero = some z) (w : World) : (zeroValue e).run P w = .ok z w := by
  simp [zeroValue, typeInfo, hi, hz]
/-- clear(s[i:]) -/
theorem run_clear_own {α : Type} [Flat α] {P : Program} (t e : TypeId) {d : α} (he : ElemZ P t e d) {w : World} {base g n c i : Nat} {xs : List α}
    (hown : Own w base e (.slice (some ⟨g, 0, none⟩) n c) xs) (hi : i < n) :
    ∃ w', (∀ ty, (Builtin.clear_ #[t] ty #[.slice (some ⟨g, i * Flat.sz α, none⟩) (n - i) (c - i)]).run P w = .ok (.tuple #[]) w') ∧ Own w' base e (.slice (some ⟨g, 0, none⟩) i c) (xs.take i) ∧ w.grownBy w' (some g) := by
  obtain ⟨ti, z, h1, h2, h3, h4, h5, h6⟩ := he
  have hp := Flat.pos (α := α)
  have hl := hown.sl.1
  have hlt : (xs.take i).length = i := by rw [List.length_take]; omega
  have ho2 := hown.pre (Nat.le_of_lt hi)
  have hzs : z.cells.size = Flat.sz α := by rw [← Array.length_toList, h6, Flat.len]
  have hzl : (Builtin.zeroCells z.cells (n - i)).toList.length = (n - i) * Flat.sz α := by rw [Array.length_toList, size_zeroCells, hzs]
  have hz1 : ∀ v ∈ (Builtin.zeroCells z.cells (n - i)).toList, v.oneCell' = true := by
    intro v hv
    have hv2 : v ∈ z.cells.toList := by
      simp only [Builtin.zeroCells, Array.mem_toList_iff] at hv
      simp at hv
      obtain ⟨j, hj, rfl⟩ := hv
      have hj2 : j % z.cells.size < z.cells.size := Nat.mod_lt _ (by omega)
      rw [getElem!_pos z.cells _ hj2, Array.mem_toList_iff]
      exact Array.getElem_mem hj2
    rw [h6] at hv2
    exact Flat.one d v hv2
  rcases hown.2 with ⟨hv, h0⟩ | ⟨g', cap, cur, hv, hb, hg, hnc, hcm, hcs, ht⟩
  · cases hv
  · injection hv with e1 e2 e3
    injection e1 with e1
    injection e1 with e1
    subst e1; subst e3
    have hfit : i * Flat.sz α + (n - i) * Flat.sz α ≤ c * Flat.sz α := by rw [← Nat.add_mul]; exact Nat.mul_le_mul_right _ (by omega)
    have hst := run_storeCells_at P g (i * Flat.sz α) e (Builtin.zeroCells z.cells (n - i)).toList 0 cur w hg (by rw [hzl, hcs]; simpa using hfit) hz1
    simp only [Nat.add_zero] at hst
    have hrun : ∀ ty, (Builtin.clear_ #[t] ty #[.slice (some ⟨g, i * Flat.sz α, none⟩) (n - i) (c - i)]).run P w = .ok (.tuple #[]) (w.setRow g (cur.toList.take (i * Flat.sz α) ++ (Builtin.zeroCells z.cells (n - i)).toList ++ cur.toList.drop (i * Flat.sz α + (Builtin.zeroCells z.cells (n - i)).toList.length)).toArray) := by
      intro ty
      obtain ⟨m, hm⟩ : ∃ m, n - i = m + 1 := ⟨n - i - 1, by omega⟩
      rw [hm] at hst ⊢
      simp [Builtin.clear_, run_underlying h1, run_zero h2 h3, hst]
    refine ⟨_, hrun, ?_, ⟨rfl, rfl, rfl, by simp, fun k _ hk => setRow_other w g k _ (fun e => hk (by rw [e]))⟩⟩
    have hcl : (cur.toList.take (i * Flat.sz α)).length = i * Flat.sz α := by
      rw [List.length_take, Array.length_toList, hcs, Nat.min_eq_left]; omega
    refine ⟨by rw [cellsOf_length], .inr ⟨g, c, _, by rw [hlt], hb, setRow_heap w g cur _ e _ hg, by rw [hlt]; omega, hcm, ?_, ?_⟩⟩
    · simp only [List.size_toArray, List.length_append, List.length_drop, Array.length_toList, hzl, hcl, hcs]
      omega
    · rw [hlt]
      simp only [List.append_assoc]
      rw [List.take_append_of_le_length (by rw [hcl]; exact Nat.le_refl _), List.take_of_length_le (by rw [hcl]; exact Nat.le_refl _)]
      rcases ho2.2 with ⟨hv, _⟩ | ⟨g2, cap2, cur2, hv2, _, hg2, _, _, _, ht2⟩
      · cases hv
      · injection hv2 with e1 _ _
        injection e1 with e1
        injection e1 with e1
        subst e1
        rw [hg] at hg2
        injection hg2 with hg2
        injection hg2 with hg2
        subst hg2
        rw [hlt] at ht2
        exact ht2
end Go.Proofs.YtpdblmcflniomaaGreatDoor

namespace Go.Proofs.YtpdblmcflniomaaGreatDoor
open Go.RowKit

structure Incident where
  Number : Int
  Node : Int
  Closed : Bool
  Names : List ByteArray
  deriving DecidableEq
instance : Inhabited Incident := ⟨⟨0, 0, false, []⟩⟩
/-- A call hands back a Incident whose slice is its own. -/
def RetIncident (w : World) (E : TypeId) (x : Incident) (e : Ending) (w' : World) : Prop :=
  ∃ A c, e = .returned (.agg #[.int .i64 (x.Number), .int .i64 (x.Node), .bool (x.Closed), .slice A x.Names.length c]) ∧ Own w' w.heap.size E (.slice A x.Names.length c) x.Names ∧ Below w.heap.size w w'
theorem retIncident_mk {w w' : World} {E : TypeId} {x : Incident} {number : Int} {node : Int} {closed : Bool} {A : Option Addr} {n c : Nat} {xs : List ByteArray} (hx : x = ⟨number, node, closed, xs⟩) (hn : xs.length = n) (ho : Own w' w.heap.size E (.slice A n c) xs) (hb : Below w.heap.size w w') :
    RetIncident w E x (.returned (.agg #[.int .i64 (number), .int .i64 (node), .bool (closed), .slice A n c])) w' := by subst hx; subst hn; exact ⟨A, c, rfl, ho, hb⟩
/-- .. and a bool. -/
def RetIncident2 (w : World) (E : TypeId) (r : Incident × Bool) (e : Ending) (w' : World) : Prop :=
  ∃ A c, e = .returned (.tuple #[.agg #[.int .i64 (r.1.Number), .int .i64 (r.1.Node), .bool (r.1.Closed), .slice A r.1.Names.length c], .bool r.2]) ∧ Own w' w.heap.size E (.slice A r.1.Names.length c) r.1.Names ∧ Below w.heap.size w w'
theorem retIncident2_mk {w w' : World} {E : TypeId} {r : Incident × Bool} {b : Bool} {number : Int} {node : Int} {closed : Bool} {A : Option Addr} {n c : Nat} {xs : List ByteArray} (hx : r = (⟨number, node, closed, xs⟩, b)) (hn : xs.length = n) (ho : Own w' w.heap.size E (.slice A n c) xs) (hb : Below w.heap.size w w') :
    RetIncident2 w E r (.returned (.tuple #[.agg #[.int .i64 (number), .int .i64 (node), .bool (closed), .slice A n c], .bool b])) w' := by subst hx; subst hn; exact ⟨A, c, rfl, ho, hb⟩
end Go.Proofs.YtpdblmcflniomaaGreatDoor

namespace Go.Proofs.YtpdblmcflniomaaGreatDoor
open Go.RowKit

/-- X: a struct that holds one slice of α, as plain data; R: its cells, with the slice's header. -/
structure Nest (R α X : Type) [Flat R] [Flat α] [Deep X] where
  hdr : R → Value
  of : R → List α → X
  szs : Deep.sz X = Flat.sz R
  rep : ∀ {w : World} {base : Nat} {E : TypeId} {r : R} {l : List α}, Own w base E (hdr r) l → Deep.rep w (Flat.enc r) (of r l)
theorem Own.ty {α : Type} [Flat α] {w : World} {base k : Nat} {E : TypeId} {v : Value} {xs : List α} (h : Own w base E v xs) (hk : v.ownBlock = some k) : ∃ cur, w.heap[k]? = some (.cells cur E (0, 0)) := by
  rcases h.2 with ⟨rfl, _⟩ | ⟨g, cap, cur, rfl, _, hg, _⟩
  · cases hk
  · injection hk with hk; subst hk; exact ⟨cur, hg⟩
section
variable {R α X : Type} [Flat R] [Flat α] [Deep X] (N : Nest R α X)
def Nest.plain (ps : List (R × List α)) : List X := ps.map fun p => N.of p.1 p.2
/-- the blocks that are taken -/
def Nest.foot (v : Value) (ps : List (R × List α)) : List Nat := v.ownBlock.toList ++ ps.flatMap fun p => (N.hdr p.1).ownBlock.toList
theorem Nest.mem_foot {v : Value} {ps : List (R × List α)} {k : Nat} : k ∈ N.foot v ps ↔ v.ownBlock = some k ∨ ∃ (i : Nat) (p : R × List α), ps[i]? = some p ∧ (N.hdr p.1).ownBlock = some k := by
  unfold Nest.foot
  rw [List.mem_append, List.mem_flatMap]
  constructor
  · rintro (h | ⟨p, hp, hk⟩)
    · exact .inl (by simpa using h)
    · obtain ⟨i, hi⟩ := List.getElem?_of_mem hp
      exact .inr ⟨i, p, hi, by simpa using hk⟩
  · rintro (h | ⟨i, p, hi, hk⟩)
    · exact .inl (by simpa using h)
    · exact .inr ⟨p, List.mem_of_getElem? hi, by simpa using hk⟩
/-- The slice v of structs is the call's own, and each struct's slice is, too; no two share a block. -/
structure OwnP (w : World) (base : Nat) (E E' : TypeId) (v : Value) (ps : List (R × List α)) : Prop where
  out : Own w base E v (ps.map Prod.fst)
  inn : ∀ (i : Nat) p, ps[i]? = some p → Own w base E' (N.hdr p.1) p.2
  apart : ∀ (i j : Nat) p q, i ≠ j → ps[i]? = some p → ps[j]? = some q → ∀ x, (N.hdr p.1).ownBlock = some x → (N.hdr q.1).ownBlock ≠ some x
  ne : E ≠ E'
variable {N} {w w' : World} {base : Nat} {E E' : TypeId} {v : Value} {ps : List (R × List α)}
theorem OwnP.sep (h : OwnP N w base E E' v ps) {k i : Nat} {p : R × List α} (hv : v.ownBlock = some k) (hp : ps[i]? = some p) : (N.hdr p.1).ownBlock ≠ some k := fun e => by
  obtain ⟨c1, e1⟩ := h.out.ty hv
  obtain ⟨c2, e2⟩ := (h.inn i p hp).ty e
  rw [e1] at e2
  injection e2 with e2
  injection e2 with _ e3
  exact h.ne e3
theorem OwnP.below (h : OwnP N w base E E' v ps) (hb : Below w.heap.size w w') : OwnP N w' base E E' v ps :=
  ⟨h.out.below hb, fun i p hp => (h.inn i p hp).below hb, h.apart, h.ne⟩
theorem OwnP.mono (h : OwnP N w base E E' v ps) {b : Nat} (hb : b ≤ base) : OwnP N w b E E' v ps := ⟨h.out.mono hb, fun i p hp => (h.inn i p hp).mono hb, h.apart, h.ne⟩
theorem OwnP.lies (h : OwnP N w base E E' v ps) : Lies (N.foot v ps) base w.heap.size := fun k hk => by
  rcases N.mem_foot.1 hk with hk | ⟨i, p, hi, hk⟩
  · exact h.out.lt k hk
  · exact (h.inn i p hi).lt k hk
theorem OwnP.only {F : List Nat} (h : OwnP N w base E E' v ps) (hf : OnlyF F w w') (ha : ∀ k, k ∈ N.foot v ps → k ∉ F) : OwnP N w' base E E' v ps :=
  ⟨h.out.only hf (fun k hk => ha k (N.mem_foot.2 (.inl (by simpa using hk)))), fun i p hp => (h.inn i p hp).only hf (fun k hk => ha k (N.mem_foot.2 (.inr ⟨i, p, hp, by simpa using hk⟩))), h.apart, h.ne⟩
theorem OwnP.len {A : Option Addr} {n c : Nat} (h : OwnP N w base E E' (.slice A n c) ps) : ps.length = n := by have := h.out.sl.1; simpa using this
theorem OwnP.sl {A : Option Addr} {n c : Nat} (h : OwnP N w base E E' (.slice A n c) ps) : Sl w A n (N.plain ps) := by
  have hs := h.out.sl
  refine ⟨by unfold Nest.plain; rw [List.length_map]; exact h.len, fun k x hx => ?_⟩
  unfold Nest.plain at hx
  rw [List.getElem?_map] at hx
  cases hp : ps[k]? with
  | none => rw [hp] at hx; cases hx
  | some p =>
    rw [hp] at hx
    injection hx with hx
    subst hx
    obtain ⟨b, o, cs, hA, hr, hc⟩ := hs.2 k p.1 (by rw [List.getElem?_map, hp]; rfl)
    have hr' : cs = Flat.enc p.1 := hr
    subst hr'
    exact ⟨b, o, _, hA, N.rep (h.inn k p hp), fun j u hu => by rw [N.szs]; exact hc j u hu⟩
/-- One struct exchanged, its slice perhaps another one. -/
theorem OwnP.upd {g n c k : Nat} {p p' : R × List α} (h : OwnP N w base E E' (.slice (some ⟨g, 0, none⟩) n c) ps) (hk : ps[k]? = some p) (ho : Own w' base E (.slice (some ⟨g, 0, none⟩) n c) ((ps.map Prod.fst).set k p'.1))
    (hi : Own w' base E' (N.hdr p'.1) p'.2) (hb : ∀ x, (N.hdr p'.1).ownBlock = some x → (N.hdr p.1).ownBlock = some x ∨ ∀ (j : Nat) q, ps[j]? = some q → (N.hdr q.1).ownBlock ≠ some x) (hf : OnlyF (g :: (N.hdr p.1).ownBlock.toList) w w') :
    OwnP N w' base E E' (.slice (some ⟨g, 0, none⟩) n c) (ps.set k p') := by
  have hkl : k < ps.length := (List.getElem?_eq_some_iff.1 hk).1
  have hother : ∀ (i : Nat) q, i ≠ k → (ps.set k p')[i]? = some q → ps[i]? = some q := fun i q hne hq => by rwa [List.getElem?_set_ne (Ne.symm hne)] at hq
  have hself : ∀ q, (ps.set k p')[k]? = some q → q = p' := fun q hq => by rw [List.getElem?_set_self hkl] at hq; injection hq with hq; exact hq.symm
  refine ⟨by rw [List.map_set]; exact ho, fun i q hq => ?_, fun i j q r hij hq hr x hx hx' => ?_, h.ne⟩
  · by_cases e : i = k
    · subst e; rw [hself q hq]; exact hi
    · have hq' := hother i q e hq
      refine (h.inn i q hq').only hf (fun y hy hm => ?_)
      have hy' : (N.hdr q.1).ownBlock = some y := by simpa using hy
      rcases List.mem_cons.1 hm with rfl | hm
      · exact h.sep (k := y) rfl hq' hy'
      · exact h.apart i k q p e hq' hk y hy' (by simpa using hm)
  · by_cases e : i = k
    · subst e
      rw [hself q hq] at hx
      have hr' := hother j r (Ne.symm hij) hr
      rcases hb x hx with hx2 | hx2
      · exact h.apart i j p r hij hk hr' x hx2 hx'
      · exact hx2 j r hr' hx'
    · have hq' := hother i q e hq
      by_cases e2 : j = k
      · subst e2
        rw [hself r hr] at hx'
        rcases hb x hx' with hx2 | hx2
        · exact h.apart i j q p hij hq' hk x hx hx2
        · exact hx2 i q hq' hx
      · exact h.apart i j q r hij hq' (hother j r e2 hr) x hx hx'
theorem OwnP.fresh (h : Own w base E v (ps.map Prod.fst)) (hi : ∀ (i : Nat) p, ps[i]? = some p → N.hdr p.1 = .slice none 0 0 ∧ p.2 = []) (hne : E ≠ E') : OwnP N w base E E' v ps :=
  ⟨h, fun i p hp => (by obtain ⟨e1, e2⟩ := hi i p hp; rw [e1, e2]; exact Own.nil _ _ _), fun i j p q _ hp _ x hx => (by rw [(hi i p hp).1] at hx; exact absurd hx (by simp [Value.ownBlock])), hne⟩
/-- As plain data, with the blocks that it takes. -/
def OwnX (N : Nest R α X) (w : World) (base : Nat) (E E' : TypeId) (v : Value) (xs : List X) (F : List Nat) : Prop := ∃ ps, N.plain ps = xs ∧ N.foot v ps = F ∧ OwnP N w base E E' v ps
variable {xs : List X} {F : List Nat}
theorem OwnP.x (h : OwnP N w base E E' v ps) : OwnX N w base E E' v (N.plain ps) (N.foot v ps) := ⟨ps, rfl, rfl, h⟩
theorem OwnX.below (h : OwnX N w base E E' v xs F) (hb : Below w.heap.size w w') : OwnX N w' base E E' v xs F := by obtain ⟨ps, h1, h2, h3⟩ := h; exact ⟨ps, h1, h2, h3.below hb⟩
theorem OwnX.mono (h : OwnX N w base E E' v xs F) {b : Nat} (hb : b ≤ base) : OwnX N w b E E' v xs F := by obtain ⟨ps, h1, h2, h3⟩ := h; exact ⟨ps, h1, h2, h3.mono hb⟩
theorem OwnX.lies (h : OwnX N w base E E' v xs F) : Lies F base w.heap.size := by obtain ⟨ps, h1, h2, h3⟩ := h; rw [← h2]; exact h3.lies
theorem OwnX.only {G : List Nat} (h : OwnX N w base E E' v xs F) (hf : OnlyF G w w') (ha : ∀ k, k ∈ F → k ∉ G) : OwnX N w' base E E' v xs F := by obtain ⟨ps, h1, h2, h3⟩ := h; exact ⟨ps, h1, h2, h3.only hf (by rw [h2]; exact ha)⟩
theorem OwnX.sl {A : Option Addr} {n c : Nat} (h : OwnX N w base E E' (.slice A n c) xs F) : Sl w A n xs := by obtain ⟨ps, h1, h2, h3⟩ := h; rw [← h1]; exact h3.sl
theorem OwnX.cap {A : Option Addr} {n c : Nat} (h : OwnX N w base E E' (.slice A n c) xs F) : n ≤ c := by obtain ⟨ps, h1, h2, h3⟩ := h; exact h3.out.cap.1
/-- A call hands back such a slice. -/
def RetOwnX (N : Nest R α X) (w : World) (E E' : TypeId) (xs : List X) (e : Ending) (w' : World) : Prop :=
  ∃ A c F, e = .returned (.slice A xs.length c) ∧ OwnX N w' w.heap.size E E' (.slice A xs.length c) xs F ∧ Below w.heap.size w w'
theorem retOwnX_mk {A : Option Addr} {n c : Nat} (hp : N.plain ps = xs) (ho : OwnP N w' w.heap.size E E' (.slice A n c) ps) (hb : Below w.heap.size w w') : RetOwnX N w E E' xs (.returned (.slice A n c)) w' := by
  subst hp
  have hl : (N.plain ps).length = n := ho.sl.1
  subst hl
  exact ⟨A, c, _, rfl, ho.x, hb⟩
end

end Go.Proofs.YtpdblmcflniomaaGreatDoor
