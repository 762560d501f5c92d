/-
  Rows of a list of loads. No conditions.
-/
import Derived.Test.YtokcgjjnljflaaaMvH
import Derived.Test.YtokcgjjnljflaaaMem8
import Derived.Test.YtokcgjjnljflaaaMvQ
namespace Go.Proofs.Ytokcgjjnljflaaa
open Go.RowKit

theorem wpList_runW {P : Program} {ops : Array Oper} {rest : List Oper} {o : Oper} {a : Act} {Q : Exit → Act → World → Prop} {w w' : World} {v' vs vx : Value} (hw : Region.wanted o (yielded ops a.tmps) = true) (s x : Operand) (t : TypeId)
    (ho : o.op = .call { callee := .builtin .append, args := #[s, x], argTypes := #[t, t] }) (hs : a.eval s = vs) (hx : a.eval x = vx) (hr : (Builtin.append_ #[t, t] o.type #[vs, vx]).run P w = .ok v' w') (h : wpList P ops Q rest (a.put o.dst v') w') : wpList P ops Q (o :: rest) a w := by
  unfold wpList
  rw [if_pos hw]
  unfold Oper.wp execOp
  simp only [ho, resolve, invoke, builtin, Sem.run_bind, Sem.run_pure, Result.andThen_ok, List.map_toArray, List.map_cons, List.map_nil, hs, hx]
  rw [hr]
  exact .inl h
/-- the rows of a list of loads: names and headers -/
def RowsOf (w : World) (rs : List LoadR) (xs : List Load) : Prop := rs.length = xs.length ∧ ∀ k, k < xs.length → (nth rs k).Appliance = (nth xs k).Appliance ∧ (nth rs k).n = (nth xs k).Things.length ∧ Sl w (nth rs k).A (nth xs k).Things.length (nth xs k).Things ∧ (nth xs k).Things.length ≤ maxLen
theorem Sl.rows {w : World} {A : Option Addr} {n : Nat} {xs : List Load} (h : Sl w A n xs) : ∃ rs : List LoadR, Sl w A n rs ∧ RowsOf w rs xs := by
  have H : ∀ k : Nat, ∃ r : LoadR, k < n → (r.Appliance = (nth xs k).Appliance ∧ r.n = (nth xs k).Things.length ∧ Sl w r.A (nth xs k).Things.length (nth xs k).Things ∧ (nth xs k).Things.length ≤ maxLen) ∧ ∃ b o, A = some ⟨b, o, none⟩ ∧ w.cell? ⟨b, o + k * 2, none⟩ = some (.string r.Appliance) ∧ w.cell? ⟨b, o + k * 2 + 1, none⟩ = some (.slice r.A r.n r.c) := fun k => by
    by_cases hk : k < n
    · obtain ⟨b, o, A', c', hA, _, h0, h1, h2, h3⟩ := h.load hk
      exact ⟨⟨(nth xs k).Appliance, A', (nth xs k).Things.length, c'⟩, fun _ => ⟨⟨rfl, rfl, h2, h3⟩, b, o, hA, h0, h1⟩⟩
    · exact ⟨default, fun h => absurd h hk⟩
  obtain ⟨r, hr⟩ := Classical.axiomOfChoice H
  have hl := h.1
  have hn : ∀ k, k < n → nth ((List.range n).map r) k = r k := fun k hk => nth_get (by rw [List.getElem?_map, List.getElem?_range hk]; rfl)
  refine ⟨(List.range n).map r, ⟨by simp, fun k x hx => ?_⟩, by simp [hl], fun k hk => ?_⟩
  · have hk : k < n := by have := (List.getElem?_eq_some_iff.1 hx).1; simpa using this
    rw [List.getElem?_map, List.getElem?_range hk] at hx
    injection hx with hx
    subst hx
    obtain ⟨_, b, o, hA, h0, h1⟩ := hr k hk
    refine ⟨b, o, _, hA, rfl, fun j v hv => ?_⟩
    match j, hv with
    | 0, hv => injection hv with hv; subst hv; exact h0
    | 1, hv => injection hv with hv; subst hv; exact h1
    | j + 2, hv => simp [Flat.enc] at hv
  · rw [hn k (by omega)]
    exact (hr k (by omega)).1
theorem Sl.of_rows {w : World} {A : Option Addr} {n : Nat} {rs : List LoadR} {xs : List Load} (h : Sl w A n rs) (hr : RowsOf w rs xs) : Sl w A n xs := by
  refine ⟨by rw [← hr.1]; exact h.1, fun k x hx => ?_⟩
  have hk := (List.getElem?_eq_some_iff.1 hx).1
  have e : nth xs k = x := nth_get hx
  obtain ⟨h1, h2, h3, h4⟩ := hr.2 k hk
  rw [e] at h1 h2 h3 h4
  obtain ⟨b, o, cs, hA, hcs, hc⟩ := h.2 k _ (get_nth (by rw [hr.1]; exact hk))
  have hcs : cs = Flat.enc (nth rs k) := hcs
  subst hcs
  refine ⟨b, o, _, hA, ⟨(nth rs k).A, (nth rs k).c, ?_, h3, h4⟩, hc⟩
  show [Value.string (nth rs k).Appliance, .slice (nth rs k).A (nth rs k).n (nth rs k).c] = _
  rw [h1, h2]
theorem RowsOf.below {w V : World} {rs : List LoadR} {xs : List Load} (h : RowsOf w rs xs) (hb : Below w.heap.size w V) : RowsOf V rs xs := ⟨h.1, fun k hk => ⟨(h.2 k hk).1, (h.2 k hk).2.1, (h.2 k hk).2.2.1.below hb, (h.2 k hk).2.2.2⟩⟩
theorem nth_cons0 {α : Type} [Inhabited α] (x : α) (xs : List α) : nth (x :: xs) 0 = x := rfl
theorem nth_consS {α : Type} [Inhabited α] (x : α) (xs : List α) (k : Nat) : nth (x :: xs) (k + 1) = nth xs k := by unfold nth; simp
theorem RowsOf.cons {w : World} {rs : List LoadR} {xs : List Load} (h : RowsOf w rs xs) {r : LoadR} {x : Load} (h1 : r.Appliance = x.Appliance) (h2 : r.n = x.Things.length) (h3 : Sl w r.A x.Things.length x.Things) (h4 : x.Things.length ≤ maxLen) : RowsOf w (r :: rs) (x :: xs) :=
  ⟨by simp [h.1], fun k hk => by
    cases k with
    | zero => exact ⟨h1, h2, h3, h4⟩
    | succ k => rw [nth_consS, nth_consS]; exact h.2 k (by simpa using hk)⟩
theorem Own.lit1 {α : Type} [Flat α] (w : World) (E : TypeId) (y : α) : Own (w.alloc (.cells (Flat.enc y).toArray E)) w.heap.size E (.slice (some ⟨w.heap.size, 0, none⟩) 1 1) [y] := by
  have h := World.ownsRow_lit (base := w.heap.size) (e := E) (size := Flat.sz α) w (Flat.enc y).toArray 1 (Nat.le_refl _) (by unfold maxLen; omega) (by simp [Flat.len])
  unfold Own
  rw [cellsOf_one]
  simpa using h
theorem lessI_min (a b : Int) : lessI a b = min a b := by unfold lessI; rw [Int.min_def]; split <;> split <;> omega

end Go.Proofs.Ytokcgjjnljflaaa
