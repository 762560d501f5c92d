/-
  Several texts in one. No conditions.
-/
import Derived.Test.YtfglmghcgoembaaGreatDoorHx13
import Derived.Test.YtfglmghcgoembaaGreatDoorHx11
import Derived.Laws.CopyRow
import Derived.Lib.AppendZerosOnto
import Derived.Lib.Overlaps
import Derived.Laws.Externs
namespace Go.Proofs.YtfglmghcgoembaaGreatDoor
open Go.RowKit

/-- copy, its run known, as an operation -/
theorem wp_copy_run {P : Program} (w : World) {o : Oper} {a : Act} {K : Act → World → Prop} {Q : Exit → Act → World → Prop} (d s : Operand) (t t' : TypeId)
    (ho : o.op = .call { callee := .builtin .copy, args := #[d, s], argTypes := #[t, t'] }) (v u : Value) (hd : a.eval d = v) (hs : a.eval s = u) {v' : Value} {w' : World}
    (hr : (Builtin.copy_ #[t, t'] o.type #[v, u]).run P w = .ok v' w') (h : K (a.put o.dst v') w') : o.wp P a w K Q := by
  unfold Oper.wp execOp
  simp only [ho, resolve, invoke, builtin, Sem.run_bind, Sem.run_pure, Result.andThen_ok, List.map_toArray, List.map_cons, List.map_nil, hd, hs, hr]
  exact h
theorem wpList_copy_run {P : Program} (w : World) {ops : Array Oper} {rest : List Oper} {o : Oper} {a : Act} {Q : Exit → Act → World → Prop} (hgd : o.guard = none) (d s : Operand) (t t' : TypeId)
    (ho : o.op = .call { callee := .builtin .copy, args := #[d, s], argTypes := #[t, t'] }) (v u : Value) (hd : a.eval d = v) (hs : a.eval s = u) {v' : Value} {w' : World}
    (hr : (Builtin.copy_ #[t, t'] o.type #[v, u]).run P w = .ok v' w') (h : wpList P ops Q rest (a.put o.dst v') w') : wpList P ops Q (o :: rest) a w :=
  wpList_plain hgd fun _ hK => wp_copy_run w d s t t' ho v u hd hs hr (hK _ _ h)
theorem step_copy_run {P : Program} {ops : Array Oper} {o : Oper} {a : Act} {w : World} {K : Act → World → Prop} {Q : Exit → Act → World → Prop} {E : Prop}
    (hg : o.guard = none) (d x : Operand) (dT sT : TypeId) (hop : o.op = Op.call { callee := Callee.builtin Builtin.copy, args := #[d, x], argTypes := #[dT, sT] })
    (v u : Value) (hd : a.eval d = v) (hx : a.eval x = u) {v' : Value} {w' : World} (hr : (Builtin.copy_ #[dT, sT] o.type #[v, u]).run P w = .ok v' w') (hK : K (a.put o.dst v') w') :
    if Region.wanted o (yielded ops a.tmps) = true then Oper.wp P o a w K Q else E := by
  have hw : Region.wanted o (yielded ops a.tmps) = true := by simp [Region.wanted, hg]
  rw [if_pos hw]
  exact wp_copy_run w d x dT sT hop v u hd hx hr hK

theorem run_copy_row {P : Program} (w : World) (dT sT ty elem t : TypeId) (k g o dLen dCap : Nat) (a : Addr) (sLen sCap : Nat) (cs : List Value) (cur : Array Value)
    (hu : P.underlying dT = some (.slice elem)) (hs : (P.info? elem).map (·.size) = some k) (hn : cs.length = Nat.min sLen dLen * k)
    (hsrc : ∀ j v, cs[j]? = some v → w.cell? (a.add j) = some v) (hg : w.heap[g]? = some (.cells cur t (0, 0))) (hfit : o + cs.length ≤ cur.size) (h1 : ∀ v ∈ cs, v.oneCell' = true) :
    (Builtin.copy_ #[dT, sT] ty #[.slice (some ⟨g, o, none⟩) dLen dCap, .slice (some a) sLen sCap]).run P w = .ok (goInt (Nat.min sLen dLen)) (w.setRow g (cur.toList.take o ++ cs ++ cur.toList.drop (o + cs.length)).toArray) := by
  have hl := run_loadCells_list (P := P) w a cs hsrc
  have hst := run_storeCells_at P g o t cs 0 cur w hg (by simpa using hfit) h1
  simp only [Nat.add_zero] at hst
  cases hq : P.info? elem with
  | none => simp [hq] at hs
  | some i =>
    have hi : i.size = k := by simpa [hq] using hs
    rw [hn] at hl
    have hn' : Nat.min sLen dLen * k = min sLen dLen * k := rfl
    first
      | (simp [Builtin.copy_, run_underlying hu, Builtin.lenOf, Builtin.firstCells, sizeOf, typeInfo, hq, hi, hl, hst]; done)
      | (rw [hn', Nat.mul_comm] at hl; simp [Builtin.copy_, run_underlying hu, Builtin.lenOf, Builtin.firstCells, sizeOf, typeInfo, hq, hi, hl, hst]; done)

/-- one more element at place i -/
def insAt {α : Type} (xs : List α) (i : Nat) (y : α) : List α := xs.take i ++ y :: xs.drop i
theorem insAt_length {α : Type} {xs : List α} {i : Nat} (y : α) (h : i ≤ xs.length) : (insAt xs i y).length = xs.length + 1 := by simp [insAt]; omega
theorem insAt_end {α : Type} (xs : List α) (y : α) : insAt xs xs.length y = xs ++ [y] := by simp [insAt]
section
variable {α : Type} [Flat α]
/-- the row of a slice of the call's own -/
theorem Own.row {w : World} {base g n cap : Nat} {E : TypeId} {xs : List α} (h : Own w base E (.slice (some ⟨g, 0, none⟩) n cap) xs) :
    ∃ cur : Array Value, w.heap[g]? = some (.cells cur E (0, 0)) ∧ xs.length = n ∧ base ≤ g ∧ n ≤ cap ∧ cap ≤ maxLen ∧ cur.size = cap * Flat.sz α ∧ cur.toList.take (n * Flat.sz α) = cellsOf xs := by
  have hn := h.sl.1
  rcases h.2 with ⟨hv, _⟩ | ⟨g', cap', cur, hv, hb, hg, h1, h2, h3, h4⟩
  · cases hv
  · injection hv with e1 e2 e3
    injection e1 with e1
    injection e1 with e1
    subst e1; subst e3
    rw [hn] at h1 h4
    exact ⟨cur, hg, hn, hb, h1, h2, h3, h4⟩
theorem Own.of_row {w : World} {base g n cap : Nat} {E : TypeId} {xs : List α} {cur : Array Value} (hg : w.heap[g]? = some (.cells cur E (0, 0))) (hn : xs.length = n) (hb : base ≤ g) (h1 : n ≤ cap) (h2 : cap ≤ maxLen)
    (h3 : cur.size = cap * Flat.sz α) (h4 : cur.toList.take (n * Flat.sz α) = cellsOf xs) : Own w base E (.slice (some ⟨g, 0, none⟩) n cap) xs := by
  subst hn
  exact ⟨cellsOf_length xs, .inr ⟨g, cap, cur, rfl, hb, hg, h1, h2, h3, h4⟩⟩
/-- first what stands from i on is copied one place up, then y is laid at i -/
def upRow (cur : List Value) (xs : List α) (i : Nat) : List Value := cur.take ((i + 1) * Flat.sz α) ++ cellsOf (xs.drop i) ++ cur.drop ((i + 1) * Flat.sz α + (cellsOf (xs.drop i)).length)
def layRow (cur : List Value) (i : Nat) (y : α) : List Value := cur.take (i * Flat.sz α) ++ Flat.enc y ++ cur.drop (i * Flat.sz α + (Flat.enc y).length)
theorem drop_cells_length {xs : List α} {i n : Nat} (hn : xs.length = n) : (cellsOf (xs.drop i)).length = (n - i) * Flat.sz α := by rw [cellsOf_length, List.length_drop, hn]
theorem upRow_length {cur : List Value} {xs : List α} {i n c : Nat} (hn : xs.length = n) (hi : i ≤ n) (hc : n + 1 ≤ c) (h : cur.length = c * Flat.sz α) : (upRow cur xs i).length = c * Flat.sz α := by
  have e : (i + 1) * Flat.sz α + (n - i) * Flat.sz α = (n + 1) * Flat.sz α := by rw [← Nat.add_mul]; congr 1; omega
  have h2 : (n + 1) * Flat.sz α ≤ c * Flat.sz α := Nat.mul_le_mul_right _ hc
  simp only [upRow, List.length_append, List.length_take, List.length_drop, drop_cells_length hn, h]
  omega
theorem layRow_length {cur : List Value} {y : α} {i c : Nat} (hi : i + 1 ≤ c) (h : cur.length = c * Flat.sz α) : (layRow cur i y).length = c * Flat.sz α := by
  have h2 : (i + 1) * Flat.sz α ≤ c * Flat.sz α := Nat.mul_le_mul_right _ hi
  rw [Nat.add_mul] at h2
  simp only [layRow, List.length_append, List.length_take, List.length_drop, Flat.len, h]
  omega
/-- up, then lay -/
theorem shift_row {cur : List Value} {xs : List α} {i n c : Nat} (y : α) (hn : xs.length = n) (hi : i ≤ n) (hc : n + 1 ≤ c) (h : cur.length = c * Flat.sz α) (ht : cur.take (n * Flat.sz α) = cellsOf xs) :
    (layRow (upRow cur xs i) i y).take ((n + 1) * Flat.sz α) = cellsOf (insAt xs i y) := by
  have hk := Flat.len y
  have e1 : (i + 1) * Flat.sz α = i * Flat.sz α + Flat.sz α := by rw [Nat.add_mul]; omega
  have h2 : (n + 1) * Flat.sz α ≤ c * Flat.sz α := Nat.mul_le_mul_right _ hc
  have h3 : i * Flat.sz α ≤ n * Flat.sz α := Nat.mul_le_mul_right _ hi
  have e2 : (n + 1) * Flat.sz α = n * Flat.sz α + Flat.sz α := by rw [Nat.add_mul]; omega
  have e3 : (n - i) * Flat.sz α = n * Flat.sz α - i * Flat.sz α := Nat.sub_mul _ _ _
  have t1 : cur.take (i * Flat.sz α) = cellsOf (xs.take i) := by
    have : cur.take (i * Flat.sz α) = (cur.take (n * Flat.sz α)).take (i * Flat.sz α) := by rw [List.take_take, Nat.min_eq_left h3]
    rw [this, ht]
    conv => lhs; rw [← List.take_append_drop i xs, cellsOf_append]
    rw [List.take_append_of_le_length (by rw [cellsOf_length, List.length_take]; simp [Nat.min_eq_left (by omega : i ≤ xs.length)]), List.take_of_length_le (by rw [cellsOf_length, List.length_take, Nat.min_eq_left (by omega : i ≤ xs.length)]; exact Nat.le_refl _)]
  have l1 : (cur.take ((i + 1) * Flat.sz α)).length = (i + 1) * Flat.sz α := by rw [List.length_take, h]; omega
  have l2 : (cur.take (i * Flat.sz α)).length = i * Flat.sz α := by rw [List.length_take, h]; omega
  have u1 : (upRow cur xs i).take (i * Flat.sz α) = cellsOf (xs.take i) := by
    unfold upRow
    rw [List.append_assoc, List.take_append_of_le_length (by rw [l1]; omega), List.take_take, Nat.min_eq_left (by omega), t1]
  have u2 : (upRow cur xs i).drop (i * Flat.sz α + (Flat.enc y).length) = cellsOf (xs.drop i) ++ cur.drop ((i + 1) * Flat.sz α + (cellsOf (xs.drop i)).length) := by
    unfold upRow
    rw [List.append_assoc, hk, ← e1, List.drop_append_of_le_length (by rw [l1]; exact Nat.le_refl _), List.drop_of_length_le (by rw [l1]; exact Nat.le_refl _), List.nil_append]
  unfold layRow
  rw [u1, u2]
  have l3 : (cellsOf (xs.take i)).length = i * Flat.sz α := by rw [← t1, l2]
  have l4 := drop_cells_length (i := i) hn
  rw [List.append_assoc, ← List.append_assoc (Flat.enc y), ← List.append_assoc, List.take_append_of_le_length (by simp only [List.length_append, l3, l4, hk]; omega), List.take_of_length_le (by simp only [List.length_append, l3, l4, hk]; omega)]
  rw [insAt, show xs.take i ++ y :: xs.drop i = xs.take i ++ ([y] ++ xs.drop i) from rfl, cellsOf_append, cellsOf_append, cellsOf_one]
/-- lay, then up -/
theorem grow_row {cur : List Value} {xs : List α} {i n c : Nat} (y : α) (hn : xs.length = n) (hi : i ≤ n) (hc : n + 1 ≤ c) (h : cur.length = c * Flat.sz α) (ht : cur.take (i * Flat.sz α) = cellsOf (xs.take i)) :
    (upRow (layRow cur i y) xs i).take ((n + 1) * Flat.sz α) = cellsOf (insAt xs i y) := by
  have hk := Flat.len y
  have e1 : (i + 1) * Flat.sz α = i * Flat.sz α + Flat.sz α := by rw [Nat.add_mul]; omega
  have h2 : (n + 1) * Flat.sz α ≤ c * Flat.sz α := Nat.mul_le_mul_right _ hc
  have h3 : i * Flat.sz α ≤ n * Flat.sz α := Nat.mul_le_mul_right _ hi
  have e2 : (n + 1) * Flat.sz α = n * Flat.sz α + Flat.sz α := by rw [Nat.add_mul]; omega
  have e3 : (n - i) * Flat.sz α = n * Flat.sz α - i * Flat.sz α := Nat.sub_mul _ _ _
  have l2 : (cur.take (i * Flat.sz α)).length = i * Flat.sz α := by rw [List.length_take, h]; omega
  have l3 : (cellsOf (xs.take i)).length = i * Flat.sz α := by rw [← ht, l2]
  have l4 := drop_cells_length (i := i) hn
  have u1 : (layRow cur i y).take ((i + 1) * Flat.sz α) = cellsOf (xs.take i) ++ Flat.enc y := by
    unfold layRow
    rw [List.take_append_of_le_length (by rw [List.length_append, l2, hk]; omega), List.take_of_length_le (by rw [List.length_append, l2, hk]; omega), ht]
  unfold upRow
  rw [u1, List.take_append_of_le_length (by simp only [List.length_append, l3, l4, hk]; omega), List.take_of_length_le (by simp only [List.length_append, l3, l4, hk]; omega)]
  rw [insAt, show xs.take i ++ y :: xs.drop i = xs.take i ++ ([y] ++ xs.drop i) from rfl, cellsOf_append, cellsOf_append, cellsOf_one, List.append_assoc]
end
theorem gb_row (w : World) (g : Nat) (cs : Array Value) : w.grownBy (w.setRow g cs) (some g) :=
  ⟨rfl, rfl, rfl, by simp, fun k _ hk => setRow_other w g k _ (fun e => hk (by rw [e]))⟩
end Go.Proofs.YtfglmghcgoembaaGreatDoor

namespace Go.Proofs.YtfglmghcgoembaaGreatDoor
open Go.RowKit

theorem cell_row {w : World} {g : Nat} {cur : Array Value} {t : TypeId} {fz : Nat × Nat} (h : w.heap[g]? = some (.cells cur t fz)) (j : Nat) : w.cell? ⟨g, j, none⟩ = cur[j]? := by
  simp [World.cell?, h]
theorem frozen_row {w : World} {g : Nat} {cur : Array Value} {t : TypeId} (h : w.heap[g]? = some (.cells cur t (0, 0))) (j : Nat) : w.frozen? ⟨g, j, none⟩ = false := by
  simp [World.frozen?, h]
theorem shape_row {w : World} {g : Nat} {cur : Array Value} {t : TypeId} {fz : Nat × Nat} (h : w.heap[g]? = some (.cells cur t fz)) : w.shape? g = some (t, cur.size) := by
  simp [World.shape?, h]
section
variable {α : Type} [Flat α]
/-- what stands from i on, read out of the row -/
theorem row_from {cur : Array Value} {xs : List α} {n i : Nat} (hn : xs.length = n) (ht : cur.toList.take (n * Flat.sz α) = cellsOf xs) (hi : i ≤ n) : ∀ (j : Nat) (v : Value), (cellsOf (xs.drop i))[j]? = some v → cur[i * Flat.sz α + j]? = some v := by
  intro j v hv
  have hj : j < (n - i) * Flat.sz α := by
    have := (List.getElem?_eq_some_iff.1 hv).1
    rwa [drop_cells_length hn] at this
  have h1 : cellsOf xs = cellsOf (xs.take i) ++ cellsOf (xs.drop i) := by rw [← cellsOf_append, List.take_append_drop]
  have h2 : (cellsOf (xs.take i)).length = i * Flat.sz α := by rw [cellsOf_length, List.length_take, Nat.min_eq_left (by omega)]
  have e : (n - i) * Flat.sz α = n * Flat.sz α - i * Flat.sz α := Nat.sub_mul _ _ _
  have h3 : (cellsOf xs)[i * Flat.sz α + j]? = some v := by
    rw [h1, List.getElem?_append_right (by omega), h2, Nat.add_sub_cancel_left]; exact hv
  rw [← ht, List.getElem?_take, if_pos (by omega)] at h3
  simpa using h3
theorem row_head {cur : Array Value} {xs : List α} {n i : Nat} (ht : cur.toList.take (n * Flat.sz α) = cellsOf xs) : ∀ (j : Nat) (v : Value), (cellsOf (xs.take i))[j]? = some v → cur[j]? = some v := by
  intro j v hv
  have h1 : cellsOf xs = cellsOf (xs.take i) ++ cellsOf (xs.drop i) := by rw [← cellsOf_append, List.take_append_drop]
  have h3 : (cellsOf xs)[j]? = some v := by rw [h1, List.getElem?_append_left ((List.getElem?_eq_some_iff.1 hv).1)]; exact hv
  have hj := (List.getElem?_eq_some_iff.1 h3).1
  rw [← ht, List.getElem?_take] at h3
  split at h3
  · simpa using h3
  · cases h3
end
/-- A call hands back a slice with one element more, at place i. -/
def RetIns {α : Type} [Flat α] (w : World) (base : Nat) (E : TypeId) (A : Option Addr) (n c : Nat) (ys : List α) (e : Ending) (w' : World) : Prop :=
  ∃ A' c', e = .returned (.slice A' (n + 1) c') ∧ Own w' base E (.slice A' (n + 1) c') ys ∧ w.grownBy w' (Value.ownBlock (.slice A n c))
end Go.Proofs.YtfglmghcgoembaaGreatDoor
