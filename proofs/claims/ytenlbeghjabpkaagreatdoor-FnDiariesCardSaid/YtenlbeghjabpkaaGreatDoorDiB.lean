/-
  Several texts in one. No conditions.
-/
import Derived.Test.YtenlbeghjabpkaaGreatDoorMem6
import Derived.Laws.IdiomCopy
import Derived.Test.YtenlbeghjabpkaaGreatDoorMem7
import Derived.Test.YtenlbeghjabpkaaGreatDoorMem4
import Derived.Laws.CopyRow
import Derived.Lib.AppendZerosOnto
import Derived.Lib.Overlaps
import Derived.Laws.Externs
import Derived.Test.YtenlbeghjabpkaaGreatDoorJnLo
import Derived.Test.YtenlbeghjabpkaaGreatDoorJnX
import Derived.Shelf.Small.Strs
import Derived.Test.YtenlbeghjabpkaaGreatDoorLays
namespace Go.Proofs.YtenlbeghjabpkaaGreatDoor
open Go.RowKit

theorem run_copy_cellsN {P : Program} (w : World) (dT sT ty elem : TypeId) (k b o dLen dCap : Nat) (a : Addr) (sLen sCap : Nat) (cs : List Value)
    (hu : P.underlying dT = some (.slice elem)) (hs : (P.info? elem).map (·.size) = some k) (hn : cs.length = Nat.min sLen dLen * k)
    (hsrc : ∀ j v, cs[j]? = some v → w.cell? (a.add j) = some v) (hc : ∀ j, j < cs.length → (w.cell? ⟨b, o + j, none⟩).isSome = true) (hf : ∀ j, j < cs.length → w.frozen? ⟨b, o + j, none⟩ = false) (h1 : ∀ v ∈ cs, v.oneCell' = true) :
    (Builtin.copy_ #[dT, sT] ty #[.slice (some ⟨b, o, none⟩) dLen dCap, .slice (some a) sLen sCap]).run P w = .ok (goInt (Nat.min sLen dLen)) (w.setCells b o cs) := by
  have hl := run_loadCells_list (P := P) w a cs hsrc
  have hst := run_storeCells_cells (P := P) b o cs 0 w (by simpa using hc) (by simpa using hf) h1
  cases hq : P.info? elem with
  | none => simp [hq] at hs
  | some i =>
    have hi : i.size = k := by simpa [hq] using hs
    rw [hn] at hl
    have hn' : Nat.min sLen dLen * k = min sLen dLen * k := rfl
    first
      | (simp [Builtin.copy_, run_underlying hu, Builtin.lenOf, Builtin.firstCells, sizeOf, typeInfo, hq, hi, hl, hst]; done)
      | (rw [hn', Nat.mul_comm] at hl; simp [Builtin.copy_, run_underlying hu, Builtin.lenOf, Builtin.firstCells, sizeOf, typeInfo, hq, hi, hl, hst]; done)

end Go.Proofs.YtenlbeghjabpkaaGreatDoor

namespace Go.Proofs.YtenlbeghjabpkaaGreatDoor
open Go.RowKit

/-- append(xs, ys...) onto a slice of the call's own, run. -/
theorem run_appN {α : Type} [Flat α] {P : Program} (t ty e : TypeId) (he : Elem P t e (Flat.sz α)) {base : Nat} {w : World} {A B : Option Addr} {n c m d : Nat} {xs ys : List α}
    (hown : Own w base e (.slice A n c) xs) (hbase : base ≤ w.heap.size) (hy : Sl w B m ys) (hlim : n + m ≤ 274877906944) :
    ∃ A' c' w', (Builtin.append_ #[t, t] ty #[.slice A n c, .slice B m d]).run P w = .ok (.slice A' (n + m) c') w' ∧ Own w' base e (.slice A' (n + m) c') (xs ++ ys) ∧ w.grownBy w' (Value.ownBlock (.slice A n c)) := by
  obtain ⟨i, z, h1, h2, h3, h4, h5, h6⟩ := he
  have hn := hown.sl.1
  have hm := hy.1
  have ho1 : w.ownsRow base e (Flat.sz α) (.slice A n c) n (cellsOf xs) := by
    have := hown
    unfold Own at this
    rwa [hn] at this
  have fin : ∀ (news : List Value) (v' : Value) (w' : World), news = cellsOf ys → w'.ownsRow base e (Flat.sz α) v' (n + m) (cellsOf xs ++ news) → ∃ A' c', v' = .slice A' (n + m) c' ∧ Own w' base e (.slice A' (n + m) c') (xs ++ ys) := by
    intro news v' w' hnw hown'
    subst hnw
    have hnx : (xs ++ ys).length = n + m := by simp [hn, hm]
    have hO : Own w' base e v' (xs ++ ys) := by unfold Own; rw [hnx, cellsOf_append]; exact hown'
    obtain ⟨A', c', rfl⟩ := hO.slice
    rw [hnx] at hO
    exact ⟨A', c', by rw [hnx], hO⟩
  cases B with
  | none =>
    obtain ⟨rfl, rfl⟩ := hy.none_len
    have hrun := run_append_of_nil (P := P) w base t ty e i (Flat.sz α) h1 h2 _ n (cellsOf xs) ho1 d
    exact ⟨A, c, w, hrun, by simpa using hown, gb_refl _ _⟩
  | some ad =>
    by_cases hm0 : m = 0
    · subst hm0
      have hys : ys = [] := List.eq_nil_of_length_eq_zero hm
      subst hys
      obtain ⟨v', w', hr, ho, hg, _⟩ := run_append_own (P := P) w base t ty e i z (Flat.sz α) i.bytes h1 h2 h3 h4 rfl h6 Flat.pos _ n (cellsOf xs) ho1 ad 0 d [] (by simp) (by intro j u hu; simp at hu) (by intro u hu; simp at hu) (by unfold maxLen; omega) (by
        have : (n + 0) * i.bytes ≤ (n + 0) * 256 := Nat.mul_le_mul_left _ h5
        omega) hbase
      obtain ⟨A', c', rfl, hO⟩ := fin [] v' w' rfl ho
      exact ⟨A', c', w', hr, hO, hg⟩
    · have hspot : ∃ b o, ad = ⟨b, o, none⟩ := by
        obtain ⟨b, o, cs, hA, _⟩ := hy.2 0 _ (List.getElem?_eq_getElem (by omega))
        injection hA with hA
        exact ⟨b, o, hA⟩
      obtain ⟨b, off, rfl⟩ := hspot
      obtain ⟨v', w', hr, ho, hg, _⟩ := run_append_own (P := P) w base t ty e i z (Flat.sz α) i.bytes h1 h2 h3 h4 rfl h6 Flat.pos _ n (cellsOf xs) ho1 ⟨b, off, none⟩ m d (cellsOf ys) (by rw [cellsOf_length, hm]) (by
        intro j u hu
        rw [addr_add]
        exact hy.cells j u hu) (cellsOf_oneCell ys) (by unfold maxLen; omega) (by
        have : (n + m) * i.bytes ≤ (n + m) * 256 := Nat.mul_le_mul_left _ h5
        omega) hbase
      obtain ⟨A', c', rfl, hO⟩ := fin _ v' w' rfl ho
      exact ⟨A', c', w', hr, hO, hg⟩
/-- At a step of a region that draws its order. -/
theorem step_appN {α : Type} [Flat α] {P : Program} {ops : Array Oper} {o : Oper} {a : Act} {w : World} {K : Act → World → Prop} {Q : Exit → Act → World → Prop} {E : Prop} (hgd : o.guard = none) (s x : Operand) (t e : TypeId)
    (ho : o.op = .call { callee := .builtin .append, args := #[s, x], argTypes := #[t, t] }) (he : Elem P t e (Flat.sz α)) {base : Nat} {A B : Option Addr} {n c m d : Nat} {xs ys : List α} (hs : a.eval s = .slice A n c) (hx : a.eval x = .slice B m d)
    (hown : Own w base e (.slice A n c) xs) (hbase : base ≤ w.heap.size) (hy : Sl w B m ys) (hlim : n + m ≤ 274877906944)
    (h : ∀ A' c' w', Own w' base e (.slice A' (n + m) c') (xs ++ ys) → w.grownBy w' (Value.ownBlock (.slice A n c)) → K (a.put o.dst (.slice A' (n + m) c')) w') :
    if Region.wanted o (yielded ops a.tmps) = true then Oper.wp P o a w K Q else E := by
  have hw : Region.wanted o (yielded ops a.tmps) = true := by simp [Region.wanted, hgd]
  rw [if_pos hw]
  obtain ⟨A', c', w', hr, h1, h2⟩ := run_appN (P := P) t o.type e he hown hbase hy hlim
  unfold Oper.wp execOp
  simp only [ho, resolve, invoke, builtin, Sem.run_bind, Sem.run_pure, Result.andThen_ok, List.map_toArray, List.map_cons, List.map_nil, hs, hx]
  rw [hr]
  exact h A' c' w' h1 h2

end Go.Proofs.YtenlbeghjabpkaaGreatDoor

namespace Go.Proofs.YtenlbeghjabpkaaGreatDoor
open Go.RowKit

/-- copy, its run known, as an operation -/
theorem wp_copy_run {P : Program} (w : World) {o : Oper} {a : Act} {K : Act → World → Prop} {Q : Exit → Act → World → Prop} (d s : Operand) (t t' : TypeId)
    (ho : o.op = .call { callee := .builtin .copy, args := #[d, s], argTypes := #[t, t'] }) (v u : Value) (hd : a.eval d = v) (hs : a.eval s = u) {v' : Value} {w' : World}
    (hr : (Builtin.copy_ #[t, t'] o.type #[v, u]).run P w = .ok v' w') (h : K (a.put o.dst v') w') : o.wp P a w K Q := by
  unfold Oper.wp execOp
  simp only [ho, resolve, invoke, builtin, Sem.run_bind, Sem.run_pure, Result.andThen_ok, List.map_toArray, List.map_cons, List.map_nil, hd, hs, hr]
  exact h
theorem wpList_copy_run {P : Program} (w : World) {ops : Array Oper} {rest : List Oper} {o : Oper} {a : Act} {Q : Exit → Act → World → Prop} (hgd : o.guard = none) (d s : Operand) (t t' : TypeId)
    (ho : o.op = .call { callee := .builtin .copy, args := #[d, s], argTypes := #[t, t'] }) (v u : Value) (hd : a.eval d = v) (hs : a.eval s = u) {v' : Value} {w' : World}
    (hr : (Builtin.copy_ #[t, t'] o.type #[v, u]).run P w = .ok v' w') (h : wpList P ops Q rest (a.put o.dst v') w') : wpList P ops Q (o :: rest) a w :=
  wpList_plain hgd fun _ hK => wp_copy_run w d s t t' ho v u hd hs hr (hK _ _ h)
theorem step_copy_run {P : Program} {ops : Array Oper} {o : Oper} {a : Act} {w : World} {K : Act → World → Prop} {Q : Exit → Act → World → Prop} {E : Prop}
    (hg : o.guard = none) (d x : Operand) (dT sT : TypeId) (hop : o.op = Op.call { callee := Callee.builtin Builtin.copy, args := #[d, x], argTypes := #[dT, sT] })
    (v u : Value) (hd : a.eval d = v) (hx : a.eval x = u) {v' : Value} {w' : World} (hr : (Builtin.copy_ #[dT, sT] o.type #[v, u]).run P w = .ok v' w') (hK : K (a.put o.dst v') w') :
    if Region.wanted o (yielded ops a.tmps) = true then Oper.wp P o a w K Q else E := by
  have hw : Region.wanted o (yielded ops a.tmps) = true := by simp [Region.wanted, hg]
  rw [if_pos hw]
  exact wp_copy_run w d x dT sT hop v u hd hx hr hK

theorem run_copy_row {P : Program} (w : World) (dT sT ty elem t : TypeId) (k g o dLen dCap : Nat) (a : Addr) (sLen sCap : Nat) (cs : List Value) (cur : Array Value)
    (hu : P.underlying dT = some (.slice elem)) (hs : (P.info? elem).map (·.size) = some k) (hn : cs.length = Nat.min sLen dLen * k)
    (hsrc : ∀ j v, cs[j]? = some v → w.cell? (a.add j) = some v) (hg : w.heap[g]? = some (.cells cur t (0, 0))) (hfit : o + cs.length ≤ cur.size) (h1 : ∀ v ∈ cs, v.oneCell' = true) :
    (Builtin.copy_ #[dT, sT] ty #[.slice (some ⟨g, o, none⟩) dLen dCap, .slice (some a) sLen sCap]).run P w = .ok (goInt (Nat.min sLen dLen)) (w.setRow g (cur.toList.take o ++ cs ++ cur.toList.drop (o + cs.length)).toArray) := by
  have hl := run_loadCells_list (P := P) w a cs hsrc
  have hst := run_storeCells_at P g o t cs 0 cur w hg (by simpa using hfit) h1
  simp only [Nat.add_zero] at hst
  cases hq : P.info? elem with
  | none => simp [hq] at hs
  | some i =>
    have hi : i.size = k := by simpa [hq] using hs
    rw [hn] at hl
    have hn' : Nat.min sLen dLen * k = min sLen dLen * k := rfl
    first
      | (simp [Builtin.copy_, run_underlying hu, Builtin.lenOf, Builtin.firstCells, sizeOf, typeInfo, hq, hi, hl, hst]; done)
      | (rw [hn', Nat.mul_comm] at hl; simp [Builtin.copy_, run_underlying hu, Builtin.lenOf, Builtin.firstCells, sizeOf, typeInfo, hq, hi, hl, hst]; done)

/-- one more element at place i -/
def insAt {α : Type} (xs : List α) (i : Nat) (y : α) : List α := xs.take i ++ y :: xs.drop i
theorem insAt_length {α : Type} {xs : List α} {i : Nat} (y : α) (h : i ≤ xs.length) : (insAt xs i y).length = xs.length + 1 := by simp [insAt]; omega
theorem insAt_end {α : Type} (xs : List α) (y : α) : insAt xs xs.length y = xs ++ [y] := by simp [insAt]
section
variable {α : Type} [Flat α]
/-- the row of a slice of the call's own -/
theorem Own.row {w : World} {base g n cap : Nat} {E : TypeId} {xs : List α} (h : Own w base E (.slice (some ⟨g, 0, none⟩) n cap) xs) :
    ∃ cur : Array Value, w.heap[g]? = some (.cells cur E (0, 0)) ∧ xs.length = n ∧ base ≤ g ∧ n ≤ cap ∧ cap ≤ maxLen ∧ cur.size = cap * Flat.sz α ∧ cur.toList.take (n * Flat.sz α) = cellsOf xs := by
  have hn := h.sl.1
  rcases h.2 with ⟨hv, _⟩ | ⟨g', cap', cur, hv, hb, hg, h1, h2, h3, h4⟩
  · cases hv
  · injection hv with e1 e2 e3
    injection e1 with e1
    injection e1 with e1
    subst e1; subst e3
    rw [hn] at h1 h4
    exact ⟨cur, hg, hn, hb, h1, h2, h3, h4⟩
theorem Own.of_row {w : World} {base g n cap : Nat} {E : TypeId} {xs : List α} {cur : Array Value} (hg : w.heap[g]? = some (.cells cur E (0, 0))) (hn : xs.length = n) (hb : base ≤ g) (h1 : n ≤ cap) (h2 : cap ≤ maxLen)
    (h3 : cur.size = cap * Flat.sz α) (h4 : cur.toList.take (n * Flat.sz α) = cellsOf xs) : Own w base E (.slice (some ⟨g, 0, none⟩) n cap) xs := by
  subst hn
  exact ⟨cellsOf_length xs, .inr ⟨g, cap, cur, rfl, hb, hg, h1, h2, h3, h4⟩⟩
/-- first what stands from i on is copied one place up, then y is laid at i -/
def upRow (cur : List Value) (xs : List α) (i : Nat) : List Value := cur.take ((i + 1) * Flat.sz α) ++ cellsOf (xs.drop i) ++ cur.drop ((i + 1) * Flat.sz α + (cellsOf (xs.drop i)).length)
def layRow (cur : List Value) (i : Nat) (y : α) : List Value := cur.take (i * Flat.sz α) ++ Flat.enc y ++ cur.drop (i * Flat.sz α + (Flat.enc y).length)
theorem drop_cells_length {xs : List α} {i n : Nat} (hn : xs.length = n) : (cellsOf (xs.drop i)).length = (n - i) * Flat.sz α := by rw [cellsOf_length, List.length_drop, hn]
theorem upRow_length {cur : List Value} {xs : List α} {i n c : Nat} (hn : xs.length = n) (hi : i ≤ n) (hc : n + 1 ≤ c) (h : cur.length = c * Flat.sz α) : (upRow cur xs i).length = c * Flat.sz α := by
  have e : (i + 1) * Flat.sz α + (n - i) * Flat.sz α = (n + 1) * Flat.sz α := by rw [← Nat.add_mul]; congr 1; omega
  have h2 : (n + 1) * Flat.sz α ≤ c * Flat.sz α := Nat.mul_le_mul_right _ hc
  simp only [upRow, List.length_append, List.length_take, List.length_drop, drop_cells_length hn, h]
  omega
theorem layRow_length {cur : List Value} {y : α} {i c : Nat} (hi : i + 1 ≤ c) (h : cur.length = c * Flat.sz α) : (layRow cur i y).length = c * Flat.sz α := by
  have h2 : (i + 1) * Flat.sz α ≤ c * Flat.sz α := Nat.mul_le_mul_right _ hi
  rw [Nat.add_mul] at h2
  simp only [layRow, List.length_append, List.length_take, List.length_drop, Flat.len, h]
  omega
/-- up, then lay -/
theorem shift_row {cur : List Value} {xs : List α} {i n c : Nat} (y : α) (hn : xs.length = n) (hi : i ≤ n) (hc : n + 1 ≤ c) (h : cur.length = c * Flat.sz α) (ht : cur.take (n * Flat.sz α) = cellsOf xs) :
    (layRow (upRow cur xs i) i y).take ((n + 1) * Flat.sz α) = cellsOf (insAt xs i y) := by
  have hk := Flat.len y
  have e1 : (i + 1) * Flat.sz α = i * Flat.sz α + Flat.sz α := by rw [Nat.add_mul]; omega
  have h2 : (n + 1) * Flat.sz α ≤ c * Flat.sz α := Nat.mul_le_mul_right _ hc
  have h3 : i * Flat.sz α ≤ n * Flat.sz α := Nat.mul_le_mul_right _ hi
  have e2 : (n + 1) * Flat.sz α = n * Flat.sz α + Flat.sz α := by rw [Nat.add_mul]; omega
  have e3 : (n - i) * Flat.sz α = n * Flat.sz α - i * Flat.sz α := Nat.sub_mul _ _ _
  have t1 : cur.take (i * Flat.sz α) = cellsOf (xs.take i) := by
    have : cur.take (i * Flat.sz α) = (cur.take (n * Flat.sz α)).take (i * Flat.sz α) := by rw [List.take_take, Nat.min_eq_left h3]
    rw [this, ht]
    conv => lhs; rw [← List.take_append_drop i xs, cellsOf_append]
    rw [List.take_append_of_le_length (by rw [cellsOf_length, List.length_take]; simp [Nat.min_eq_left (by omega : i ≤ xs.length)]), List.take_of_length_le (by rw [cellsOf_length, List.length_take, Nat.min_eq_left (by omega : i ≤ xs.length)]; exact Nat.le_refl _)]
  have l1 : (cur.take ((i + 1) * Flat.sz α)).length = (i + 1) * Flat.sz α := by rw [List.length_take, h]; omega
  have l2 : (cur.take (i * Flat.sz α)).length = i * Flat.sz α := by rw [List.length_take, h]; omega
  have u1 : (upRow cur xs i).take (i * Flat.sz α) = cellsOf (xs.take i) := by
    unfold upRow
    rw [List.append_assoc, List.take_append_of_le_length (by rw [l1]; omega), List.take_take, Nat.min_eq_left (by omega), t1]
  have u2 : (upRow cur xs i).drop (i * Flat.sz α + (Flat.enc y).length) = cellsOf (xs.drop i) ++ cur.drop ((i + 1) * Flat.sz α + (cellsOf (xs.drop i)).length) := by
    unfold upRow
    rw [List.append_assoc, hk, ← e1, List.drop_append_of_le_length (by rw [l1]; exact Nat.le_refl _), List.drop_of_length_le (by rw [l1]; exact Nat.le_refl _), List.nil_append]
  unfold layRow
  rw [u1, u2]
  have l3 : (cellsOf (xs.take i)).length = i * Flat.sz α := by rw [← t1, l2]
  have l4 := drop_cells_length (i := i) hn
  rw [List.append_assoc, ← List.append_assoc (Flat.enc y), ← List.append_assoc, List.take_append_of_le_length (by simp only [List.length_append, l3, l4, hk]; omega), List.take_of_length_le (by simp only [List.length_append, l3, l4, hk]; omega)]
  rw [insAt, show xs.take i ++ y :: xs.drop i = xs.take i ++ ([y] ++ xs.drop i) from rfl, cellsOf_append, cellsOf_append, cellsOf_one]
/-- lay, then up -/
theorem grow_row {cur : List Value} {xs : List α} {i n c : Nat} (y : α) (hn : xs.length = n) (hi : i ≤ n) (hc : n + 1 ≤ c) (h : cur.length = c * Flat.sz α) (ht : cur.take (i * Flat.sz α) = cellsOf (xs.take i)) :
    (upRow (layRow cur i y) xs i).take ((n + 1) * Flat.sz α) = cellsOf (insAt xs i y) := by
  have hk := Flat.len y
  have e1 : (i + 1) * Flat.sz α = i * Flat.sz α + Flat.sz α := by rw [Nat.add_mul]; omega
  have h2 : (n + 1) * Flat.sz α ≤ c * Flat.sz α := Nat.mul_le_mul_right _ hc
  have h3 : i * Flat.sz α ≤ n * Flat.sz α := Nat.mul_le_mul_right _ hi
  have e2 : (n + 1) * Flat.sz α = n * Flat.sz α + Flat.sz α := by rw [Nat.add_mul]; omega
  have e3 : (n - i) * Flat.sz α = n * Flat.sz α - i * Flat.sz α := Nat.sub_mul _ _ _
  have l2 : (cur.take (i * Flat.sz α)).length = i * Flat.sz α := by rw [List.length_take, h]; omega
  have l3 : (cellsOf (xs.take i)).length = i * Flat.sz α := by rw [← ht, l2]
  have l4 := drop_cells_length (i := i) hn
  have u1 : (layRow cur i y).take ((i + 1) * Flat.sz α) = cellsOf (xs.take i) ++ Flat.enc y := by
    unfold layRow
    rw [List.take_append_of_le_length (by rw [List.length_append, l2, hk]; omega), List.take_of_length_le (by rw [List.length_append, l2, hk]; omega), ht]
  unfold upRow
  rw [u1, List.take_append_of_le_length (by simp only [List.length_append, l3, l4, hk]; omega), List.take_of_length_le (by simp only [List.length_append, l3, l4, hk]; omega)]
  rw [insAt, show xs.take i ++ y :: xs.drop i = xs.take i ++ ([y] ++ xs.drop i) from rfl, cellsOf_append, cellsOf_append, cellsOf_one, List.append_assoc]
end
theorem gb_row (w : World) (g : Nat) (cs : Array Value) : w.grownBy (w.setRow g cs) (some g) :=
  ⟨rfl, rfl, rfl, by simp, fun k _ hk => setRow_other w g k _ (fun e => hk (by rw [e]))⟩
end Go.Proofs.YtenlbeghjabpkaaGreatDoor

namespace Go.Proofs.YtenlbeghjabpkaaGreatDoor
open Go.RowKit

theorem cell_row {w : World} {g : Nat} {cur : Array Value} {t : TypeId} {fz : Nat × Nat} (h : w.heap[g]? = some (.cells cur t fz)) (j : Nat) : w.cell? ⟨g, j, none⟩ = cur[j]? := by
  simp [World.cell?, h]
theorem frozen_row {w : World} {g : Nat} {cur : Array Value} {t : TypeId} (h : w.heap[g]? = some (.cells cur t (0, 0))) (j : Nat) : w.frozen? ⟨g, j, none⟩ = false := by
  simp [World.frozen?, h]
theorem shape_row {w : World} {g : Nat} {cur : Array Value} {t : TypeId} {fz : Nat × Nat} (h : w.heap[g]? = some (.cells cur t fz)) : w.shape? g = some (t, cur.size) := by
  simp [World.shape?, h]
section
variable {α : Type} [Flat α]
/-- what stands from i on, read out of the row -/
theorem row_from {cur : Array Value} {xs : List α} {n i : Nat} (hn : xs.length = n) (ht : cur.toList.take (n * Flat.sz α) = cellsOf xs) (hi : i ≤ n) : ∀ (j : Nat) (v : Value), (cellsOf (xs.drop i))[j]? = some v → cur[i * Flat.sz α + j]? = some v := by
  intro j v hv
  have hj : j < (n - i) * Flat.sz α := by
    have := (List.getElem?_eq_some_iff.1 hv).1
    rwa [drop_cells_length hn] at this
  have h1 : cellsOf xs = cellsOf (xs.take i) ++ cellsOf (xs.drop i) := by rw [← cellsOf_append, List.take_append_drop]
  have h2 : (cellsOf (xs.take i)).length = i * Flat.sz α := by rw [cellsOf_length, List.length_take, Nat.min_eq_left (by omega)]
  have e : (n - i) * Flat.sz α = n * Flat.sz α - i * Flat.sz α := Nat.sub_mul _ _ _
  have h3 : (cellsOf xs)[i * Flat.sz α + j]? = some v := by
    rw [h1, List.getElem?_append_right (by omega), h2, Nat.add_sub_cancel_left]; exact hv
  rw [← ht, List.getElem?_take, if_pos (by omega)] at h3
  simpa using h3
theorem row_head {cur : Array Value} {xs : List α} {n i : Nat} (ht : cur.toList.take (n * Flat.sz α) = cellsOf xs) : ∀ (j : Nat) (v : Value), (cellsOf (xs.take i))[j]? = some v → cur[j]? = some v := by
  intro j v hv
  have h1 : cellsOf xs = cellsOf (xs.take i) ++ cellsOf (xs.drop i) := by rw [← cellsOf_append, List.take_append_drop]
  have h3 : (cellsOf xs)[j]? = some v := by rw [h1, List.getElem?_append_left ((List.getElem?_eq_some_iff.1 hv).1)]; exact hv
  have hj := (List.getElem?_eq_some_iff.1 h3).1
  rw [← ht, List.getElem?_take] at h3
  split at h3
  · simpa using h3
  · cases h3
end
/-- A call hands back a slice with one element more, at place i. -/
def RetIns {α : Type} [Flat α] (w : World) (base : Nat) (E : TypeId) (A : Option Addr) (n c : Nat) (ys : List α) (e : Ending) (w' : World) : Prop :=
  ∃ A' c', e = .returned (.slice A' (n + 1) c') ∧ Own w' base E (.slice A' (n + 1) c') ys ∧ w.grownBy w' (Value.ownBlock (.slice A n c))
end Go.Proofs.YtenlbeghjabpkaaGreatDoor

namespace Go.Proofs.YtenlbeghjabpkaaGreatDoor
open Go.RowKit

set_option maxRecDepth 100000 in
set_option maxHeartbeats 4000000 in
theorem insert_end_state (xs : List State) (A : Option Addr) (n c base vb vc : Nat) (y : State) (w : World) (hn : n ≤ 1048576) (ho : Own w base 26 (.slice A n c) xs) (hbase : base ≤ w.heap.size) (hvb : w.heap[vb]? = some (.cells (Flat.enc y).toArray 26 (0, 0))) :
    Calls Tryz.prog 54 #[.slice A n c, .int .i64 (n : Int), .slice (some ⟨vb, 0, none⟩) 1 vc] w (RetIns w base 26 A n c (xs ++ [y])) := by
  have hn' := ho.sl.1
  have hy : Sl w (some ⟨vb, 0, none⟩) 1 [y] := ⟨rfl, fun k x hx => by
    have hk : k = 0 := by have := (List.getElem?_eq_some_iff.1 hx).1; simp at this; exact this
    subst hk
    simp at hx; subst hx
    refine ⟨vb, 0, Flat.enc y, rfl, rfl, fun j v hv => ?_⟩
    rw [cell_row hvb]
    simpa using hv⟩
  obtain ⟨A', c', w', hr, ho', hg⟩ := run_appN (P := Tryz.prog) 31 31 26 el_state (d := vc) ho hbase hy (by omega)
  have HO := Lib.hid ho'
  have HG := Lib.hid hg
  obtain ⟨hcap, hcm⟩ := ho.cap
  unfold maxLen at hcm
  have hAn : A = none → n = 0 := fun e => by subst e; exact ho.sl.none_len.1
  clear ho ho' hg hy hn'
  cases A with
  | none =>
    obtain rfl : n = 0 := hAn rfl
    clear hAn
    go_enter Tryz.func54, Tryz.ntmps54
    go_wp2_with ((at_builtin; refine Lib.wpList_append_run _ rfl _ _ _ _ rfl _ _ rfl rfl _ _ hr ?_))
    go_ret
    exact ⟨A', c', rfl, HO.out, HG.out⟩
  | some ad =>
    clear hAn
    go_enter Tryz.func54, Tryz.ntmps54
    go_wp2_with ((at_builtin; refine Lib.wpList_append_run _ rfl _ _ _ _ rfl _ _ rfl rfl _ _ hr ?_))
    all_goals (go_ret; exact ⟨A', c', rfl, HO.out, HG.out⟩)
set_option maxRecDepth 100000 in
set_option maxHeartbeats 4000000 in
theorem insert_room_state (xs : List State) (g n c i base vb vc : Nat) (y : State) (w : World) (hn : n ≤ 1048576) (hi : i < n) (hroom : n + 1 ≤ c) (ho : Own w base 26 (.slice (some ⟨g, 0, none⟩) n c) xs) (hvb : w.heap[vb]? = some (.cells (Flat.enc y).toArray 26 (0, 0))) (hgv : vb ≠ g) :
    Calls Tryz.prog 54 #[.slice (some ⟨g, 0, none⟩) n c, .int .i64 (i : Int), .slice (some ⟨vb, 0, none⟩) 1 vc] w (RetIns w base 26 (some ⟨g, 0, none⟩) n c (insAt xs i y)) := by
  obtain ⟨cur, hg, hxl, hbg, hnc, hcm, hcs, htk⟩ := ho.row
  have hsz : Flat.sz State = 2 := rfl
  have hl1 : cur.toList.length = c * Flat.sz State := by rw [Array.length_toList, hcs]
  have hul := upRow_length (xs := xs) (i := i) hxl (by omega) hroom hl1
  have hll := layRow_length (cur := upRow cur.toList xs i) (y := y) (i := i) (c := c) (by omega) hul
  have hfin := shift_row (i := i) y hxl (by omega) hroom hl1 htk
  have hel : (Flat.enc y).length = 2 := Flat.len y
  have hdl := drop_cells_length (xs := xs) (i := i) hxl
  have hinf : (Tryz.prog.info? 26).map (·.size) = some 2 := by kernel_rfl
  have hov : ∀ lb cb, (callFunc 63 #[.slice (some ⟨vb, 0, none⟩) 1 vc, .slice (some ⟨g, (i + 1) * 2, none⟩) lb cb]).run Tryz.prog w = .ok (.value (.bool false)) w := fun lb cb => by
    rw [run_callFunc_extern Tryz.func63 (by kernel_rfl) (by kernel_rfl) (by kernel_rfl) (e := Extern.SlicesOverlaps.overlaps #[31, 31] #[4]) (by kernel_rfl),
      Lib.run_overlaps_apart w 31 4 26 Tryz.underlying31 2 Tryz.sizeOf26 ⟨vb, 0, none⟩ ⟨g, (i + 1) * 2, none⟩ 1 vc lb cb hgv _ _ _ _ (shape_row hvb) (shape_row hg) (by rw [hcs, hsz]; omega) (frozen_row hvb _) (frozen_row hvb _)]
    rfl
  have hcp1 : ∀ (W : World), W.heap = w.heap → ∀ ty dl dc sl sc, min sl dl = n - i → (Builtin.copy_ #[31, 31] ty #[.slice (some ⟨g, (i + 1) * 2, none⟩) dl dc, .slice (some ⟨g, i * 2, none⟩) sl sc]).run Tryz.prog W = .ok (goInt (Nat.min sl dl)) (W.setRow g (upRow cur.toList xs i).toArray) := by
    intro W hW ty dl dc sl sc hm
    have hgW : W.heap[g]? = some (.cells cur 26 (0, 0)) := by rw [hW]; exact hg
    refine run_copy_row W _ _ ty 26 _ 2 g ((i + 1) * 2) dl dc ⟨g, i * 2, none⟩ sl sc (cellsOf (xs.drop i)) cur Tryz.underlying31 hinf ?_ ?_ hgW ?_ (cellsOf_oneCell _)
    · rw [hdl]; show _ = min sl dl * 2; rw [hm]; rfl
    · intro j v hv
      rw [addr_add, cell_row hgW]
      exact row_from hxl htk (by omega) j v hv
    · rw [hdl, hcs, hsz]; omega
  have hcp2 : ∀ (W : World), W.heap = (w.setRow g (upRow cur.toList xs i).toArray).heap → ∀ ty dl dc, 1 ≤ dl → (Builtin.copy_ #[31, 31] ty #[.slice (some ⟨g, i * 2, none⟩) dl dc, .slice (some ⟨vb, 0, none⟩) 1 vc]).run Tryz.prog W = .ok (goInt (Nat.min 1 dl)) (W.setRow g (layRow (upRow cur.toList xs i) i y).toArray) := by
    intro W hW ty dl dc hm
    have hgW : W.heap[g]? = some (.cells (upRow cur.toList xs i).toArray 26 (0, 0)) := by rw [hW]; exact setRow_heap w g _ _ _ _ hg
    have hvW : W.heap[vb]? = some (.cells (Flat.enc y).toArray 26 (0, 0)) := by rw [hW, setRow_other w g vb _ hgv]; exact hvb
    have h := run_copy_row (P := Tryz.prog) W 31 31 ty 26 26 2 g (i * 2) dl dc ⟨vb, 0, none⟩ 1 vc (Flat.enc y) (upRow cur.toList xs i).toArray Tryz.underlying31 hinf (by rw [hel]; show _ = min 1 dl * 2; omega)
      (by intro j v hv; rw [addr_add, cell_row hvW, Nat.zero_add]; simpa using hv) hgW (by rw [hel, List.size_toArray, hul, hsz]; omega) (Flat.one y)
    exact h
  have HF := Lib.hid hfin
  have HOV := Lib.hid hov
  have HC1 := Lib.hid hcp1
  have HC2 := Lib.hid hcp2
  have HLL := Lib.hid hll
  have HG := Lib.hid hg
  have HX := Lib.hid hxl
  have HCM := Lib.hid hcm
  unfold maxLen at hcm
  have hbn : base ≤ g := hbg
  have w1 : IntKind.i64.wrap ((i : Int) + 1) = (i : Int) + 1 := IntWalk.i64_in _ (by omega)
  have w2 : ((i : Int) + 1).toNat = i + 1 := by omega
  have g1 : (0 : Int) ≤ (i : Int) + 1 := by omega
  have g2 : (i : Int) + 1 ≤ (n : Int) + 1 := by omega
  have g3 : (i : Int) ≤ (n : Int) + 1 := by omega
  have k1 : ¬ (c = i + 1) := by omega
  have k2 : ¬ (c = i) := by omega
  have k3 : ((i : Int) == (n : Int)) = false := by simp; omega
  clear hfin hov hcp1 hcp2 hll hg hxl hul hl1 hcs htk hdl hel hbg ho hvb
  go_enter Tryz.func54, Tryz.ntmps54
  go_wp2_with (simp only [HOV.out])
  have e1 := HC1.out w.drew rfl 3 (n - i) (c - (i + 1)) (n + 1 - i) (c - i) (by omega)
  have e2 := HC2.out (w.drew.setRow g (upRow cur.toList xs i).toArray) rfl 3 (n + 1 - i) (c - i) (by omega)
  go_region
  all_goals
    go_wp2
    go_ret
    refine ⟨some ⟨g, 0, none⟩, c, rfl, Own.of_row (cur := (layRow (upRow cur.toList xs i) i y).toArray) ?_ ?_ hbn hroom HCM.out ?_ ?_, ?_⟩
    · exact setRow_heap _ g _ _ _ _ (setRow_heap _ g _ _ _ _ HG.out)
    · rw [insAt_length y (by have := HX.out; omega), HX.out]
    · rw [List.size_toArray]; exact HLL.out
    · have := HF.out; simpa using this
    · refine ⟨rfl, rfl, rfl, by simp, fun k _ hk => ?_⟩
      have hkg : k ≠ g := fun e => hk (by rw [e]; rfl)
      rw [setRow_other _ g k _ hkg, setRow_other _ g k _ hkg]; rfl
set_option maxRecDepth 100000 in
set_option maxHeartbeats 4000000 in
theorem insert_grow_state (xs : List State) (g n c i base vb vc : Nat) (y : State) (w : World) (hn : n ≤ 1048576) (hi : i < n) (hroom : c < n + 1) (ho : Own w base 26 (.slice (some ⟨g, 0, none⟩) n c) xs) (hbase : base ≤ w.heap.size) (hvb : w.heap[vb]? = some (.cells (Flat.enc y).toArray 26 (0, 0))) :
    Calls Tryz.prog 54 #[.slice (some ⟨g, 0, none⟩) n c, .int .i64 (i : Int), .slice (some ⟨vb, 0, none⟩) 1 vc] w (RetIns w base 26 (some ⟨g, 0, none⟩) n c (insAt xs i y)) := by
  obtain ⟨cur, hg, hxl, hbg, hnc, hcm, hcs, htk⟩ := ho.row
  obtain ⟨ti, z, h1, h2, h3, h4, h5, h6⟩ := ez_state
  have hsz : Flat.sz State = 2 := rfl
  have hel : (Flat.enc y).length = 2 := Flat.len y
  have hdl := drop_cells_length (xs := xs) (i := i) hxl
  have hinf : (Tryz.prog.info? 26).map (·.size) = some 2 := by kernel_rfl
  have hzs : z.cells.size = 2 := by rw [← Array.length_toList, h6]; exact Flat.len _
  have hgw : g < w.heap.size := (Array.getElem?_eq_some_iff.1 hg).1
  have hvw : vb < w.heap.size := (Array.getElem?_eq_some_iff.1 hvb).1
  have htl : (cellsOf (xs.take i)).length = i * 2 := by rw [cellsOf_length, List.length_take, Nat.min_eq_left (by omega)]; rfl
  have hold : (Builtin.firstCells ti.size i (.slice (some ⟨g, 0, none⟩) i c)).run Tryz.prog w.drew = .ok (cellsOf (xs.take i)).toArray w.drew := by
    rw [h4, hsz]
    exact run_firstCells_some w.drew 2 i ⟨g, 0, none⟩ i c (cellsOf (xs.take i)) htl (fun j v hj => by
      rw [addr_add, Nat.zero_add]
      exact (cell_row hg j).trans (row_head htk j v hj))
  obtain ⟨G, hG⟩ : ∃ G, G = grownCap w (n + 1) c 26 := ⟨_, rfl⟩
  have hGn : n + 1 ≤ G := by rw [hG]; exact grownCap_ge w _ _ _
  have hGM : G ≤ maxLen := by rw [hG]; exact grownCap_le_maxLen w (n + 1) c _ (by unfold maxLen; omega)
  obtain ⟨ROW, hROW⟩ : ∃ ROW : Array Value, ROW = (cellsOf (xs.take i)).toArray ++ Builtin.zeroCells z.cells (n + 1 - i) ++ Builtin.zeroCells z.cells (G - (n + 1)) := ⟨_, rfl⟩
  have hik : i + (n + 1 - i) = n + 1 := by omega
  have hrz : ∀ ty, (Builtin.append_ #[31, 3] ty #[.slice (some ⟨g, 0, none⟩) i c, .int .i64 ((n : Int) + 1 - (i : Int))]).run Tryz.prog w = .ok (.slice (some ⟨w.heap.size, 0, none⟩) (n + 1) G) (w.drew.alloc (.cells ROW 26)) := fun ty => by
    have hb1 : (n + 1) * ti.bytes ≤ (n + 1) * 256 := Nat.mul_le_mul_left _ h5
    have hb2 : (n + 1 - i) * ti.bytes ≤ (n + 1) * ti.bytes := Nat.mul_le_mul_right _ (by omega)
    have h := Lib.run_append_grow_zeros (P := Tryz.prog) w 31 3 ty 26 ti z .i64 .i64 h1 Tryz.underlying3 h2 h3 (some ⟨g, 0, none⟩) i c (cellsOf (xs.take i)) hold (n + 1 - i) (by omega) (by rw [h4, hsz]; omega) (by omega) (by omega) (by omega) (by rw [hik]; exact growslice_fits hroom (by omega))
    rw [hik, ← hG, ← hROW] at h
    have hkk : (n : Int) + 1 - (i : Int) = ((n + 1 - i : Nat) : Int) := by omega
    rw [hkk]
    exact h
  have hRl : ROW.toList.length = G * Flat.sz State := by
    rw [Array.length_toList, hROW, Array.size_append, Array.size_append, size_zeroCells, size_zeroCells, hzs, List.size_toArray, htl, hsz]; omega
  have hRt : ROW.toList.take (i * Flat.sz State) = cellsOf (xs.take i) := by
    rw [hROW, Array.toList_append, Array.toList_append, List.append_assoc]
    exact List.take_left' htl
  have hll := layRow_length (y := y) (i := i) (by omega : i + 1 ≤ G) hRl
  have hul := upRow_length (xs := xs) (i := i) hxl (by omega) hGn hll
  have hfin := grow_row (i := i) y hxl (by omega) hGn hRl hRt
  have hgN : (w.alloc (.cells ROW 26)).heap[w.heap.size]? = some (.cells ROW 26 (0, 0)) := by
    show (w.heap.push _)[w.heap.size]? = _
    simp
  have hgO : ∀ k, k < w.heap.size → (w.alloc (.cells ROW 26)).heap[k]? = w.heap[k]? := fun k hk => by
    show (w.heap.push _)[k]? = _
    rw [Array.getElem?_push, if_neg (Nat.ne_of_lt hk)]
  have hcpA : ∀ (W : World), W.heap = (w.alloc (.cells ROW 26)).heap → ∀ ty dl dc, 1 ≤ dl → (Builtin.copy_ #[31, 31] ty #[.slice (some ⟨w.heap.size, i * 2, none⟩) dl dc, .slice (some ⟨vb, 0, none⟩) 1 vc]).run Tryz.prog W = .ok (goInt (Nat.min 1 dl)) (W.setRow w.heap.size (layRow ROW.toList i y).toArray) := by
    intro W hW ty dl dc hm
    have hgW : W.heap[w.heap.size]? = some (.cells ROW 26 (0, 0)) := by rw [hW]; exact hgN
    have hvW : W.heap[vb]? = some (.cells (Flat.enc y).toArray 26 (0, 0)) := by rw [hW, hgO vb hvw]; exact hvb
    exact run_copy_row (P := Tryz.prog) W 31 31 ty 26 26 2 w.heap.size (i * 2) dl dc ⟨vb, 0, none⟩ 1 vc (Flat.enc y) ROW Tryz.underlying31 hinf (by rw [hel]; show _ = min 1 dl * 2; omega)
      (by intro j v hv; rw [addr_add, cell_row hvW, Nat.zero_add]; simpa using hv) hgW (by rw [hel, ← Array.length_toList, hRl, hsz]; omega) (Flat.one y)
  have hcpB : ∀ (W : World), W.heap = ((w.alloc (.cells ROW 26)).setRow w.heap.size (layRow ROW.toList i y).toArray).heap → ∀ ty dl dc sl sc, min sl dl = n - i → (Builtin.copy_ #[31, 31] ty #[.slice (some ⟨w.heap.size, (i + 1) * 2, none⟩) dl dc, .slice (some ⟨g, i * 2, none⟩) sl sc]).run Tryz.prog W = .ok (goInt (Nat.min sl dl)) (W.setRow w.heap.size (upRow (layRow ROW.toList i y) xs i).toArray) := by
    intro W hW ty dl dc sl sc hm
    have hNW : W.heap[w.heap.size]? = some (.cells (layRow ROW.toList i y).toArray 26 (0, 0)) := by rw [hW]; exact setRow_heap _ _ _ _ _ _ hgN
    have hgW : W.heap[g]? = some (.cells cur 26 (0, 0)) := by rw [hW, setRow_other _ _ g _ (by omega), hgO g hgw]; exact hg
    exact run_copy_row (P := Tryz.prog) W 31 31 ty 26 26 2 w.heap.size ((i + 1) * 2) dl dc ⟨g, i * 2, none⟩ sl sc (cellsOf (xs.drop i)) (layRow ROW.toList i y).toArray Tryz.underlying31 hinf (by rw [hdl]; show _ = min sl dl * 2; rw [hm]; rfl)
      (by intro j v hv; rw [addr_add, cell_row hgW]; exact row_from hxl htk (by omega) j v hv) hNW (by rw [hdl, List.size_toArray, hll, hsz]; omega) (cellsOf_oneCell _)
  have HF := Lib.hid hfin
  have HGN := Lib.hid hgN
  have HGO := Lib.hid hgO
  have HCA := Lib.hid hcpA
  have HCB := Lib.hid hcpB
  have HUL := Lib.hid hul
  have HX := Lib.hid hxl
  have HGM := Lib.hid hGM
  unfold maxLen at hGM hcm
  have w1 : IntKind.i64.wrap ((i : Int) + 1) = (i : Int) + 1 := IntWalk.i64_in _ (by omega)
  have w2 : ((i : Int) + 1).toNat = i + 1 := by omega
  have g1 : (0 : Int) ≤ (i : Int) + 1 := by omega
  have g2 : (i : Int) + 1 ≤ (n : Int) + 1 := by omega
  have g3 : (i : Int) ≤ (n : Int) + 1 := by omega
  have k1 : ¬ (G = i + 1) := by omega
  have k2 : ¬ (G = i) := by omega
  have k4 : ¬ (c = i) := by omega
  have k3 : ((i : Int) == (n : Int)) = false := by simp; omega
  have hgn2 : ¬ (g = w.heap.size) := by omega
  clear hgN hgO hfin hcpA hcpB hll hul hg hxl hcs htk hdl hel hbg ho hvb hRl hRt hROW hG hold htl hzs h1 h2 h3 h4 h5 h6 hik
  go_enter Tryz.func54, Tryz.ntmps54
  have e1 := HCA.out (w.alloc (.cells ROW 26)).drew rfl 3 (n + 1 - i) (G - i) (by omega)
  have e2 := HCB.out ((w.alloc (.cells ROW 26)).drew.setRow w.heap.size (layRow ROW.toList i y).toArray).drew rfl 3 (n - i) (G - (i + 1)) (n - i) (c - i) (by omega)
  go_wp2_with ((at_builtin; refine Lib.wpList_append_run _ rfl _ _ _ _ rfl _ _ rfl rfl _ _ (hrz _) ?_))
  go_region
  all_goals
    go_wp2
    go_ret
    refine ⟨some ⟨w.heap.size, 0, none⟩, G, rfl, Own.of_row (cur := (upRow (layRow ROW.toList i y) xs i).toArray) ?_ ?_ hbase hGn HGM.out ?_ ?_, ?_⟩
    · exact setRow_heap _ _ _ _ _ _ (setRow_heap _ _ _ _ _ _ HGN.out)
    · rw [insAt_length y (by have := HX.out; omega), HX.out]
    · rw [List.size_toArray]; exact HUL.out
    · have := HF.out; simpa using this
    · refine ⟨rfl, rfl, rfl, by simp, fun k hk _ => ?_⟩
      have hkg : k ≠ w.heap.size := by omega
      rw [setRow_other _ _ k _ hkg]
      exact (setRow_other _ _ k _ hkg).trans (HGO.out k hk)
theorem insert_state (xs : List State) (A : Option Addr) (n c i base vb vc : Nat) (y : State) (w : World) (hn : n ≤ 1048576) (hi : i ≤ n) (ho : Own w base 26 (.slice A n c) xs) (hbase : base ≤ w.heap.size) (hvb : w.heap[vb]? = some (.cells (Flat.enc y).toArray 26 (0, 0))) (hgv : ∀ g, A = some ⟨g, 0, none⟩ → vb ≠ g) :
    Calls Tryz.prog 54 #[.slice A n c, .int .i64 (i : Int), .slice (some ⟨vb, 0, none⟩) 1 vc] w (RetIns w base 26 A n c (insAt xs i y)) := by
  by_cases he : i = n
  · subst he
    have h := insert_end_state xs A i c base vb vc y w hn ho hbase hvb
    have hl := ho.sl.1
    rw [← hl] at hi ⊢
    rw [insAt_end, hl]
    exact h
  · rcases ho.2 with ⟨hv, h0⟩ | ⟨g, cap, cur, hv, _⟩
    · have hl := ho.sl.1
      omega
    · injection hv with e1 e2 e3
      subst e1
      by_cases hroom : n + 1 ≤ c
      · exact insert_room_state xs g n c i base vb vc y w hn (by omega) hroom ho hvb (hgv g rfl)
      · exact insert_grow_state xs g n c i base vb vc y w hn (by omega) (by omega) ho hbase hvb

end Go.Proofs.YtenlbeghjabpkaaGreatDoor

namespace Go.Proofs.YtenlbeghjabpkaaGreatDoor
open Go.RowKit

def StateVal (x : State) : Value := .agg #[.string x.Name, .int .i64 x.Value]
/-- Where the search ends: i things lie ahead of the target, the others do not. -/
def RetSearch (w : World) (n : Nat) (f : Nat → Int) (e : Ending) (w' : World) : Prop :=
  ∃ i : Nat, e = .returned (.tuple #[.int .i64 i, .bool (decide (i < n) && decide (f i = 0))]) ∧ i ≤ n ∧ Hid ((∀ j, j < i → f j < 0) ∧ (∀ j, i ≤ j → j < n → 0 ≤ f j)) ∧ Below w.heap.size w w'
set_option maxHeartbeats 2000000 in
theorem searchFunc_state (xs : List State) (A : Option Addr) (n c : Nat) (t : State) (g : FuncId) (caps : Array Value) (cf : State → Int) (w : World) (hn : n ≤ 1048576) (hs : Sl w A n xs) (hen : Enters Tryz.prog g)
    (hm : ∀ a b, a ≤ b → b < n → cf (nth xs b) < 0 → cf (nth xs a) < 0)
    (hp : ∀ x, x ∈ xs → ∀ W : World, Calls Tryz.prog g (#[StateVal x, StateVal t] ++ caps) W fun e V => e = .returned (.int .i64 (cf x)) ∧ Below W.heap.size W V) :
    Calls Tryz.prog 51 #[.slice A n c, StateVal t, .func (.func g) #[] caps] w (RetSearch w n (fun j => cf (nth xs j))) := by
  have HL := Lib.hid hs.1
  have HP := Lib.hid hp
  have HM := Lib.hid hm
  clear hp hm
  have hcf : ∀ (args : Array Value) (W : World), (callFunc g args).run Tryz.prog W = .ok (.enter g args) W := hen
  clear hen
  unfold StateVal
  go_enter Tryz.func51, Tryz.ntmps51
  go_wp2
  go_loopw [9, 10] (fun u v wr => ∃ lo hi : Nat, lo ≤ hi ∧ hi ≤ n ∧ u = .int .i64 lo ∧ v = .int .i64 hi ∧ Below w.heap.size w wr ∧ Hid ((∀ j, j < lo → cf (nth xs j) < 0) ∧ (∀ j, hi ≤ j → j < n → 0 ≤ cf (nth xs j)))
    ∧ wr.cell? ⟨w.heap.size, 0, none⟩ = some (.string t.Name) ∧ wr.cell? ⟨w.heap.size, 1, none⟩ = some (.int .i64 t.Value)) (fun u v _ => (intOf v).toNat - (intOf u).toNat)
  case atStart => exact ⟨0, n, Nat.zero_le _, Nat.le_refl _, rfl, rfl, bl_alloc (bl_refl _) _, ⟨fun j hj => absurd hj (by omega), fun j h1 h2 => absurd h1 (by omega)⟩, by go_simp, by go_simp⟩
  case round =>
    obtain ⟨lo, hi, hlh, hin, rfl, rfl, hb, hg, t0, t1⟩ := hrel
    have htz : w.heap.size < wr.heap.size := World.block_lt_of_cell? _ _ t0
    by_cases hlt : lo < hi
    · have hmn : (lo + hi) / 2 < n := by omega
      obtain ⟨b, o, rfl, hbz, c0, c1⟩ := (hs.below hb).state hmn
      clear hs
      generalize hmid : (lo + hi) / 2 = mid at *
      have hmem : Hid (nth xs mid ∈ xs) := nth_mem (by rw [HL.out]; exact hmn)
      have hmi : ((lo : Int) + (hi : Int)) / 2 = (mid : Int) := by omega
      have hml : lo ≤ mid := by omega
      have hmh : mid < hi := by omega
      by_cases hc : cf (nth xs mid) < 0
      · have HC := Lib.hid hc
        have hc' : decide (cf (nth xs mid) < 0) = true := by simpa using hc
        go_wp2_with fail
        refine wp_region_grow (by kernel_rfl) (by kernel_rfl) (fun X hX => ?_)
        have hbX : Below wr.heap.size wr X := by rw [hX]; exact bl_refl _
        have q0 := Gw.cell (cell_later hbX c0)
        have q1 := Gw.cell (cell_later hbX c1)
        have s0 := Gw.cell (cell_later hbX t0)
        have s1 := Gw.cell (cell_later hbX t1)
        have HX := Lib.hid hX
        clear hX c0 c1
        repeat (go_big_quiet_step (exact Calls.grow_of (HP.out (nth xs mid) hmem.out _)))
        refine wpGrow_nil (fun V hV => ?_)
        have hV := bl_trans hbX hV
        have hbV := bl_trans hb hV
        clear q0 q1 s0 s1
        go_wp2
        go_roundw
        case rel => exact ⟨mid + 1, hi, by omega, hin, by go_num, rfl, hbV, ⟨fun j hj => HM.out j mid (by omega) hmn HC.out, hg.2⟩, cell_later hV t0, cell_later hV t1⟩
        case measure => simp [intOf]; omega
      · have HC := Lib.hid hc
        have hc' : decide (cf (nth xs mid) < 0) = false := by simpa using hc
        go_wp2_with fail
        refine wp_region_grow (by kernel_rfl) (by kernel_rfl) (fun X hX => ?_)
        have hbX : Below wr.heap.size wr X := by rw [hX]; exact bl_refl _
        have q0 := Gw.cell (cell_later hbX c0)
        have q1 := Gw.cell (cell_later hbX c1)
        have s0 := Gw.cell (cell_later hbX t0)
        have s1 := Gw.cell (cell_later hbX t1)
        have HX := Lib.hid hX
        clear hX c0 c1
        repeat (go_big_quiet_step (exact Calls.grow_of (HP.out (nth xs mid) hmem.out _)))
        refine wpGrow_nil (fun V hV => ?_)
        have hV := bl_trans hbX hV
        have hbV := bl_trans hb hV
        clear q0 q1 s0 s1
        go_wp2
        go_roundw
        case rel => exact ⟨lo, mid, by omega, by omega, rfl, by go_num, hbV, ⟨hg.1, fun j h1 h2 => Int.not_lt.1 (fun h => absurd (HM.out mid j h1 h2 h) (by have := HC.out; omega))⟩, cell_later hV t0, cell_later hV t1⟩
        case measure => simp [intOf]; omega
    · obtain rfl : lo = hi := by omega
      by_cases hl : lo < n
      · obtain ⟨b, o, rfl, hbz, c0, c1⟩ := (hs.below hb).state hl
        clear hs
        have hd : decide ((lo : Int) < n) = true := by simpa using hl
        have hmem : Hid (nth xs lo ∈ xs) := nth_mem (by rw [HL.out]; exact hl)
        go_wp2_with fail
        refine wp_region_grow (by kernel_rfl) (by kernel_rfl) (fun X hX => ?_)
        have hbX : Below wr.heap.size wr X := by rw [hX]; exact bl_refl _
        have q0 := Gw.cell (cell_later hbX c0)
        have q1 := Gw.cell (cell_later hbX c1)
        have s0 := Gw.cell (cell_later hbX t0)
        have s1 := Gw.cell (cell_later hbX t1)
        have HX := Lib.hid hX
        clear hX c0 c1
        repeat (go_big_quiet_step (exact Calls.grow_of (HP.out (nth xs lo) hmem.out _)))
        refine wpGrow_nil (fun V hV => ?_)
        have hV := bl_trans hbX hV
        have hbV := bl_trans hb hV
        clear q0 q1 s0 s1
        go_wp2
        go_ret2
        refine ⟨lo, ?_, hin, hg, hbV⟩
        simp [hl]
        try rfl
      · have hd : decide ((lo : Int) < n) = false := by simp; omega
        go_wp2_with fail
        refine wp_region_grow (by kernel_rfl) (by kernel_rfl) (fun X hX => ?_)
        have hbX : Below wr.heap.size wr X := by rw [hX]; exact bl_refl _
        have HX := Lib.hid hX
        clear hX hs t0 t1
        repeat (go_big_quiet_step (fail))
        refine wpGrow_nil (fun V hV => ?_)
        have hbV := bl_trans hb (bl_trans hbX hV)
        go_wp2
        go_ret2
        refine ⟨lo, ?_, hin, hg, hbV⟩
        simp [hl]

theorem enters_last : Enters Tryz.prog 52 := enters_of Tryz.func52 (by kernel_rfl) (by kernel_rfl)
theorem compare_any (a b : ByteArray) (w : World) : Calls Tryz.prog 53 #[.string a, .string b] w fun e w' => e = .returned (.int .i64 (Lib.compareBytes a.data.toList b.data.toList)) ∧ w' = w := Any.strings_Compare Tryz.laysCompare a b w
theorem lastCmp_any (x t : State) (w : World) : Calls Tryz.prog 52 #[StateVal x, StateVal t] w fun e V => e = .returned (.int .i64 (cmpN x t)) ∧ Below w.heap.size w V := by
  unfold StateVal cmpN
  go_enter Tryz.func52, Tryz.ntmps52
  go_wp2_with fail
  refine (compare_any x.Name t.Name _).mono ?_
  rintro _ V1 ⟨rfl, rfl⟩
  go_wp2
  go_ret
  exact ⟨rfl, bl_alloc (bl_alloc (bl_refl _) _) _⟩

end Go.Proofs.YtenlbeghjabpkaaGreatDoor
