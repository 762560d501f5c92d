/-
  Several texts in one. No conditions.
-/
import Derived.Test.YtjcjedolhejnaaaGreatDoorSkX
import Derived.Test.YtjcjedolhejnaaaGreatDoorMem6
import Derived.Laws.IdiomCopy
import Derived.Test.YtjcjedolhejnaaaGreatDoorMem8
import Derived.Laws.CopyRow
import Derived.Lib.AppendZerosOnto
import Derived.Lib.Overlaps
import Derived.Laws.Externs
import Derived.Test.YtjcjedolhejnaaaGreatDoorLibK
import Derived.Test.YtjcjedolhejnaaaGreatDoorRenP
import Derived.Test.YtjcjedolhejnaaaGreatDoorMem2
import Derived.Test.YtjcjedolhejnaaaGreatDoorRenS
import Derived.Test.YtjcjedolhejnaaaGreatDoorSkX
import Derived.Test.YtjcjedolhejnaaaGreatDoorStPq
import Derived.Test.YtjcjedolhejnaaaGreatDoorJoNq
namespace Go.Proofs.YtjcjedolhejnaaaGreatDoor
open Go.RowKit

theorem run_copy_cellsN {P : Program} (w : World) (dT sT ty elem : TypeId) (k b o dLen dCap : Nat) (a : Addr) (sLen sCap : Nat) (cs : List Value)
    (hu : P.underlying dT = some (.slice elem)) (hs : (P.info? elem).map (·.size) = some k) (hn : cs.length = Nat.min sLen dLen * k)
    (hsrc : ∀ j v, cs[j]? = some v → w.cell? (a.add j) = some v) (hc : ∀ j, j < cs.length → (w.cell? ⟨b, o + j, none⟩).isSome = true) (hf : ∀ j, j < cs.length → w.frozen? ⟨b, o + j, none⟩ = false) (h1 : ∀ v ∈ cs, v.oneCell' = true) :
    (Builtin.copy_ #[dT, sT] ty #[.slice (some ⟨b, o, none⟩) dLen dCap, .slice (some a) sLen sCap]).run P w = .ok (goInt (Nat.min sLen dLen)) (w.setCells b o cs) := by
  have hl := run_loadCells_list (P := P) w a cs hsrc
  have hst := run_storeCells_cells (P := P) b o cs 0 w (by simpa using hc) (by simpa using hf) h1
  cases hq : P.info? elem with
  | none => simp [hq] at hs
  | some i =>
    have hi : i.size = k := by simpa [hq] using hs
    rw [hn] at hl
    have hn' : Nat.min sLen dLen * k = min sLen dLen * k := rfl
    first
      | (simp [Builtin.copy_, run_underlying hu, Builtin.lenOf, Builtin.firstCells, sizeOf, typeInfo, hq, hi, hl, hst]; done)
      | (rw [hn', Nat.mul_comm] at hl; simp [Builtin.copy_, run_underlying hu, Builtin.lenOf, Builtin.firstCells, sizeOf, typeInfo, hq, hi, hl, hst]; done)

end Go.Proofs.YtjcjedolhejnaaaGreatDoor

namespace Go.Proofs.YtjcjedolhejnaaaGreatDoor
open Go.RowKit

/-- copy, its run known, as an operation -/
theorem wp_copy_run {P : Program} (w : World) {o : Oper} {a : Act} {K : Act → World → Prop} {Q : Exit → Act → World → Prop} (d s : Operand) (t t' : TypeId)
    (ho : o.op = .call { callee := .builtin .copy, args := #[d, s], argTypes := #[t, t'] }) (v u : Value) (hd : a.eval d = v) (hs : a.eval s = u) {v' : Value} {w' : World}
    (hr : (Builtin.copy_ #[t, t'] o.type #[v, u]).run P w = .ok v' w') (h : K (a.put o.dst v') w') : o.wp P a w K Q := by
  unfold Oper.wp execOp
  simp only [ho, resolve, invoke, builtin, Sem.run_bind, Sem.run_pure, Result.andThen_ok, List.map_toArray, List.map_cons, List.map_nil, hd, hs, hr]
  exact h
theorem wpList_copy_run {P : Program} (w : World) {ops : Array Oper} {rest : List Oper} {o : Oper} {a : Act} {Q : Exit → Act → World → Prop} (hgd : o.guard = none) (d s : Operand) (t t' : TypeId)
    (ho : o.op = .call { callee := .builtin .copy, args := #[d, s], argTypes := #[t, t'] }) (v u : Value) (hd : a.eval d = v) (hs : a.eval s = u) {v' : Value} {w' : World}
    (hr : (Builtin.copy_ #[t, t'] o.type #[v, u]).run P w = .ok v' w') (h : wpList P ops Q rest (a.put o.dst v') w') : wpList P ops Q (o :: rest) a w :=
  wpList_plain hgd fun _ hK => wp_copy_run w d s t t' ho v u hd hs hr (hK _ _ h)
theorem step_copy_run {P : Program} {ops : Array Oper} {o : Oper} {a : Act} {w : World} {K : Act → World → Prop} {Q : Exit → Act → World → Prop} {E : Prop}
    (hg : o.guard = none) (d x : Operand) (dT sT : TypeId) (hop : o.op = Op.call { callee := Callee.builtin Builtin.copy, args := #[d, x], argTypes := #[dT, sT] })
    (v u : Value) (hd : a.eval d = v) (hx : a.eval x = u) {v' : Value} {w' : World} (hr : (Builtin.copy_ #[dT, sT] o.type #[v, u]).run P w = .ok v' w') (hK : K (a.put o.dst v') w') :
    if Region.wanted o (yielded ops a.tmps) = true then Oper.wp P o a w K Q else E := by
  have hw : Region.wanted o (yielded ops a.tmps) = true := by simp [Region.wanted, hg]
  rw [if_pos hw]
  exact wp_copy_run w d x dT sT hop v u hd hx hr hK

theorem run_copy_row {P : Program} (w : World) (dT sT ty elem t : TypeId) (k g o dLen dCap : Nat) (a : Addr) (sLen sCap : Nat) (cs : List Value) (cur : Array Value)
    (hu : P.underlying dT = some (.slice elem)) (hs : (P.info? elem).map (·.size) = some k) (hn : cs.length = Nat.min sLen dLen * k)
    (hsrc : ∀ j v, cs[j]? = some v → w.cell? (a.add j) = some v) (hg : w.heap[g]? = some (.cells cur t (0, 0))) (hfit : o + cs.length ≤ cur.size) (h1 : ∀ v ∈ cs, v.oneCell' = true) :
    (Builtin.copy_ #[dT, sT] ty #[.slice (some ⟨g, o, none⟩) dLen dCap, .slice (some a) sLen sCap]).run P w = .ok (goInt (Nat.min sLen dLen)) (w.setRow g (cur.toList.take o ++ cs ++ cur.toList.drop (o + cs.length)).toArray) := by
  have hl := run_loadCells_list (P := P) w a cs hsrc
  have hst := run_storeCells_at P g o t cs 0 cur w hg (by simpa using hfit) h1
  simp only [Nat.add_zero] at hst
  cases hq : P.info? elem with
  | none => simp [hq] at hs
  | some i =>
    have hi : i.size = k := by simpa [hq] using hs
    rw [hn] at hl
    have hn' : Nat.min sLen dLen * k = min sLen dLen * k := rfl
    first
      | (simp [Builtin.copy_, run_underlying hu, Builtin.lenOf, Builtin.firstCells, sizeOf, typeInfo, hq, hi, hl, hst]; done)
      | (rw [hn', Nat.mul_comm] at hl; simp [Builtin.copy_, run_underlying hu, Builtin.lenOf, Builtin.firstCells, sizeOf, typeInfo, hq, hi, hl, hst]; done)

/-- one more element at place i -/
def insAt {α : Type} (xs : List α) (i : Nat) (y : α) : List α := xs.take i ++ y :: xs.drop i
theorem insAt_length {α : Type} {xs : List α} {i : Nat} (y : α) (h : i ≤ xs.length) : (insAt xs i y).length = xs.length + 1 := by simp [insAt]; omega
theorem insAt_end {α : Type} (xs : List α) (y : α) : insAt xs xs.length y = xs ++ [y] := by simp [insAt]
section
variable {α : Type} [Flat α]
/-- the row of a slice of the call's own -/
theorem Own.row {w : World} {base g n cap : Nat} {E : TypeId} {xs : List α} (h : Own w base E (.slice (some ⟨g, 0, none⟩) n cap) xs) :
    ∃ cur : Array Value, w.heap[g]? = some (.cells cur E (0, 0)) ∧ xs.length = n ∧ base ≤ g ∧ n ≤ cap ∧ cap ≤ maxLen ∧ cur.size = cap * Flat.sz α ∧ cur.toList.take (n * Flat.sz α) = cellsOf xs := by
  have hn := h.sl.1
  rcases h.2 with ⟨hv, _⟩ | ⟨g', cap', cur, hv, hb, hg, h1, h2, h3, h4⟩
  · cases hv
  · injection hv with e1 e2 e3
    injection e1 with e1
    injection e1 with e1
    subst e1; subst e3
    rw [hn] at h1 h4
    exact ⟨cur, hg, hn, hb, h1, h2, h3, h4⟩
theorem Own.of_row {w : World} {base g n cap : Nat} {E : TypeId} {xs : List α} {cur : Array Value} (hg : w.heap[g]? = some (.cells cur E (0, 0))) (hn : xs.length = n) (hb : base ≤ g) (h1 : n ≤ cap) (h2 : cap ≤ maxLen)
    (h3 : cur.size = cap * Flat.sz α) (h4 : cur.toList.take (n * Flat.sz α) = cellsOf xs) : Own w base E (.slice (some ⟨g, 0, none⟩) n cap) xs := by
  subst hn
  exact ⟨cellsOf_length xs, .inr ⟨g, cap, cur, rfl, hb, hg, h1, h2, h3, h4⟩⟩
/-- first what stands from i on is copied one place up, then y is laid at i -/
def upRow (cur : List Value) (xs : List α) (i : Nat) : List Value := cur.take ((i + 1) * Flat.sz α) ++ cellsOf (xs.drop i) ++ cur.drop ((i + 1) * Flat.sz α + (cellsOf (xs.drop i)).length)
def layRow (cur : List Value) (i : Nat) (y : α) : List Value := cur.take (i * Flat.sz α) ++ Flat.enc y ++ cur.drop (i * Flat.sz α + (Flat.enc y).length)
theorem drop_cells_length {xs : List α} {i n : Nat} (hn : xs.length = n) : (cellsOf (xs.drop i)).length = (n - i) * Flat.sz α := by rw [cellsOf_length, List.length_drop, hn]
theorem upRow_length {cur : List Value} {xs : List α} {i n c : Nat} (hn : xs.length = n) (hi : i ≤ n) (hc : n + 1 ≤ c) (h : cur.length = c * Flat.sz α) : (upRow cur xs i).length = c * Flat.sz α := by
  have e : (i + 1) * Flat.sz α + (n - i) * Flat.sz α = (n + 1) * Flat.sz α := by rw [← Nat.add_mul]; congr 1; omega
  have h2 : (n + 1) * Flat.sz α ≤ c * Flat.sz α := Nat.mul_le_mul_right _ hc
  simp only [upRow, List.length_append, List.length_take, List.length_drop, drop_cells_length hn, h]
  omega
theorem layRow_length {cur : List Value} {y : α} {i c : Nat} (hi : i + 1 ≤ c) (h : cur.length = c * Flat.sz α) : (layRow cur i y).length = c * Flat.sz α := by
  have h2 : (i + 1) * Flat.sz α ≤ c * Flat.sz α := Nat.mul_le_mul_right _ hi
  rw [Nat.add_mul] at h2
  simp only [layRow, List.length_append, List.length_take, List.length_drop, Flat.len, h]
  omega
/-- up, then lay -/
theorem shift_row {cur : List Value} {xs : List α} {i n c : Nat} (y : α) (hn : xs.length = n) (hi : i ≤ n) (hc : n + 1 ≤ c) (h : cur.length = c * Flat.sz α) (ht : cur.take (n * Flat.sz α) = cellsOf xs) :
    (layRow (upRow cur xs i) i y).take ((n + 1) * Flat.sz α) = cellsOf (insAt xs i y) := by
  have hk := Flat.len y
  have e1 : (i + 1) * Flat.sz α = i * Flat.sz α + Flat.sz α := by rw [Nat.add_mul]; omega
  have h2 : (n + 1) * Flat.sz α ≤ c * Flat.sz α := Nat.mul_le_mul_right _ hc
  have h3 : i * Flat.sz α ≤ n * Flat.sz α := Nat.mul_le_mul_right _ hi
  have e2 : (n + 1) * Flat.sz α = n * Flat.sz α + Flat.sz α := by rw [Nat.add_mul]; omega
  have e3 : (n - i) * Flat.sz α = n * Flat.sz α - i * Flat.sz α := Nat.sub_mul _ _ _
  have t1 : cur.take (i * Flat.sz α) = cellsOf (xs.take i) := by
    have : cur.take (i * Flat.sz α) = (cur.take (n * Flat.sz α)).take (i * Flat.sz α) := by rw [List.take_take, Nat.min_eq_left h3]
    rw [this, ht]
    conv => lhs; rw [← List.take_append_drop i xs, cellsOf_append]
    rw [List.take_append_of_le_length (by rw [cellsOf_length, List.length_take]; simp [Nat.min_eq_left (by omega : i ≤ xs.length)]), List.take_of_length_le (by rw [cellsOf_length, List.length_take, Nat.min_eq_left (by omega : i ≤ xs.length)]; exact Nat.le_refl _)]
  have l1 : (cur.take ((i + 1) * Flat.sz α)).length = (i + 1) * Flat.sz α := by rw [List.length_take, h]; omega
  have l2 : (cur.take (i * Flat.sz α)).length = i * Flat.sz α := by rw [List.length_take, h]; omega
  have u1 : (upRow cur xs i).take (i * Flat.sz α) = cellsOf (xs.take i) := by
    unfold upRow
    rw [List.append_assoc, List.take_append_of_le_length (by rw [l1]; omega), List.take_take, Nat.min_eq_left (by omega), t1]
  have u2 : (upRow cur xs i).drop (i * Flat.sz α + (Flat.enc y).length) = cellsOf (xs.drop i) ++ cur.drop ((i + 1) * Flat.sz α + (cellsOf (xs.drop i)).length) := by
    unfold upRow
    rw [List.append_assoc, hk, ← e1, List.drop_append_of_le_length (by rw [l1]; exact Nat.le_refl _), List.drop_of_length_le (by rw [l1]; exact Nat.le_refl _), List.nil_append]
  unfold layRow
  rw [u1, u2]
  have l3 : (cellsOf (xs.take i)).length = i * Flat.sz α := by rw [← t1, l2]
  have l4 := drop_cells_length (i := i) hn
  rw [List.append_assoc, ← List.append_assoc (Flat.enc y), ← List.append_assoc, List.take_append_of_le_length (by simp only [List.length_append, l3, l4, hk]; omega), List.take_of_length_le (by simp only [List.length_append, l3, l4, hk]; omega)]
  rw [insAt, show xs.take i ++ y :: xs.drop i = xs.take i ++ ([y] ++ xs.drop i) from rfl, cellsOf_append, cellsOf_append, cellsOf_one]
/-- lay, then up -/
theorem grow_row {cur : List Value} {xs : List α} {i n c : Nat} (y : α) (hn : xs.length = n) (hi : i ≤ n) (hc : n + 1 ≤ c) (h : cur.length = c * Flat.sz α) (ht : cur.take (i * Flat.sz α) = cellsOf (xs.take i)) :
    (upRow (layRow cur i y) xs i).take ((n + 1) * Flat.sz α) = cellsOf (insAt xs i y) := by
  have hk := Flat.len y
  have e1 : (i + 1) * Flat.sz α = i * Flat.sz α + Flat.sz α := by rw [Nat.add_mul]; omega
  have h2 : (n + 1) * Flat.sz α ≤ c * Flat.sz α := Nat.mul_le_mul_right _ hc
  have h3 : i * Flat.sz α ≤ n * Flat.sz α := Nat.mul_le_mul_right _ hi
  have e2 : (n + 1) * Flat.sz α = n * Flat.sz α + Flat.sz α := by rw [Nat.add_mul]; omega
  have e3 : (n - i) * Flat.sz α = n * Flat.sz α - i * Flat.sz α := Nat.sub_mul _ _ _
  have l2 : (cur.take (i * Flat.sz α)).length = i * Flat.sz α := by rw [List.length_take, h]; omega
  have l3 : (cellsOf (xs.take i)).length = i * Flat.sz α := by rw [← ht, l2]
  have l4 := drop_cells_length (i := i) hn
  have u1 : (layRow cur i y).take ((i + 1) * Flat.sz α) = cellsOf (xs.take i) ++ Flat.enc y := by
    unfold layRow
    rw [List.take_append_of_le_length (by rw [List.length_append, l2, hk]; omega), List.take_of_length_le (by rw [List.length_append, l2, hk]; omega), ht]
  unfold upRow
  rw [u1, List.take_append_of_le_length (by simp only [List.length_append, l3, l4, hk]; omega), List.take_of_length_le (by simp only [List.length_append, l3, l4, hk]; omega)]
  rw [insAt, show xs.take i ++ y :: xs.drop i = xs.take i ++ ([y] ++ xs.drop i) from rfl, cellsOf_append, cellsOf_append, cellsOf_one, List.append_assoc]
end
theorem gb_row (w : World) (g : Nat) (cs : Array Value) : w.grownBy (w.setRow g cs) (some g) :=
  ⟨rfl, rfl, rfl, by simp, fun k _ hk => setRow_other w g k _ (fun e => hk (by rw [e]))⟩
end Go.Proofs.YtjcjedolhejnaaaGreatDoor

namespace Go.Proofs.YtjcjedolhejnaaaGreatDoor
open Go.RowKit

theorem cell_row {w : World} {g : Nat} {cur : Array Value} {t : TypeId} {fz : Nat × Nat} (h : w.heap[g]? = some (.cells cur t fz)) (j : Nat) : w.cell? ⟨g, j, none⟩ = cur[j]? := by
  simp [World.cell?, h]
theorem frozen_row {w : World} {g : Nat} {cur : Array Value} {t : TypeId} (h : w.heap[g]? = some (.cells cur t (0, 0))) (j : Nat) : w.frozen? ⟨g, j, none⟩ = false := by
  simp [World.frozen?, h]
theorem shape_row {w : World} {g : Nat} {cur : Array Value} {t : TypeId} {fz : Nat × Nat} (h : w.heap[g]? = some (.cells cur t fz)) : w.shape? g = some (t, cur.size) := by
  simp [World.shape?, h]
section
variable {α : Type} [Flat α]
/-- what stands from i on, read out of the row -/
theorem row_from {cur : Array Value} {xs : List α} {n i : Nat} (hn : xs.length = n) (ht : cur.toList.take (n * Flat.sz α) = cellsOf xs) (hi : i ≤ n) : ∀ (j : Nat) (v : Value), (cellsOf (xs.drop i))[j]? = some v → cur[i * Flat.sz α + j]? = some v := by
  intro j v hv
  have hj : j < (n - i) * Flat.sz α := by
    have := (List.getElem?_eq_some_iff.1 hv).1
    rwa [drop_cells_length hn] at this
  have h1 : cellsOf xs = cellsOf (xs.take i) ++ cellsOf (xs.drop i) := by rw [← cellsOf_append, List.take_append_drop]
  have h2 : (cellsOf (xs.take i)).length = i * Flat.sz α := by rw [cellsOf_length, List.length_take, Nat.min_eq_left (by omega)]
  have e : (n - i) * Flat.sz α = n * Flat.sz α - i * Flat.sz α := Nat.sub_mul _ _ _
  have h3 : (cellsOf xs)[i * Flat.sz α + j]? = some v := by
    rw [h1, List.getElem?_append_right (by omega), h2, Nat.add_sub_cancel_left]; exact hv
  rw [← ht, List.getElem?_take, if_pos (by omega)] at h3
  simpa using h3
theorem row_head {cur : Array Value} {xs : List α} {n i : Nat} (ht : cur.toList.take (n * Flat.sz α) = cellsOf xs) : ∀ (j : Nat) (v : Value), (cellsOf (xs.take i))[j]? = some v → cur[j]? = some v := by
  intro j v hv
  have h1 : cellsOf xs = cellsOf (xs.take i) ++ cellsOf (xs.drop i) := by rw [← cellsOf_append, List.take_append_drop]
  have h3 : (cellsOf xs)[j]? = some v := by rw [h1, List.getElem?_append_left ((List.getElem?_eq_some_iff.1 hv).1)]; exact hv
  have hj := (List.getElem?_eq_some_iff.1 h3).1
  rw [← ht, List.getElem?_take] at h3
  split at h3
  · simpa using h3
  · cases h3
end
/-- A call hands back a slice with one element more, at place i. -/
def RetIns {α : Type} [Flat α] (w : World) (base : Nat) (E : TypeId) (A : Option Addr) (n c : Nat) (ys : List α) (e : Ending) (w' : World) : Prop :=
  ∃ A' c', e = .returned (.slice A' (n + 1) c') ∧ Own w' base E (.slice A' (n + 1) c') ys ∧ w.grownBy w' (Value.ownBlock (.slice A n c))
end Go.Proofs.YtjcjedolhejnaaaGreatDoor

namespace Go.Proofs.YtjcjedolhejnaaaGreatDoor
open Go.RowKit

set_option maxRecDepth 100000 in
set_option maxHeartbeats 4000000 in
theorem insert_end_skill (xs : List Skill) (A : Option Addr) (n c base vb vc : Nat) (y : Skill) (w : World) (hn : n ≤ 1048576) (ho : Own w base 62 (.slice A n c) xs) (hbase : base ≤ w.heap.size) (hvb : w.heap[vb]? = some (.cells (Flat.enc y).toArray 62 (0, 0))) :
    Calls Tryz.prog 38 #[.slice A n c, .int .i64 (n : Int), .slice (some ⟨vb, 0, none⟩) 1 vc] w (RetIns w base 62 A n c (xs ++ [y])) := by
  have hn' := ho.sl.1
  have hy : Sl w (some ⟨vb, 0, none⟩) 1 [y] := ⟨rfl, fun k x hx => by
    have hk : k = 0 := by have := (List.getElem?_eq_some_iff.1 hx).1; simp at this; exact this
    subst hk
    simp at hx; subst hx
    refine ⟨vb, 0, Flat.enc y, rfl, rfl, fun j v hv => ?_⟩
    rw [cell_row hvb]
    simpa using hv⟩
  obtain ⟨A', c', w', hr, ho', hg⟩ := run_appN (P := Tryz.prog) 24 24 62 el_skill (d := vc) ho hbase hy (by omega)
  have HO := Lib.hid ho'
  have HG := Lib.hid hg
  obtain ⟨hcap, hcm⟩ := ho.cap
  unfold maxLen at hcm
  have hAn : A = none → n = 0 := fun e => by subst e; exact ho.sl.none_len.1
  clear ho ho' hg hy hn'
  cases A with
  | none =>
    obtain rfl : n = 0 := hAn rfl
    clear hAn
    go_enter Tryz.func38, Tryz.ntmps38
    go_wp2_with ((at_builtin; refine Lib.wpList_append_run _ rfl _ _ _ _ rfl _ _ rfl rfl _ _ hr ?_))
    go_ret
    exact ⟨A', c', rfl, HO.out, HG.out⟩
  | some ad =>
    clear hAn
    go_enter Tryz.func38, Tryz.ntmps38
    go_wp2_with ((at_builtin; refine Lib.wpList_append_run _ rfl _ _ _ _ rfl _ _ rfl rfl _ _ hr ?_))
    all_goals (go_ret; exact ⟨A', c', rfl, HO.out, HG.out⟩)
set_option maxRecDepth 100000 in
set_option maxHeartbeats 4000000 in
theorem insert_room_skill (xs : List Skill) (g n c i base vb vc : Nat) (y : Skill) (w : World) (hn : n ≤ 1048576) (hi : i < n) (hroom : n + 1 ≤ c) (ho : Own w base 62 (.slice (some ⟨g, 0, none⟩) n c) xs) (hvb : w.heap[vb]? = some (.cells (Flat.enc y).toArray 62 (0, 0))) (hgv : vb ≠ g) :
    Calls Tryz.prog 38 #[.slice (some ⟨g, 0, none⟩) n c, .int .i64 (i : Int), .slice (some ⟨vb, 0, none⟩) 1 vc] w (RetIns w base 62 (some ⟨g, 0, none⟩) n c (insAt xs i y)) := by
  obtain ⟨cur, hg, hxl, hbg, hnc, hcm, hcs, htk⟩ := ho.row
  have hsz : Flat.sz Skill = 3 := rfl
  have hl1 : cur.toList.length = c * Flat.sz Skill := by rw [Array.length_toList, hcs]
  have hul := upRow_length (xs := xs) (i := i) hxl (by omega) hroom hl1
  have hll := layRow_length (cur := upRow cur.toList xs i) (y := y) (i := i) (c := c) (by omega) hul
  have hfin := shift_row (i := i) y hxl (by omega) hroom hl1 htk
  have hel : (Flat.enc y).length = 3 := Flat.len y
  have hdl := drop_cells_length (xs := xs) (i := i) hxl
  have hinf : (Tryz.prog.info? 62).map (·.size) = some 3 := by kernel_rfl
  have hov : ∀ lb cb, (callFunc 76 #[.slice (some ⟨vb, 0, none⟩) 1 vc, .slice (some ⟨g, (i + 1) * 3, none⟩) lb cb]).run Tryz.prog w = .ok (.value (.bool false)) w := fun lb cb => by
    rw [run_callFunc_extern Tryz.func76 (by kernel_rfl) (by kernel_rfl) (by kernel_rfl) (e := Extern.SlicesOverlaps.overlaps #[24, 24] #[4]) (by kernel_rfl),
      Lib.run_overlaps_apart w 24 4 62 Tryz.underlying24 3 Tryz.sizeOf62 ⟨vb, 0, none⟩ ⟨g, (i + 1) * 3, none⟩ 1 vc lb cb hgv _ _ _ _ (shape_row hvb) (shape_row hg) (by rw [hcs, hsz]; omega) (frozen_row hvb _) (frozen_row hvb _)]
    rfl
  have hcp1 : ∀ (W : World), W.heap = w.heap → ∀ ty dl dc sl sc, min sl dl = n - i → (Builtin.copy_ #[24, 24] ty #[.slice (some ⟨g, (i + 1) * 3, none⟩) dl dc, .slice (some ⟨g, i * 3, none⟩) sl sc]).run Tryz.prog W = .ok (goInt (Nat.min sl dl)) (W.setRow g (upRow cur.toList xs i).toArray) := by
    intro W hW ty dl dc sl sc hm
    have hgW : W.heap[g]? = some (.cells cur 62 (0, 0)) := by rw [hW]; exact hg
    refine run_copy_row W _ _ ty 62 _ 3 g ((i + 1) * 3) dl dc ⟨g, i * 3, none⟩ sl sc (cellsOf (xs.drop i)) cur Tryz.underlying24 hinf ?_ ?_ hgW ?_ (cellsOf_oneCell _)
    · rw [hdl]; show _ = min sl dl * 3; rw [hm]; rfl
    · intro j v hv
      rw [addr_add, cell_row hgW]
      exact row_from hxl htk (by omega) j v hv
    · rw [hdl, hcs, hsz]; omega
  have hcp2 : ∀ (W : World), W.heap = (w.setRow g (upRow cur.toList xs i).toArray).heap → ∀ ty dl dc, 1 ≤ dl → (Builtin.copy_ #[24, 24] ty #[.slice (some ⟨g, i * 3, none⟩) dl dc, .slice (some ⟨vb, 0, none⟩) 1 vc]).run Tryz.prog W = .ok (goInt (Nat.min 1 dl)) (W.setRow g (layRow (upRow cur.toList xs i) i y).toArray) := by
    intro W hW ty dl dc hm
    have hgW : W.heap[g]? = some (.cells (upRow cur.toList xs i).toArray 62 (0, 0)) := by rw [hW]; exact setRow_heap w g _ _ _ _ hg
    have hvW : W.heap[vb]? = some (.cells (Flat.enc y).toArray 62 (0, 0)) := by rw [hW, setRow_other w g vb _ hgv]; exact hvb
    have h := run_copy_row (P := Tryz.prog) W 24 24 ty 62 62 3 g (i * 3) dl dc ⟨vb, 0, none⟩ 1 vc (Flat.enc y) (upRow cur.toList xs i).toArray Tryz.underlying24 hinf (by rw [hel]; show _ = min 1 dl * 3; omega)
      (by intro j v hv; rw [addr_add, cell_row hvW, Nat.zero_add]; simpa using hv) hgW (by rw [hel, List.size_toArray, hul, hsz]; omega) (Flat.one y)
    exact h
  have HF := Lib.hid hfin
  have HOV := Lib.hid hov
  have HC1 := Lib.hid hcp1
  have HC2 := Lib.hid hcp2
  have HLL := Lib.hid hll
  have HG := Lib.hid hg
  have HX := Lib.hid hxl
  have HCM := Lib.hid hcm
  unfold maxLen at hcm
  have hbn : base ≤ g := hbg
  have w1 : IntKind.i64.wrap ((i : Int) + 1) = (i : Int) + 1 := IntWalk.i64_in _ (by omega)
  have w2 : ((i : Int) + 1).toNat = i + 1 := by omega
  have g1 : (0 : Int) ≤ (i : Int) + 1 := by omega
  have g2 : (i : Int) + 1 ≤ (n : Int) + 1 := by omega
  have g3 : (i : Int) ≤ (n : Int) + 1 := by omega
  have k1 : ¬ (c = i + 1) := by omega
  have k2 : ¬ (c = i) := by omega
  have k3 : ((i : Int) == (n : Int)) = false := by simp; omega
  clear hfin hov hcp1 hcp2 hll hg hxl hul hl1 hcs htk hdl hel hbg ho hvb
  go_enter Tryz.func38, Tryz.ntmps38
  go_wp2_with (simp only [HOV.out])
  have e1 := HC1.out w.drew rfl 3 (n - i) (c - (i + 1)) (n + 1 - i) (c - i) (by omega)
  have e2 := HC2.out (w.drew.setRow g (upRow cur.toList xs i).toArray) rfl 3 (n + 1 - i) (c - i) (by omega)
  go_region
  all_goals
    go_wp2
    go_ret
    refine ⟨some ⟨g, 0, none⟩, c, rfl, Own.of_row (cur := (layRow (upRow cur.toList xs i) i y).toArray) ?_ ?_ hbn hroom HCM.out ?_ ?_, ?_⟩
    · exact setRow_heap _ g _ _ _ _ (setRow_heap _ g _ _ _ _ HG.out)
    · rw [insAt_length y (by have := HX.out; omega), HX.out]
    · rw [List.size_toArray]; exact HLL.out
    · have := HF.out; simpa using this
    · refine ⟨rfl, rfl, rfl, by simp, fun k _ hk => ?_⟩
      have hkg : k ≠ g := fun e => hk (by rw [e]; rfl)
      rw [setRow_other _ g k _ hkg, setRow_other _ g k _ hkg]; rfl
set_option maxRecDepth 100000 in
set_option maxHeartbeats 4000000 in
theorem insert_grow_skill (xs : List Skill) (g n c i base vb vc : Nat) (y : Skill) (w : World) (hn : n ≤ 1048576) (hi : i < n) (hroom : c < n + 1) (ho : Own w base 62 (.slice (some ⟨g, 0, none⟩) n c) xs) (hbase : base ≤ w.heap.size) (hvb : w.heap[vb]? = some (.cells (Flat.enc y).toArray 62 (0, 0))) :
    Calls Tryz.prog 38 #[.slice (some ⟨g, 0, none⟩) n c, .int .i64 (i : Int), .slice (some ⟨vb, 0, none⟩) 1 vc] w (RetIns w base 62 (some ⟨g, 0, none⟩) n c (insAt xs i y)) := by
  obtain ⟨cur, hg, hxl, hbg, hnc, hcm, hcs, htk⟩ := ho.row
  obtain ⟨ti, z, h1, h2, h3, h4, h5, h6⟩ := ez_skill
  have hsz : Flat.sz Skill = 3 := rfl
  have hel : (Flat.enc y).length = 3 := Flat.len y
  have hdl := drop_cells_length (xs := xs) (i := i) hxl
  have hinf : (Tryz.prog.info? 62).map (·.size) = some 3 := by kernel_rfl
  have hzs : z.cells.size = 3 := by rw [← Array.length_toList, h6]; exact Flat.len _
  have hgw : g < w.heap.size := (Array.getElem?_eq_some_iff.1 hg).1
  have hvw : vb < w.heap.size := (Array.getElem?_eq_some_iff.1 hvb).1
  have htl : (cellsOf (xs.take i)).length = i * 3 := by rw [cellsOf_length, List.length_take, Nat.min_eq_left (by omega)]; rfl
  have hold : (Builtin.firstCells ti.size i (.slice (some ⟨g, 0, none⟩) i c)).run Tryz.prog w.drew = .ok (cellsOf (xs.take i)).toArray w.drew := by
    rw [h4, hsz]
    exact run_firstCells_some w.drew 3 i ⟨g, 0, none⟩ i c (cellsOf (xs.take i)) htl (fun j v hj => by
      rw [addr_add, Nat.zero_add]
      exact (cell_row hg j).trans (row_head htk j v hj))
  obtain ⟨G, hG⟩ : ∃ G, G = grownCap w (n + 1) c 62 := ⟨_, rfl⟩
  have hGn : n + 1 ≤ G := by rw [hG]; exact grownCap_ge w _ _ _
  have hGM : G ≤ maxLen := by rw [hG]; exact grownCap_le_maxLen w (n + 1) c _ (by unfold maxLen; omega)
  obtain ⟨ROW, hROW⟩ : ∃ ROW : Array Value, ROW = (cellsOf (xs.take i)).toArray ++ Builtin.zeroCells z.cells (n + 1 - i) ++ Builtin.zeroCells z.cells (G - (n + 1)) := ⟨_, rfl⟩
  have hik : i + (n + 1 - i) = n + 1 := by omega
  have hrz : ∀ ty, (Builtin.append_ #[24, 3] ty #[.slice (some ⟨g, 0, none⟩) i c, .int .i64 ((n : Int) + 1 - (i : Int))]).run Tryz.prog w = .ok (.slice (some ⟨w.heap.size, 0, none⟩) (n + 1) G) (w.drew.alloc (.cells ROW 62)) := fun ty => by
    have hb1 : (n + 1) * ti.bytes ≤ (n + 1) * 256 := Nat.mul_le_mul_left _ h5
    have hb2 : (n + 1 - i) * ti.bytes ≤ (n + 1) * ti.bytes := Nat.mul_le_mul_right _ (by omega)
    have h := Lib.run_append_grow_zeros (P := Tryz.prog) w 24 3 ty 62 ti z .i64 .i64 h1 Tryz.underlying3 h2 h3 (some ⟨g, 0, none⟩) i c (cellsOf (xs.take i)) hold (n + 1 - i) (by omega) (by rw [h4, hsz]; omega) (by omega) (by omega) (by omega) (by rw [hik]; exact growslice_fits hroom (by omega))
    rw [hik, ← hG, ← hROW] at h
    have hkk : (n : Int) + 1 - (i : Int) = ((n + 1 - i : Nat) : Int) := by omega
    rw [hkk]
    exact h
  have hRl : ROW.toList.length = G * Flat.sz Skill := by
    rw [Array.length_toList, hROW, Array.size_append, Array.size_append, size_zeroCells, size_zeroCells, hzs, List.size_toArray, htl, hsz]; omega
  have hRt : ROW.toList.take (i * Flat.sz Skill) = cellsOf (xs.take i) := by
    rw [hROW, Array.toList_append, Array.toList_append, List.append_assoc]
    exact List.take_left' htl
  have hll := layRow_length (y := y) (i := i) (by omega : i + 1 ≤ G) hRl
  have hul := upRow_length (xs := xs) (i := i) hxl (by omega) hGn hll
  have hfin := grow_row (i := i) y hxl (by omega) hGn hRl hRt
  have hgN : (w.alloc (.cells ROW 62)).heap[w.heap.size]? = some (.cells ROW 62 (0, 0)) := by
    show (w.heap.push _)[w.heap.size]? = _
    simp
  have hgO : ∀ k, k < w.heap.size → (w.alloc (.cells ROW 62)).heap[k]? = w.heap[k]? := fun k hk => by
    show (w.heap.push _)[k]? = _
    rw [Array.getElem?_push, if_neg (Nat.ne_of_lt hk)]
  have hcpA : ∀ (W : World), W.heap = (w.alloc (.cells ROW 62)).heap → ∀ ty dl dc, 1 ≤ dl → (Builtin.copy_ #[24, 24] ty #[.slice (some ⟨w.heap.size, i * 3, none⟩) dl dc, .slice (some ⟨vb, 0, none⟩) 1 vc]).run Tryz.prog W = .ok (goInt (Nat.min 1 dl)) (W.setRow w.heap.size (layRow ROW.toList i y).toArray) := by
    intro W hW ty dl dc hm
    have hgW : W.heap[w.heap.size]? = some (.cells ROW 62 (0, 0)) := by rw [hW]; exact hgN
    have hvW : W.heap[vb]? = some (.cells (Flat.enc y).toArray 62 (0, 0)) := by rw [hW, hgO vb hvw]; exact hvb
    exact run_copy_row (P := Tryz.prog) W 24 24 ty 62 62 3 w.heap.size (i * 3) dl dc ⟨vb, 0, none⟩ 1 vc (Flat.enc y) ROW Tryz.underlying24 hinf (by rw [hel]; show _ = min 1 dl * 3; omega)
      (by intro j v hv; rw [addr_add, cell_row hvW, Nat.zero_add]; simpa using hv) hgW (by rw [hel, ← Array.length_toList, hRl, hsz]; omega) (Flat.one y)
  have hcpB : ∀ (W : World), W.heap = ((w.alloc (.cells ROW 62)).setRow w.heap.size (layRow ROW.toList i y).toArray).heap → ∀ ty dl dc sl sc, min sl dl = n - i → (Builtin.copy_ #[24, 24] ty #[.slice (some ⟨w.heap.size, (i + 1) * 3, none⟩) dl dc, .slice (some ⟨g, i * 3, none⟩) sl sc]).run Tryz.prog W = .ok (goInt (Nat.min sl dl)) (W.setRow w.heap.size (upRow (layRow ROW.toList i y) xs i).toArray) := by
    intro W hW ty dl dc sl sc hm
    have hNW : W.heap[w.heap.size]? = some (.cells (layRow ROW.toList i y).toArray 62 (0, 0)) := by rw [hW]; exact setRow_heap _ _ _ _ _ _ hgN
    have hgW : W.heap[g]? = some (.cells cur 62 (0, 0)) := by rw [hW, setRow_other _ _ g _ (by omega), hgO g hgw]; exact hg
    exact run_copy_row (P := Tryz.prog) W 24 24 ty 62 62 3 w.heap.size ((i + 1) * 3) dl dc ⟨g, i * 3, none⟩ sl sc (cellsOf (xs.drop i)) (layRow ROW.toList i y).toArray Tryz.underlying24 hinf (by rw [hdl]; show _ = min sl dl * 3; rw [hm]; rfl)
      (by intro j v hv; rw [addr_add, cell_row hgW]; exact row_from hxl htk (by omega) j v hv) hNW (by rw [hdl, List.size_toArray, hll, hsz]; omega) (cellsOf_oneCell _)
  have HF := Lib.hid hfin
  have HGN := Lib.hid hgN
  have HGO := Lib.hid hgO
  have HCA := Lib.hid hcpA
  have HCB := Lib.hid hcpB
  have HUL := Lib.hid hul
  have HX := Lib.hid hxl
  have HGM := Lib.hid hGM
  unfold maxLen at hGM hcm
  have w1 : IntKind.i64.wrap ((i : Int) + 1) = (i : Int) + 1 := IntWalk.i64_in _ (by omega)
  have w2 : ((i : Int) + 1).toNat = i + 1 := by omega
  have g1 : (0 : Int) ≤ (i : Int) + 1 := by omega
  have g2 : (i : Int) + 1 ≤ (n : Int) + 1 := by omega
  have g3 : (i : Int) ≤ (n : Int) + 1 := by omega
  have k1 : ¬ (G = i + 1) := by omega
  have k2 : ¬ (G = i) := by omega
  have k4 : ¬ (c = i) := by omega
  have k3 : ((i : Int) == (n : Int)) = false := by simp; omega
  have hgn2 : ¬ (g = w.heap.size) := by omega
  clear hgN hgO hfin hcpA hcpB hll hul hg hxl hcs htk hdl hel hbg ho hvb hRl hRt hROW hG hold htl hzs h1 h2 h3 h4 h5 h6 hik
  go_enter Tryz.func38, Tryz.ntmps38
  have e1 := HCA.out (w.alloc (.cells ROW 62)).drew rfl 3 (n + 1 - i) (G - i) (by omega)
  have e2 := HCB.out ((w.alloc (.cells ROW 62)).drew.setRow w.heap.size (layRow ROW.toList i y).toArray).drew rfl 3 (n - i) (G - (i + 1)) (n - i) (c - i) (by omega)
  go_wp2_with ((at_builtin; refine Lib.wpList_append_run _ rfl _ _ _ _ rfl _ _ rfl rfl _ _ (hrz _) ?_))
  go_region
  all_goals
    go_wp2
    go_ret
    refine ⟨some ⟨w.heap.size, 0, none⟩, G, rfl, Own.of_row (cur := (upRow (layRow ROW.toList i y) xs i).toArray) ?_ ?_ hbase hGn HGM.out ?_ ?_, ?_⟩
    · exact setRow_heap _ _ _ _ _ _ (setRow_heap _ _ _ _ _ _ HGN.out)
    · rw [insAt_length y (by have := HX.out; omega), HX.out]
    · rw [List.size_toArray]; exact HUL.out
    · have := HF.out; simpa using this
    · refine ⟨rfl, rfl, rfl, by simp, fun k hk _ => ?_⟩
      have hkg : k ≠ w.heap.size := by omega
      rw [setRow_other _ _ k _ hkg]
      exact (setRow_other _ _ k _ hkg).trans (HGO.out k hk)
theorem insert_skill (xs : List Skill) (A : Option Addr) (n c i base vb vc : Nat) (y : Skill) (w : World) (hn : n ≤ 1048576) (hi : i ≤ n) (ho : Own w base 62 (.slice A n c) xs) (hbase : base ≤ w.heap.size) (hvb : w.heap[vb]? = some (.cells (Flat.enc y).toArray 62 (0, 0))) (hgv : ∀ g, A = some ⟨g, 0, none⟩ → vb ≠ g) :
    Calls Tryz.prog 38 #[.slice A n c, .int .i64 (i : Int), .slice (some ⟨vb, 0, none⟩) 1 vc] w (RetIns w base 62 A n c (insAt xs i y)) := by
  by_cases he : i = n
  · subst he
    have h := insert_end_skill xs A i c base vb vc y w hn ho hbase hvb
    have hl := ho.sl.1
    rw [← hl] at hi ⊢
    rw [insAt_end, hl]
    exact h
  · rcases ho.2 with ⟨hv, h0⟩ | ⟨g, cap, cur, hv, _⟩
    · have hl := ho.sl.1
      omega
    · injection hv with e1 e2 e3
      subst e1
      by_cases hroom : n + 1 ≤ c
      · exact insert_room_skill xs g n c i base vb vc y w hn (by omega) hroom ho hvb (hgv g rfl)
      · exact insert_grow_skill xs g n c i base vb vc y w hn (by omega) (by omega) ho hbase hvb

end Go.Proofs.YtjcjedolhejnaaaGreatDoor

namespace Go.Proofs.YtjcjedolhejnaaaGreatDoor
open Go.RowKit

/-- Where the search ends: i things lie ahead of the target, the others do not. -/
def RetSearch (w : World) (n : Nat) (f : Nat → Int) (e : Ending) (w' : World) : Prop :=
  ∃ i : Nat, e = .returned (.tuple #[.int .i64 i, .bool (decide (i < n) && decide (f i = 0))]) ∧ i ≤ n ∧ Hid ((∀ j, j < i → f j < 0) ∧ (∀ j, i ≤ j → j < n → 0 ≤ f j)) ∧ Below w.heap.size w w'
set_option maxHeartbeats 2000000 in
theorem searchFunc_skill (xs : List Skill) (A : Option Addr) (n c : Nat) (t : Skill) (g : FuncId) (caps : Array Value) (cf : Skill → Int) (w : World) (hn : n ≤ 1048576) (hs : Sl w A n xs) (hen : Enters Tryz.prog g)
    (hm : ∀ a b, a ≤ b → b < n → cf (nth xs b) < 0 → cf (nth xs a) < 0)
    (hp : ∀ x, x ∈ xs → ∀ W : World, Calls Tryz.prog g (#[SkillVal x, SkillVal t] ++ caps) W fun e V => e = .returned (.int .i64 (cf x)) ∧ Below W.heap.size W V) :
    Calls Tryz.prog 35 #[.slice A n c, SkillVal t, .func (.func g) #[] caps] w (RetSearch w n (fun j => cf (nth xs j))) := by
  have HL := Lib.hid hs.1
  have HP := Lib.hid hp
  have HM := Lib.hid hm
  clear hp hm
  have hcf : ∀ (args : Array Value) (W : World), (callFunc g args).run Tryz.prog W = .ok (.enter g args) W := hen
  clear hen
  unfold SkillVal
  go_enter Tryz.func35, Tryz.ntmps35
  go_wp2
  go_loopw [9, 10] (fun u v wr => ∃ lo hi : Nat, lo ≤ hi ∧ hi ≤ n ∧ u = .int .i64 lo ∧ v = .int .i64 hi ∧ Below w.heap.size w wr ∧ Hid ((∀ j, j < lo → cf (nth xs j) < 0) ∧ (∀ j, hi ≤ j → j < n → 0 ≤ cf (nth xs j)))
    ∧ wr.cell? ⟨w.heap.size, 0, none⟩ = some (.string t.Person) ∧ wr.cell? ⟨w.heap.size, 1, none⟩ = some (.int .i64 t.Kind) ∧ wr.cell? ⟨w.heap.size, 2, none⟩ = some (.int .i64 t.Until)) (fun u v _ => (intOf v).toNat - (intOf u).toNat)
  case atStart => exact ⟨0, n, Nat.zero_le _, Nat.le_refl _, rfl, rfl, bl_alloc (bl_refl _) _, ⟨fun j hj => absurd hj (by omega), fun j h1 h2 => absurd h1 (by omega)⟩, by go_simp, by go_simp, by go_simp⟩
  case round =>
    obtain ⟨lo, hi, hlh, hin, rfl, rfl, hb, hg, t0, t1, t2⟩ := hrel
    have htz : w.heap.size < wr.heap.size := World.block_lt_of_cell? _ _ t0
    by_cases hlt : lo < hi
    · have hmn : (lo + hi) / 2 < n := by omega
      obtain ⟨b, o, rfl, hbz, c0, c1, c2⟩ := (hs.below hb).skill hmn
      clear hs
      generalize hmid : (lo + hi) / 2 = mid at *
      have hmem : Hid (nth xs mid ∈ xs) := nth_mem (by rw [HL.out]; exact hmn)
      have hmi : ((lo : Int) + (hi : Int)) / 2 = (mid : Int) := by omega
      have hml : lo ≤ mid := by omega
      have hmh : mid < hi := by omega
      by_cases hc : cf (nth xs mid) < 0
      · have HC := Lib.hid hc
        have hc' : decide (cf (nth xs mid) < 0) = true := by simpa using hc
        go_wp2_with fail
        refine wp_region_grow (by kernel_rfl) (by kernel_rfl) (fun X hX => ?_)
        have hbX : Below wr.heap.size wr X := by rw [hX]; exact bl_refl _
        have q0 := Gw.cell (cell_later hbX c0)
        have q1 := Gw.cell (cell_later hbX c1)
        have q2 := Gw.cell (cell_later hbX c2)
        have s0 := Gw.cell (cell_later hbX t0)
        have s1 := Gw.cell (cell_later hbX t1)
        have s2 := Gw.cell (cell_later hbX t2)
        have HX := Lib.hid hX
        clear hX c0 c1 c2
        repeat (go_big_quiet_step (exact Calls.grow_of (HP.out (nth xs mid) hmem.out _)))
        refine wpGrow_nil (fun V hV => ?_)
        have hV := bl_trans hbX hV
        have hbV := bl_trans hb hV
        clear q0 q1 q2 s0 s1 s2
        go_wp2
        go_roundw
        case rel => exact ⟨mid + 1, hi, by omega, hin, by go_num, rfl, hbV, ⟨fun j hj => HM.out j mid (by omega) hmn HC.out, hg.2⟩, cell_later hV t0, cell_later hV t1, cell_later hV t2⟩
        case measure => simp [intOf]; omega
      · have HC := Lib.hid hc
        have hc' : decide (cf (nth xs mid) < 0) = false := by simpa using hc
        go_wp2_with fail
        refine wp_region_grow (by kernel_rfl) (by kernel_rfl) (fun X hX => ?_)
        have hbX : Below wr.heap.size wr X := by rw [hX]; exact bl_refl _
        have q0 := Gw.cell (cell_later hbX c0)
        have q1 := Gw.cell (cell_later hbX c1)
        have q2 := Gw.cell (cell_later hbX c2)
        have s0 := Gw.cell (cell_later hbX t0)
        have s1 := Gw.cell (cell_later hbX t1)
        have s2 := Gw.cell (cell_later hbX t2)
        have HX := Lib.hid hX
        clear hX c0 c1 c2
        repeat (go_big_quiet_step (exact Calls.grow_of (HP.out (nth xs mid) hmem.out _)))
        refine wpGrow_nil (fun V hV => ?_)
        have hV := bl_trans hbX hV
        have hbV := bl_trans hb hV
        clear q0 q1 q2 s0 s1 s2
        go_wp2
        go_roundw
        case rel => exact ⟨lo, mid, by omega, by omega, rfl, by go_num, hbV, ⟨hg.1, fun j h1 h2 => Int.not_lt.1 (fun h => absurd (HM.out mid j h1 h2 h) (by have := HC.out; omega))⟩, cell_later hV t0, cell_later hV t1, cell_later hV t2⟩
        case measure => simp [intOf]; omega
    · obtain rfl : lo = hi := by omega
      by_cases hl : lo < n
      · obtain ⟨b, o, rfl, hbz, c0, c1, c2⟩ := (hs.below hb).skill hl
        clear hs
        have hd : decide ((lo : Int) < n) = true := by simpa using hl
        have hmem : Hid (nth xs lo ∈ xs) := nth_mem (by rw [HL.out]; exact hl)
        go_wp2_with fail
        refine wp_region_grow (by kernel_rfl) (by kernel_rfl) (fun X hX => ?_)
        have hbX : Below wr.heap.size wr X := by rw [hX]; exact bl_refl _
        have q0 := Gw.cell (cell_later hbX c0)
        have q1 := Gw.cell (cell_later hbX c1)
        have q2 := Gw.cell (cell_later hbX c2)
        have s0 := Gw.cell (cell_later hbX t0)
        have s1 := Gw.cell (cell_later hbX t1)
        have s2 := Gw.cell (cell_later hbX t2)
        have HX := Lib.hid hX
        clear hX c0 c1 c2
        repeat (go_big_quiet_step (exact Calls.grow_of (HP.out (nth xs lo) hmem.out _)))
        refine wpGrow_nil (fun V hV => ?_)
        have hV := bl_trans hbX hV
        have hbV := bl_trans hb hV
        clear q0 q1 q2 s0 s1 s2
        go_wp2
        go_ret2
        refine ⟨lo, ?_, hin, hg, hbV⟩
        simp [hl]
        try rfl
      · have hd : decide ((lo : Int) < n) = false := by simp; omega
        go_wp2_with fail
        refine wp_region_grow (by kernel_rfl) (by kernel_rfl) (fun X hX => ?_)
        have hbX : Below wr.heap.size wr X := by rw [hX]; exact bl_refl _
        have HX := Lib.hid hX
        clear hX hs t0 t1 t2
        repeat (go_big_quiet_step (fail))
        refine wpGrow_nil (fun V hV => ?_)
        have hbV := bl_trans hb (bl_trans hbX hV)
        go_wp2
        go_ret2
        refine ⟨lo, ?_, hin, hg, hbV⟩
        simp [hl]

end Go.Proofs.YtjcjedolhejnaaaGreatDoor

namespace Go.Proofs.YtjcjedolhejnaaaGreatDoor
open Go.RowKit

theorem enters_cmpSk : Enters Tryz.prog 36 := enters_of Tryz.func36 (by kernel_rfl) (by kernel_rfl)
theorem not_sk {x y : Skill} (h : 0 ≤ cmpSk x y) : skLess x y = false := by
  cases h2 : skLess x y with
  | false => rfl
  | true => have := (cmpSk_lt x y).2 h2; omega
theorem nzero_sk {x y : Skill} (h : 0 ≤ cmpSk x y) (hz : ¬ cmpSk x y = 0) : skLess y x = true := by
  cases h2 : skLess y x with
  | true => rfl
  | false => obtain ⟨e1, e2⟩ := sk_same (not_sk h) h2; exact absurd (cmpSk_self e1 e2) hz
theorem ins_eq {α : Type} (xs : List α) (k : Nat) (y : α) : insAt xs k y = xs.take k ++ [y] ++ xs.drop k := by unfold insAt; rw [List.append_assoc]; rfl
theorem set_eq {α : Type} {xs : List α} {k : Nat} (y : α) (h : k < xs.length) : xs.set k y = xs.take k ++ [y] ++ xs.drop (k + 1) := by rw [List.set_eq_take_append_cons_drop, if_pos h, List.append_assoc]; rfl
set_option maxRecDepth 100000 in
set_option maxHeartbeats 8000000 in
theorem implRenewSkill_any (xs : List Skill) (y : Skill) (A : Option Addr) (n c : Nat) (w : World) (hz : y.Person.size ≤ maxLen) (hn : (n : Int) ≤ 9223372036854775807) (hs : Sl w A n xs) (hv : ∀ x, x ∈ xs → x.Person.size ≤ maxLen) :
    Calls Tryz.prog 6 #[.slice A n c, .string y.Person, .int .i64 y.Kind, .int .i64 y.Until] w (RetOwn2 w 62 (renF xs y)) := by
  have HV := Lib.hid hv
  have HL := Lib.hid hs.1
  clear hv
  go_enter Tryz.func6, Tryz.ntmps6
  go_wp2_with fail
  refine (areSkills_any xs _ _ _ _ hn hs HV.out).mono ?_
  rintro e V1 ⟨rfl, hb1⟩
  cases h0 : skillsB xs
  · have Hz := Lib.hid (renF_no (l := xs) (x := y) (by rw [h0]; rfl))
    clear h0
    go_wp2
    go_ret2
    exact retOwn2_mk Hz.out (Own.nil _ _ _) hb1
  have H0 := Lib.hid h0
  clear h0
  go_wp2_with fail
  refine (isSkill_any y _ hz).mono ?_
  rintro e V2 ⟨rfl, hb2⟩
  have hk2 := bl_trans hb1 hb2
  clear hb1 hb2
  cases h1 : skillB y
  · have Hz := Lib.hid (renF_no (l := xs) (x := y) (by rw [h1, Bool.and_false]))
    clear h1
    go_wp2
    go_ret2
    exact retOwn2_mk Hz.out (Own.nil _ _ _) hk2
  have H1 := Lib.hid h1
  clear h1
  have hn2 : n ≤ 24 := by have := skillsB_len H0.out; have := HL.out; omega
  go_wp2_with fail
  refine (searchFunc_skill xs A n c y _ #[] (fun x => cmpSk x y) _ (by omega) (hs.below hk2) enters_cmpSk (skills_mono H0.out y HL.out) (fun x _ W => compareSkills_any x y W)).mono ?_
  rintro e V3 ⟨k, rfl, hkq, hg, hb3⟩
  have hk3 := bl_trans hk2 hb3
  clear hb3
  have hg1 : Hid (∀ j, j < k → skLess (nth xs j) y = true) := fun j hj => (cmpSk_lt _ _).1 (hg.1 j hj)
  have hg2 : Hid (k < n → skLess (nth xs k) y = false) := fun h => not_sk (hg.2 k (Nat.le_refl _) h)
  go_wp2_with fail
  refine (clone_skill xs _ _ _ _ (by omega) (hs.below hk3)).mono ?_
  rintro e V4 ⟨A4, c4, rfl, ho4, hb4⟩
  have hl4 := HL.out
  rw [hl4] at ho4 ⊢
  have hk4 := bl_trans hk3 hb4
  have ho := ho4.mono hk3.size
  clear ho4 hb4 hs
  by_cases hin2 : k < n ∧ cmpSk (nth xs k) y = 0
  · obtain ⟨hkn, hcz⟩ := hin2
    obtain ⟨q1, q2⟩ := cmpSk_zero hcz
    obtain ⟨e1, e2⟩ := sk_same q1 q2
    have Q1 := Lib.hid q1
    have Q2 := Lib.hid q2
    have hfd : (decide (k < n) && decide (cmpSk (nth xs k) y = 0)) = true := by simp [hkn, hcz]
    rw [hfd]
    clear hcz hfd hg q1 q2
    obtain ⟨g, rfl⟩ := ho.form (by omega)
    have d2 : V4.cell? ⟨g, k * 3 + 2, none⟩ = some (.int .i64 (nth xs k).Until) := ho.cellAt hkn 2 _ rfl
    have f2 := ho.frozenAt (k * 3 + 2)
    have hgb : w.heap.size ≤ g := (ho.lt g rfl).1
    by_cases hlate : y.Until < (nth xs k).Until
    · have Hz := Lib.hid (renF_late H0.out H1.out hl4 hkn hg1.out Q1.out Q2.out hlate)
      have hd : decide ((nth xs k).Until > y.Until) = true := by simpa using hlate
      clear ho
      go_wp2
      go_ret2
      exact retOwn2_mk Hz.out (Own.nil _ _ _) hk4
    · have Hz : Hid (renF xs y = (xs.set k y, true)) := by rw [Hid, renF_same H0.out H1.out hl4 hkn hg1.out Q1.out Q2.out hlate, set_eq y (by omega)]
      have hd : decide ((nth xs k).Until > y.Until) = false := by simpa using hlate
      have HO : Hid (Own (V4.setCell ⟨g, k * 3 + 2, none⟩ (.int .i64 y.Until)) w.heap.size 62 (.slice (some ⟨g, 0, none⟩) n c4) (xs.set k y)) := by
        refine ho.put1 hkn 2 (by decide) ?_
        show [Value.string y.Person, Value.int .i64 y.Kind, Value.int .i64 y.Until] = _
        rw [← e1, ← e2]; rfl
      clear ho e1 e2
      go_wp2
      go_ret2
      exact retOwn2_mk Hz.out HO.out (bl_set hk4 hgb _)
  · have hg3 : Hid (k < n → skLess y (nth xs k) = true) := fun h => nzero_sk (hg.2 k (Nat.le_refl _) h) (fun hz => hin2 ⟨h, hz⟩)
    have hfd : (decide (k < n) && decide (cmpSk (nth xs k) y = 0)) = false := by
      rw [Bool.and_eq_false_iff, decide_eq_false_iff_not, decide_eq_false_iff_not]
      by_cases h : k < n
      · exact .inr (fun hz => hin2 ⟨h, hz⟩)
      · exact .inl h
    rw [hfd]
    clear hfd hg hin2
    by_cases h24 : n = 24
    · have Hz := Lib.hid (renF_full H0.out H1.out hl4 hkq hg1.out hg2.out hg3.out h24)
      have hd : ((n : Int) == 24) = true := by simp [h24]
      clear h24
      go_wp2
      go_ret2
      exact retOwn2_mk Hz.out (Own.nil _ _ _) hk4
    · have Hz : Hid (renF xs y = (insAt xs k y, true)) := by rw [Hid, renF_new H0.out H1.out hl4 hkq hg1.out hg2.out hg3.out h24, ins_eq]
      have hd : ((n : Int) == 24) = false := by simp; omega
      go_wp2_with fail
      refine (insert_skill xs A4 n c4 k w.heap.size _ _ y _ (by omega) hkq (ho.alloc _) (by have := hk4.size; simp only [World.size_alloc]; omega) (by simp only [World.alloc, Array.getElem?_push_size]; rfl) (fun g hgA hgv => ?_)).mono ?_
      focus (have := (ho.lt g (by rw [hgA]; rfl)).2; omega)
      rintro e V5 ⟨A5, c5, rfl, ho5, hg5⟩
      have hk5 := bl_grown (bl_alloc hk4 _) hg5 (fun k hk => (ho.lt k hk).1)
      clear hg5 ho
      go_wp2
      go_ret2
      exact retOwn2_mk Hz.out ho5 hk5

end Go.Proofs.YtjcjedolhejnaaaGreatDoor

namespace Go.Proofs.YtjcjedolhejnaaaGreatDoor
open Go.RowKit

def renX (xs : List Skill) (p : ByteArray) (k u : Int) : List Skill × Bool := renF xs ⟨p, k, u⟩
theorem renX_len (xs : List Skill) (p : ByteArray) (k u : Int) : (renX xs p k u).1.length ≤ 1048576 := renF_len _ _
theorem specRenew_any (xs : List Skill) (p : ByteArray) (k u : Int) (A : Option Addr) (n c : Nat) (w : World) (hz : p.size ≤ maxLen) (hn : (n : Int) ≤ 9223372036854775807) (hs : Sl w A n xs) (hv : ∀ x, x ∈ xs → x.Person.size ≤ maxLen) (hc : n ≤ c ∧ c ≤ maxLen ∧ ((A = none ∧ c = 0) ∨ ∃ g, A = some ⟨g, 0, none⟩)) :
    Calls Tryz.prog 7 #[.slice A n c, .string p, .int .i64 k, .int .i64 u] w (RetOwn2 w 62 (renX xs p k u)) := specRenewSkill_any xs ⟨p, k, u⟩ A n c w hz hn hs hv hc
theorem implRenew_any (xs : List Skill) (p : ByteArray) (k u : Int) (A : Option Addr) (n c : Nat) (w : World) (hz : p.size ≤ maxLen) (hn : (n : Int) ≤ 9223372036854775807) (hs : Sl w A n xs) (hv : ∀ x, x ∈ xs → x.Person.size ≤ maxLen) :
    Calls Tryz.prog 6 #[.slice A n c, .string p, .int .i64 k, .int .i64 u] w (RetOwn2 w 62 (renX xs p k u)) := implRenewSkill_any xs ⟨p, k, u⟩ A n c w hz hn hs hv

end Go.Proofs.YtjcjedolhejnaaaGreatDoor

namespace Go.Proofs.YtjcjedolhejnaaaGreatDoor
open Go.RowKit

/-- where the first least one of the first k numbers stands -/
def best (L : List Int) : Nat → Nat
  | 0 => 0
  | k + 1 => if nth L k < nth L (best L k) then k else best L k
theorem best_one (L : List Int) : best L 1 = 0 := by simp [best]
theorem best_lt {L : List Int} {k : Nat} (hk : 0 < k) : best L k < k := by
  induction k with
  | zero => omega
  | succ k ih =>
    rw [best]
    split
    · omega
    · by_cases h : 0 < k
      · have := ih h; omega
      · obtain rfl : k = 0 := by omega
        simp [best]
theorem best_le (L : List Int) (k : Nat) : best L k ≤ k := by
  by_cases h : 0 < k
  · exact Nat.le_of_lt (best_lt h)
  · obtain rfl : k = 0 := by omega
    simp [best]
theorem best_min {L : List Int} : ∀ {k : Nat}, 0 < k → (∀ j, j < k → nth L (best L k) ≤ nth L j) ∧ (∀ j, j < best L k → nth L (best L k) < nth L j)
  | 0, h => absurd h (by omega)
  | k + 1, _ => by
    by_cases h0 : 0 < k
    · obtain ⟨h1, h2⟩ := best_min (L := L) h0
      rw [best]
      split
      · rename_i hlt
        refine ⟨fun j hj => ?_, fun j hj => ?_⟩
        · by_cases e : j = k
          · subst e; exact Int.le_refl _
          · have := h1 j (by omega); omega
        · have := h1 j hj; omega
      · rename_i hlt
        refine ⟨fun j hj => ?_, h2⟩
        by_cases e : j = k
        · subst e; omega
        · exact h1 j (by omega)
    · obtain rfl : k = 0 := by omega
      have e : best L (0 + 1) = 0 := best_one L
      rw [e]
      exact ⟨fun j hj => by obtain rfl : j = 0 := by omega
                            exact Int.le_refl _, fun j hj => absurd hj (by omega)⟩
theorem best_index {L : List Int} {k : Nat} (hL : L.length = k) (hk : 0 < k) : indexF (fun x => x == nth L (best L k)) L = best L k := by
  obtain ⟨_, h2⟩ := best_min (L := L) hk
  refine indexF_hit (by rw [hL]; exact best_lt hk) (by simp) fun j hj => ?_
  have := h2 j hj
  simp; omega
theorem best_hit {L : List Int} {k : Nat} (h : nth L k < nth L (best L k)) : best L (k + 1) = k := by rw [best, if_pos h]
theorem best_miss {L : List Int} {k : Nat} (h : ¬ nth L k < nth L (best L k)) : best L (k + 1) = best L k := by rw [best, if_neg h]
set_option maxHeartbeats 1000000 in
theorem min_any (L : List Int) (A : Option Addr) (n c : Nat) (w : World) (hn0 : 0 < n) (hn : (n : Int) ≤ 9223372036854775807) (hs : Sl w A n L) :
    Calls Tryz.prog 58 #[.slice A n c] w fun e w' => e = .returned (.int .i64 (nth L (best L n))) ∧ w' = w := by
  obtain ⟨b, o, rfl, hbz, c0⟩ := hs.int hn0
  have hd : decide ((n : Int) < 1) = false := by simp; omega
  have hd2 : (0 : Int) < n := by omega
  have c00 : w.cell? ⟨b, o, none⟩ = some (.int .i64 (nth L 0)) := c0
  clear c0
  go_enter Tryz.func58, Tryz.ntmps58
  go_wp2
  go_loop [3, 4] (fun u i => ∃ k : Nat, 0 < k ∧ k ≤ n ∧ i = .int .i64 k ∧ u = .int .i64 (nth L (best L k))) (fun _ i => n - (intOf i).toNat)
  case atStart => exact ⟨1, by omega, by omega, rfl, by rw [best_one]⟩
  case round =>
    obtain ⟨k, hk0, hk, rfl, rfl⟩ := hrel
    clear c00
    by_cases hlt : k < n
    · have c0 := hs.int hlt
      obtain ⟨b', o', e, _, c0⟩ := c0
      injection e with e
      injection e with e1 e2
      subst e1 e2
      clear hs
      by_cases h : nth L k < nth L (best L k)
      · have hp := Lib.hid (best_hit h)
        have h2 : min (nth L (best L k)) (nth L k) = nth L k := by omega
        go_wp2
        go_round
        case rel => exact ⟨k + 1, by omega, by omega, by go_num, by rw [hp.out]⟩
        case measure => simp [intOf]; omega
      · have hp := Lib.hid (best_miss h)
        have h2 : min (nth L (best L k)) (nth L k) = nth L (best L k) := by omega
        go_wp2
        go_round
        case rel => exact ⟨k + 1, by omega, by omega, by go_num, by rw [hp.out]⟩
        case measure => simp [intOf]; omega
    · obtain rfl : k = n := by omega
      go_wp2
      go_ret
      exact ⟨rfl, rfl⟩
set_option maxHeartbeats 1000000 in
theorem index_any (L : List Int) (v : Int) (A : Option Addr) (n c : Nat) (w : World) (hn : (n : Int) ≤ 9223372036854775807) (hs : Sl w A n L) :
    Calls Tryz.prog 59 #[.slice A n c, .int .i64 v] w fun e w' => e = .returned (.int .i64 (indexF (fun x => x == v) L)) ∧ w' = w := by
  have HL := Lib.hid hs.1
  go_enter Tryz.func59, Tryz.ntmps59
  go_wp2
  go_loop [8] (fun i => ∃ k : Nat, k ≤ n ∧ i = .int .i64 k ∧ Hid (∀ j, j < k → (nth L j == v) = false)) (fun i => n - (intOf i).toNat)
  case atStart => exact ⟨0, Nat.zero_le _, rfl, fun j hj => absurd hj (by omega)⟩
  case round =>
    obtain ⟨k, hk, rfl, hg⟩ := hrel
    by_cases hlt : k < n
    · obtain ⟨b, o, rfl, _, c0⟩ := hs.int hlt
      clear hs
      cases hp : nth L k == v
      · have hp' := Lib.hid hp
        have hp2 : (v == nth L k) = false := by rw [BEq.comm]; exact hp
        clear hp
        go_wp2
        go_round
        case rel => exact ⟨k + 1, by omega, by go_num, upto_succ hg hp'.out⟩
        case measure => simp [intOf]; omega
      · have hp' := Lib.hid hp
        have hp2 : (v == nth L k) = true := by rw [BEq.comm]; exact hp
        clear hp
        go_wp2
        go_ret
        exact ⟨ret_i64 (indexF_hit (p := fun x => x == v) (by rw [HL.out]; exact hlt) hp'.out hg.out).symm, rfl⟩
    · obtain rfl : k = n := by omega
      go_wp2
      go_ret
      exact ⟨ret_i64 (indexF_none (p := fun x => x == v) (by rw [HL.out]; exact hg.out)).symm, rfl⟩
theorem ret_iib {a a' c c' : Int} {b b' : Bool} (h : a = a') (h1 : c = c') (h' : b = b') : Ending.returned (.tuple #[.int .i64 a, .int .i64 c, .bool b]) = .returned (.tuple #[.int .i64 a', .int .i64 c', .bool b']) := by rw [h, h1, h']
def rareF (xs : List Skill) (day : Int) : Int × Int × Bool := if skillsB xs && inB day 0 20000 then (((best (cntL xs day) 6 : Nat) : Int), nth (cntL xs day) (best (cntL xs day) 6), true) else (0, 0, false)
theorem rareF_yes {xs : List Skill} {day : Int} (h : (skillsB xs && inB day 0 20000) = true) : rareF xs day = (((best (cntL xs day) 6 : Nat) : Int), nth (cntL xs day) (best (cntL xs day) 6), true) := by unfold rareF; rw [if_pos h]
theorem rareF_no {xs : List Skill} {day : Int} (h : (skillsB xs && inB day 0 20000) = false) : rareF xs day = (0, 0, false) := by unfold rareF; rw [if_neg (by rw [h]; exact Bool.false_ne_true)]
set_option maxHeartbeats 4000000 in
theorem specRarestKind_any (xs : List Skill) (day : Int) (A : Option Addr) (n c : Nat) (w : World) (hn : (n : Int) ≤ 9223372036854775807) (hs : Sl w A n xs) (hv : ∀ x, x ∈ xs → x.Person.size ≤ maxLen) :
    Calls Tryz.prog 22 #[.slice A n c, .int .i64 day] w fun e w' => e = .returned (.tuple #[.int .i64 (rareF xs day).1, .int .i64 (rareF xs day).2.1, .bool (rareF xs day).2.2]) ∧ Below w.heap.size w w' := by
  have HV := Lib.hid hv
  have HL := Lib.hid hs.1
  clear hv
  go_enter Tryz.func22, Tryz.ntmps22
  have hk0 := bl_refl w
  go_wp2_with fail
  refine (drGood_any xs _ _ _ _ hn hs HV.out).mono ?_
  rintro e V1 ⟨rfl, hb1⟩
  have hB1 := bl_trans (a := w) (bl_refl _) hb1
  have hk1 := bl_trans hk0 hB1
  have z1 := Lib.hid hB1.size
  cases h0 : skillsB xs
  · have Hz := Lib.hid (rareF_no (xs := xs) (day := day) (by rw [h0]; first | done | simp))
    clear h0
    go_wp2
    go_ret3
    exact ⟨ret_iib (by rw [Hz.out]) (by rw [Hz.out]) (by rw [Hz.out]), hk1⟩
  have H0 := Lib.hid h0
  clear h0
  go_wp2_with fail
  refine (drDay_any day _).mono ?_
  rintro _ V1 ⟨rfl, rfl⟩
  cases h1 : inB day 0 20000
  · have Hz := Lib.hid (rareF_no (xs := xs) (day := day) (by rw [h1]; first | done | simp))
    clear h1
    go_wp2
    go_ret3
    exact ⟨ret_iib (by rw [Hz.out]) (by rw [Hz.out]) (by rw [Hz.out]), hk1⟩
  have H1 := Lib.hid h1
  clear h1
  have Hz := Lib.hid (rareF_yes (xs := xs) (day := day) (by rw [H0.out, H1.out]; rfl))
  have hn2 : n ≤ 24 := by have := skillsB_len H0.out; have := HL.out; omega
  go_wp2_with fail
  refine (drCounts_any xs day _ _ _ _ (by omega) (hs.below hk1)).mono ?_
  rintro e V2 ⟨A_r, c_r, rfl, ho_r, hb2⟩
  have hB2 := bl_trans (a := V1) (bl_refl _) hb2
  have hk2 := bl_trans hk1 hB2
  have z2 := Lib.hid hB2.size
  clear hk1
  have hl6 := cntL_len xs day
  rw [hl6] at ho_r ⊢
  obtain ⟨L, hL⟩ : ∃ L, L = cntL xs day := ⟨_, rfl⟩
  rw [← hL] at ho_r hl6
  have HLL := Lib.hid hL
  have HL6 := Lib.hid hl6
  clear hL hl6 hs
  have hsl := ho_r.sl
  obtain ⟨g, rfl⟩ := ho_r.form (by omega)
  clear hsl
  go_wp2
  go_loop [8, 24] (fun u i => ∃ k : Nat, k ≤ 6 ∧ i = .int .i64 k ∧ u = .int .i64 (best L k : Nat)) (fun _ i => 6 - (intOf i).toNat)
  case atStart => exact ⟨0, Nat.zero_le _, rfl, rfl⟩
  case round =>
    obtain ⟨k, hk, rfl, rfl⟩ := hrel
    by_cases hlt : k < 6
    · have c0 := ho_r.int (k := k) hlt
      have hj : best L k < 6 := by have := best_le L k; omega
      obtain ⟨j, hj2⟩ : ∃ j, j = best L k := ⟨_, rfl⟩
      rw [← hj2] at hj ⊢
      have d0 := ho_r.int hj
      have HJ := Lib.hid hj2
      have hd : decide ((k : Int) < 6) = true := by simp; omega
      clear ho_r hj2
      by_cases h : nth L k < nth L j
      · have hp : Hid (best L (k + 1) = k) := best_hit (by rw [← HJ.out]; exact h)
        go_wp2
        go_round
        case rel => exact ⟨k + 1, by omega, by go_num, by rw [hp.out]⟩
        case measure => simp [intOf]; omega
      · have hp : Hid (best L (k + 1) = j) := (best_miss (by rw [← HJ.out]; exact h)).trans HJ.out.symm
        go_wp2
        go_round
        case rel => exact ⟨k + 1, by omega, by go_num, by rw [hp.out]⟩
        case measure => simp [intOf]; omega
    · obtain rfl : k = 6 := by omega
      have hj : best L 6 < 6 := best_lt (by omega)
      obtain ⟨j, hj2⟩ : ∃ j, j = best L 6 := ⟨_, rfl⟩
      rw [← hj2] at hj ⊢
      have d0 := ho_r.int hj
      have HJ := Lib.hid hj2
      clear ho_r hj2
      go_wp2_with fail
      go_quiet (fail)
      go_wp2
      go_ret3
      exact ⟨ret_iib (by rw [Hz.out, ← HLL.out, HJ.out]) (by rw [Hz.out, ← HLL.out, HJ.out]) (by rw [Hz.out]), bl_drewN hk2 _⟩
set_option maxHeartbeats 4000000 in
theorem implRarestKind_any (xs : List Skill) (day : Int) (A : Option Addr) (n c : Nat) (w : World) (hn : (n : Int) ≤ 9223372036854775807) (hs : Sl w A n xs) (hv : ∀ x, x ∈ xs → x.Person.size ≤ maxLen) :
    Calls Tryz.prog 21 #[.slice A n c, .int .i64 day] w fun e w' => e = .returned (.tuple #[.int .i64 (rareF xs day).1, .int .i64 (rareF xs day).2.1, .bool (rareF xs day).2.2]) ∧ Below w.heap.size w w' := by
  have HV := Lib.hid hv
  have HL := Lib.hid hs.1
  clear hv
  go_enter Tryz.func21, Tryz.ntmps21
  have hk0 := bl_refl w
  go_wp2_with fail
  refine (areSkills_any xs _ _ _ _ hn hs HV.out).mono ?_
  rintro e V1 ⟨rfl, hb1⟩
  have hB1 := bl_trans (a := w) (bl_refl _) hb1
  have hk1 := bl_trans hk0 hB1
  have z1 := Lib.hid hB1.size
  cases h0 : skillsB xs
  · have Hz := Lib.hid (rareF_no (xs := xs) (day := day) (by rw [h0]; first | done | simp))
    clear h0
    go_wp2
    go_ret3
    exact ⟨ret_iib (by rw [Hz.out]) (by rw [Hz.out]) (by rw [Hz.out]), hk1⟩
  have H0 := Lib.hid h0
  clear h0
  go_wp2_with fail
  refine (isDay_any day _).mono ?_
  rintro _ V1 ⟨rfl, rfl⟩
  cases h1 : inB day 0 20000
  · have Hz := Lib.hid (rareF_no (xs := xs) (day := day) (by rw [h1]; first | done | simp))
    clear h1
    go_wp2
    go_ret3
    exact ⟨ret_iib (by rw [Hz.out]) (by rw [Hz.out]) (by rw [Hz.out]), hk1⟩
  have H1 := Lib.hid h1
  clear h1
  have Hz := Lib.hid (rareF_yes (xs := xs) (day := day) (by rw [H0.out, H1.out]; rfl))
  have hn2 : n ≤ 24 := by have := skillsB_len H0.out; have := HL.out; omega
  go_wp2_with fail
  refine (countsOn_any xs day _ _ _ _ (by omega) (hs.below hk1) H0.out).mono ?_
  rintro e V2 ⟨A_r, c_r, rfl, ho_r, hb2⟩
  have hB2 := bl_trans (a := V1) (bl_refl _) hb2
  have hk2 := bl_trans hk1 hB2
  have z2 := Lib.hid hB2.size
  clear hk1
  have hl6 := cntL_len xs day
  rw [hl6] at ho_r ⊢
  obtain ⟨L, hL⟩ : ∃ L, L = cntL xs day := ⟨_, rfl⟩
  rw [← hL] at ho_r hl6
  have HLL := Lib.hid hL
  have HL6 := Lib.hid hl6
  clear hL hl6 hs
  have hsl := ho_r.sl
  go_wp2_with fail
  refine (min_any L _ _ _ _ (by omega) (by omega) hsl).mono ?_
  rintro e V2 ⟨rfl, rfl⟩
  go_wp2_with fail
  refine (index_any L _ _ _ _ _ (by omega) hsl).mono ?_
  rintro e V2 ⟨rfl, rfl⟩
  have hbi := best_index HL6.out (by omega)
  rw [hbi]
  clear hbi hsl ho_r
  go_wp2
  go_ret3
  exact ⟨ret_iib (by rw [Hz.out, ← HLL.out]) (by rw [Hz.out, ← HLL.out]) (by rw [Hz.out]), hk2⟩

end Go.Proofs.YtjcjedolhejnaaaGreatDoor

namespace Go.Proofs.YtjcjedolhejnaaaGreatDoor
open Go.RowKit

set_option maxRecDepth 100000 in
set_option maxHeartbeats 4000000 in
theorem skillsText_any (xs : List Skill) (A : Option Addr) (n c : Nat) (w : World) (hs : Sl w A n xs) (hv : skillsB xs = true) (he : Tab w) :
    Calls Tryz.prog 61 #[.slice A n c] w fun e w' => e = .returned (.string (skText xs xs.length)) ∧ Below w.heap.size w w' := by
  have HL := Lib.hid hs.1
  obtain ⟨h24, hbd⟩ := skills_bd hv
  have HB := Lib.hid hbd
  have HLn := Lib.hid (skText_len hv)
  have hn24 : n ≤ 24 := by have := HL.out; omega
  clear hv hbd
  go_enter Tryz.func61, Tryz.ntmps61
  go_wp2
  go_loopw [3, 8] (fun tv iv wr => ∃ i : Nat, i ≤ n ∧ iv = .int .i64 i ∧ tv = .string (skText xs i) ∧ Below w.heap.size w wr) (fun _ iv _ => n - (intOf iv).toNat)
  case atStart => exact ⟨0, Nat.zero_le _, rfl, rfl, bl_refl _⟩
  case round =>
    obtain ⟨i, hi, rfl, rfl, hb⟩ := hrel
    by_cases hlt : i < n
    · obtain ⟨b, o, rfl, hbz, c0, c1, c2⟩ := (hs.below hb).skill hlt
      clear hs
      obtain ⟨a0, ⟨a1, a2⟩, a3, a4⟩ := HB.out i (by rw [HL.out]; exact hlt)
      have hp := pieceK_len (x := nth xs i) a0 ⟨a1, a2⟩ ⟨a3, a4⟩
      have ht := HLn.out i (by rw [HL.out]; omega)
      have hs1 := it_len (n := (nth xs i).Kind) (by omega) 0 (by omega)
      have hs2 := it_len (n := (nth xs i).Until) (by omega) 4 (by omega)
      have HX1 : Hid (skText xs (i + 1) = skText xs i ++ ((nth xs i).Person ++ ⟨#[47]⟩ ++ (itB (nth xs i).Kind ++ ⟨#[47]⟩ ++ itB (nth xs i).Until) ++ ⟨#[59]⟩)) := by rw [Hid]; show skText xs i ++ pieceK (nth xs i) = _; rw [pieceK_impl]
      obtain ⟨T, hT0⟩ : ∃ T, T = skText xs i := ⟨_, rfl⟩
      rw [← hT0] at ht HX1 ⊢
      clear hT0 hp
      go_wp2_with fail
      refine wp_hide (R := fun X => Below wr.heap.size wr X ∧ wr.heap.size < X.heap.size ∧ X.cell? ⟨wr.heap.size, 0, none⟩ = some (.string (nth xs i).Person) ∧ X.cell? ⟨wr.heap.size, 1, none⟩ = some (.int .i64 (nth xs i).Kind) ∧ X.cell? ⟨wr.heap.size, 2, none⟩ = some (.int .i64 (nth xs i).Until)) ⟨bl_alloc (bl_refl _) _, by simp, by go_simp, by go_simp, by go_simp⟩ (fun X ⟨hbX, hXz, e0, e1, e2⟩ => ?_)
      have hX := bl_trans hb hbX
      have hT := Lib.hid (he.below hX)
      have hD := bl_drew (bl_refl X)
      have g1 : ¬ 9223372036854775807 < (nth xs i).Person.size + 1 := by omega
      have g2 : ¬ 9223372036854775807 < (nth xs i).Person.size + 1 + ((itB (nth xs i).Kind).size + 1 + (itB (nth xs i).Until).size) := by omega
      have g3 : ¬ 9223372036854775807 < (nth xs i).Person.size + 1 + ((itB (nth xs i).Kind).size + 1 + (itB (nth xs i).Until).size) + 1 := by omega
      have g4 : ¬ 9223372036854775807 < T.size + ((nth xs i).Person.size + 1 + ((itB (nth xs i).Kind).size + 1 + (itB (nth xs i).Until).size) + 1) := by omega
      clear he hbX
      go_region_held3 (fun w' => w'.cell? ⟨wr.heap.size, 0, none⟩ = some (.string (nth xs i).Person) ∧ w'.cell? ⟨wr.heap.size, 1, none⟩ = some (.int .i64 (nth xs i).Kind) ∧ w'.cell? ⟨wr.heap.size, 2, none⟩ = some (.int .i64 (nth xs i).Until) ∧ Below X.heap.size X w')
        (first | exact ⟨cell_later hE e0, cell_later hE e1, cell_later hE e2, hE⟩ | exact ⟨cell_later (bl_alloc hD _) e0, cell_later (bl_alloc hD _) e1, cell_later (bl_alloc hD _) e2, bl_alloc hD _⟩ | exact ⟨cell_later hD e0, cell_later hD e1, cell_later hD e2, hD⟩)
        (first | (go_at_call 81; refine (join2_any ⟨#[47]⟩ (nth xs i).Kind (nth xs i).Until _ (by go_simp) (by go_simp) ⟨by omega, by omega⟩ ⟨by omega, by omega⟩ (by decide) (hT.out.below (bl_alloc hD _))).mono ?_; rintro e V ⟨rfl, hb9⟩; have hE := bl_trans (bl_alloc hD _) hb9; clear hb9))
      have hbV := bl_trans hX hE
      go_wp2
      go_roundw
      case rel => exact ⟨i + 1, by omega, by go_num, by rw [HX1.out], hbV⟩
      case measure => simp [intOf]; omega
    · obtain hin : i = n := by omega
      have HF : Hid (skText xs i = skText xs xs.length) := by rw [Hid, hin, HL.out]
      clear hs
      go_wp2
      go_ret
      exact ⟨congrArg (fun b => Ending.returned (.string b)) HF.out, hb⟩
set_option maxHeartbeats 1000000 in
theorem implSkillsText_any (xs : List Skill) (A : Option Addr) (n c : Nat) (w : World) (hn : (n : Int) ≤ 9223372036854775807) (hs : Sl w A n xs) (hv : ∀ x, x ∈ xs → x.Person.size ≤ maxLen) (he : Tab w) :
    Calls Tryz.prog 24 #[.slice A n c] w fun e w' => e = .returned (.tuple #[.string (stF xs).1, .bool (stF xs).2]) ∧ Below w.heap.size w w' := by
  have HV := Lib.hid hv
  clear hv
  go_enter Tryz.func24, Tryz.ntmps24
  go_wp2_with fail
  refine (areSkills_any xs _ _ _ _ hn hs HV.out).mono ?_
  rintro e V1 ⟨rfl, hb1⟩
  cases h0 : skillsB xs
  · have Hz := Lib.hid (stF_no h0)
    clear h0
    go_wp2
    go_ret2
    exact ⟨ret_stb Hz.out rfl, hb1⟩
  have HZ := Lib.hid (stF_yes h0)
  have H0 := Lib.hid h0
  clear h0
  go_wp2_with fail
  refine (skillsText_any xs _ _ _ _ (hs.below hb1) H0.out (he.below hb1)).mono ?_
  rintro e V2 ⟨rfl, hb2⟩
  have hk := bl_trans hb1 hb2
  go_wp2
  go_ret2
  exact ⟨ret_stb HZ.out rfl, hk⟩

end Go.Proofs.YtjcjedolhejnaaaGreatDoor
