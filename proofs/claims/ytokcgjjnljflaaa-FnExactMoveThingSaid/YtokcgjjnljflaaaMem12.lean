/-
  A row out of which one element is taken. No conditions.
-/
import Derived.Test.YtokcgjjnljflaaaMem11
import Derived.Test.YtokcgjjnljflaaaMem6
namespace Go.Proofs.Ytokcgjjnljflaaa
open Go.RowKit

theorem addr_add12 (g o j : Nat) : (⟨g, o, none⟩ : Addr).add j = ⟨g, o + j, none⟩ := addr_add g o j
/-- append(s[:k], s[k+1:]...): what stands behind k moves one place down, the last one stays where it was -/
theorem run_delete {α : Type} [Flat α] {P : Program} (t ty e : TypeId) (he : Elem P t e (Flat.sz α)) {w : World} {base g n c k m d : Nat} {B : Option Addr} {xs : List α} (hown : Own w base e (.slice (some ⟨g, 0, none⟩) n c) xs) (hm : k + m + 1 = n) (hy : Sl w B m (xs.drop (k + 1))) :
    ∃ w1, (Builtin.append_ #[t, t] ty #[.slice (some ⟨g, 0, none⟩) k c, .slice B m d]).run P w = .ok (.slice (some ⟨g, 0, none⟩) (k + m) c) w1 ∧ Own w1 base e (.slice (some ⟨g, 0, none⟩) n c) (xs.take k ++ xs.drop (k + 1) ++ xs.drop (k + m)) ∧ w.grownBy w1 (some g) := by
  obtain ⟨cur, hg, hxl, hbg, hnc, hcm, hcs, htk⟩ := hown.row
  obtain ⟨i, z, h1, h2, h3, h4, h5⟩ := he
  have hdl : (xs.drop (k + 1)).length = m := by rw [List.length_drop, hxl]; omega
  have hpre := hown.pre (i := k) (by omega)
  cases B with
  | none =>
    obtain ⟨rfl, hnil⟩ := hy.none_len
    have hr := run_append_of_nil (P := P) w base t ty e i (Flat.sz α) h1 h2 _ _ (cellsOf (xs.take k)) hpre d
    refine ⟨w, hr, ?_, gb_refl _ _⟩
    rw [hnil, List.append_nil, Nat.add_zero, List.take_append_drop]
    exact hown
  | some a =>
    by_cases hm0 : m = 0
    · subst hm0
      have hnil : xs.drop (k + 1) = [] := List.eq_nil_of_length_eq_zero hdl
      have hr := run_append_room (P := P) (w := w) t ty e i h1 h2 g k c cur hg a 0 d [] (by simp) (by intro j u hu; simp at hu) (by intro u hu; simp at hu) (by omega) (by rw [h4, hcs]; simp only [List.length_nil, Nat.add_zero]; exact Nat.mul_le_mul_right _ (by omega))
      refine ⟨_, hr, ?_, gb_row _ _ _⟩
      rw [hnil]
      simp only [List.append_nil, Nat.add_zero, List.take_append_drop]
      refine Own.of_row (setRow_heap w g cur _ e _ hg) hxl hbg hnc hcm ?_ ?_
      · simp; omega
      · simpa using htk
    · have hspot : ∃ b o, a = ⟨b, o, none⟩ := by
        obtain ⟨b, o, cs, hA, _⟩ := hy.2 0 _ (List.getElem?_eq_getElem (by omega))
        injection hA with hA
        exact ⟨b, o, hA⟩
      obtain ⟨b, o, rfl⟩ := hspot
      have hcl : (cellsOf (xs.drop (k + 1))).length = m * Flat.sz α := by rw [cellsOf_length, hdl]
      have hmul : k * Flat.sz α + m * Flat.sz α = (k + m) * Flat.sz α := (Nat.add_mul _ _ _).symm
      have hle : (k + m) * Flat.sz α ≤ c * Flat.sz α := Nat.mul_le_mul_right _ (by omega)
      have hle2 : (k + m) * Flat.sz α + Flat.sz α = n * Flat.sz α := by rw [← hm, Nat.add_mul (k + m) 1, Nat.one_mul]
      have hle3 : n * Flat.sz α ≤ c * Flat.sz α := Nat.mul_le_mul_right _ hnc
      have hr := run_append_room (P := P) (w := w) t ty e i h1 h2 g k c cur hg ⟨b, o, none⟩ m d (cellsOf (xs.drop (k + 1))) (by rw [h4]; exact hcl) (by intro j u hu; rw [addr_add]; exact hy.cells j u hu) (cellsOf_oneCell _) (by omega) (by rw [h4, hcs, hcl]; omega)
      refine ⟨_, hr, ?_, gb_row _ _ _⟩
      have hct : cur.toList.length = c * Flat.sz α := by rw [Array.length_toList]; exact hcs
      have hk1 : cur.toList.take (k * Flat.sz α) = cellsOf (xs.take k) := by
        have := hpre.row
        obtain ⟨cur', hg', _, _, _, _, _, ht'⟩ := this
        rw [hg] at hg'
        injection hg' with hg'
        injection hg' with hg' _ _
        subst hg'
        exact ht'
      have hlast : (cur.toList.drop ((k + m) * Flat.sz α)).take (Flat.sz α) = cellsOf (xs.drop (k + m)) := by
        have e1 : (cur.toList.take (n * Flat.sz α)).drop ((k + m) * Flat.sz α) = (cur.toList.drop ((k + m) * Flat.sz α)).take (Flat.sz α) := by
          rw [List.drop_take, ← hle2]; congr 1; omega
        have e2 : cellsOf xs = cellsOf (xs.take (k + m)) ++ cellsOf (xs.drop (k + m)) := by rw [← cellsOf_append, List.take_append_drop]
        rw [← e1, htk, e2, List.drop_left' (by rw [cellsOf_length, List.length_take, hxl]; congr 1; omega)]
      refine Own.of_row (setRow_heap w g cur _ e _ hg) ?_ hbg hnc hcm ?_ ?_
      · simp only [List.length_append, List.length_take, List.length_drop]; omega
      · simp only [List.size_toArray, List.length_append, List.length_take, List.length_drop, h4, hcl, hct]; omega
      · rw [List.toList_toArray, h4, hcl, hk1, hmul, cellsOf_append, cellsOf_append]
        have e3 : (cellsOf (xs.take k) ++ cellsOf (xs.drop (k + 1))).length = (k + m) * Flat.sz α := by
          rw [List.length_append, hcl, cellsOf_length, List.length_take, hxl, Nat.min_eq_left (by omega), hmul]
        rw [List.take_append, e3, List.take_of_length_le (by rw [e3]; omega)]
        have e4 : n * Flat.sz α - (k + m) * Flat.sz α = Flat.sz α := by omega
        rw [e4, hlast]
theorem step_app_run {P : Program} {ops : Array Oper} {o : Oper} {a : Act} {w : World} {K : Act → World → Prop} {Q : Exit → Act → World → Prop} {E : Prop} (hgd : o.guard = none) (s x : Operand) (t : TypeId)
    (ho : o.op = .call { callee := .builtin .append, args := #[s, x], argTypes := #[t, t] }) {vs vx v' : Value} {w' : World} (hs : a.eval s = vs) (hx : a.eval x = vx)
    (hr : (Builtin.append_ #[t, t] o.type #[vs, vx]).run P w = .ok v' w') (h : K (a.put o.dst v') w') :
    if Region.wanted o (yielded ops a.tmps) = true then Oper.wp P o a w K Q else E := by
  have hw : Region.wanted o (yielded ops a.tmps) = true := by simp [Region.wanted, hgd]
  rw [if_pos hw]
  unfold Oper.wp execOp
  simp only [ho, resolve, invoke, builtin, Sem.run_bind, Sem.run_pure, Result.andThen_ok, List.map_toArray, List.map_cons, List.map_nil, hs, hx]
  rw [hr]
  exact h
theorem Sl.dropK {α : Type} [Flat α] {w : World} {b o n i : Nat} {xs : List α} (h : Sl w (some ⟨b, o, none⟩) n xs) : Sl w (some ⟨b, o + i * Flat.sz α, none⟩) (n - i) (xs.drop i) :=
  ⟨by rw [List.length_drop, h.1], fun k x hx => by
    rw [List.getElem?_drop] at hx
    obtain ⟨b', o', cs, hA, hr, hc⟩ := h.2 (i + k) x hx
    injection hA with hA
    injection hA with h1 h2
    subst h1; subst h2
    refine ⟨b, _, cs, rfl, hr, fun j v hv => ?_⟩
    have := hc j v hv
    have e : o + (i + k) * Deep.sz α + j = o + i * Flat.sz α + k * Deep.sz α + j := by
      have : Deep.sz α = Flat.sz α := rfl
      rw [this, Nat.add_mul]; omega
    rwa [e] at this⟩

end Go.Proofs.Ytokcgjjnljflaaa
