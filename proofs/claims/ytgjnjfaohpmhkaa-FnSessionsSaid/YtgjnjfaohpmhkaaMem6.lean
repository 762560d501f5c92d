/-
  clear, and what slices.DeleteFunc asks. No conditions.
-/
import Derived.Test.YtgjnjfaohpmhkaaMem4
import Derived.Test.YtgjnjfaohpmhkaaMem5
namespace Go.Proofs.Ytgjnjfaohpmhkaa
open Go.RowKit
/-- As Elem, the zero value too. -/
def ElemZ (P : Program) (t e : TypeId) {α : Type} [Flat α] (d : α) : Prop :=
  ∃ i z, P.underlying t = some (.slice e) ∧ P.info? e = some i ∧ i.zero = some z ∧ i.size = Flat.sz α ∧ i.bytes ≤ 256 ∧ z.cells.toList = Flat.enc d
theorem elemZ_mk {α : Type} [Flat α] {P : Program} {t e : TypeId} {d : α} (h1 : P.underlying t = some (.slice e)) (h2 : (P.info? e).map (fun i => (i.zero.map (fun z => z.cells.toList), i.size, decide (i.bytes ≤ 256))) = some (some (Flat.enc d), Flat.sz α, true)) : ElemZ P t e d := by
  cases h : P.info? e with
  | none => rw [h] at h2; cases h2
  | some i =>
    rw [h] at h2
    simp only [Option.map_some, Option.some.injEq, Prod.mk.injEq, decide_eq_true_eq] at h2
    obtain ⟨hz, hs, hb⟩ := h2
    cases h' : i.zero with
    | none => rw [h'] at hz; cases hz
    | some z =>
      rw [h'] at hz
      simp only [Option.map_some, Option.some.injEq] at hz
      exact ⟨i, z, h1, h, h', hs, hb, hz⟩
theorem ElemZ.elem {α : Type} [Flat α] {P : Program} {t e : TypeId} {d : α} (h : ElemZ P t e d) : Elem P t e (Flat.sz α) := by
  obtain ⟨i, z, h1, h2, h3, h4, h5, h6⟩ := h
  exact ⟨i, z, h1, h2, h3, h4, h5, by rw [← Array.length_toList, h6, Flat.len]⟩
theorem Own.cap {α : Type} [Flat α] {w : World} {base : Nat} {E : TypeId} {A : Option Addr} {n c : Nat} {xs : List α} (h : Own w base E (.slice A n c) xs) : n ≤ c ∧ c ≤ maxLen := by
  have hl := h.sl.1
  rcases h.2 with ⟨hv, h0⟩ | ⟨g, cap, cur, hv, _, _, h1, h2, _⟩
  · injection hv with _ e1 e2; subst e2; unfold maxLen; omega
  · injection hv with _ e1 e2; subst e2; exact ⟨by omega, h2⟩
/-- s[:i] -/
theorem Own.pre {α : Type} [Flat α] {w : World} {base g : Nat} {E : TypeId} {n c : Nat} {xs : List α} (h : Own w base E (.slice (some ⟨g, 0, none⟩) n c) xs) {i : Nat} (hi : i ≤ n) : Own w base E (.slice (some ⟨g, 0, none⟩) i c) (xs.take i) := by
  have hl := h.sl.1
  have hlt : (xs.take i).length = i := by rw [List.length_take]; omega
  unfold Own at h ⊢
  rw [hl] at h
  rw [hlt]
  refine ⟨by rw [cellsOf_length, hlt], ?_⟩
  rcases h.2 with ⟨hv, h0⟩ | ⟨g', cap, cur, hv, hb, hg, hnc, hcm, hcs, ht⟩
  · cases hv
  · injection hv with e1 e2 e3
    injection e1 with e1
    injection e1 with e1
    subst e1; subst e3
    refine .inr ⟨g, c, cur, rfl, hb, hg, by omega, hcm, hcs, ?_⟩
    have e4 : cur.toList.take (i * Flat.sz α) = (cur.toList.take (n * Flat.sz α)).take (i * Flat.sz α) := by
      rw [List.take_take, Nat.min_eq_left (Nat.mul_le_mul_right _ hi)]
    rw [e4, ht]
    conv => lhs; rw [← List.take_append_drop i xs, cellsOf_append]
    rw [List.take_append_of_le_length (by rw [cellsOf_length, hlt]; exact Nat.le_refl _), List.take_of_length_le (by rw [cellsOf_length, hlt]; exact Nat.le_refl _)]
theorem run_zero {P : Program} {e : TypeId} {i : TypeInfo} {z : Value} (hi : P.info? e = some i) (hz : i.zero = some z) (w : World) : (zeroValue e).run P w = .ok z w := by
  simp [zeroValue, typeInfo, hi, hz]
/-- clear(s[i:]) -/
theorem run_clear_own {α : Type} [Flat α] {P : Program} (t e : TypeId) {d : α} (he : ElemZ P t e d) {w : World} {base g n c i : Nat} {xs : List α}
    (hown : Own w base e (.slice (some ⟨g, 0, none⟩) n c) xs) (hi : i < n) :
    ∃ w', (∀ ty, (Builtin.clear_ #[t] ty #[.slice (some ⟨g, i * Flat.sz α, none⟩) (n - i) (c - i)]).run P w = .ok (.tuple #[]) w') ∧ Own w' base e (.slice (some ⟨g, 0, none⟩) i c) (xs.take i) ∧ w.grownBy w' (some g) := by
  obtain ⟨ti, z, h1, h2, h3, h4, h5, h6⟩ := he
  have hp := Flat.pos (α := α)
  have hl := hown.sl.1
  have hlt : (xs.take i).length = i := by rw [List.length_take]; omega
  have ho2 := hown.pre (Nat.le_of_lt hi)
  have hzs : z.cells.size = Flat.sz α := by rw [← Array.length_toList, h6, Flat.len]
  have hzl : (Builtin.zeroCells z.cells (n - i)).toList.length = (n - i) * Flat.sz α := by rw [Array.length_toList, size_zeroCells, hzs]
  have hz1 : ∀ v ∈ (Builtin.zeroCells z.cells (n - i)).toList, v.oneCell' = true := by
    intro v hv
    have hv2 : v ∈ z.cells.toList := by
      simp only [Builtin.zeroCells, Array.mem_toList_iff] at hv
      simp at hv
      obtain ⟨j, hj, rfl⟩ := hv
      have hj2 : j % z.cells.size < z.cells.size := Nat.mod_lt _ (by omega)
      rw [getElem!_pos z.cells _ hj2, Array.mem_toList_iff]
      exact Array.getElem_mem hj2
    rw [h6] at hv2
    exact Flat.one d v hv2
  rcases hown.2 with ⟨hv, h0⟩ | ⟨g', cap, cur, hv, hb, hg, hnc, hcm, hcs, ht⟩
  · cases hv
  · injection hv with e1 e2 e3
    injection e1 with e1
    injection e1 with e1
    subst e1; subst e3
    have hfit : i * Flat.sz α + (n - i) * Flat.sz α ≤ c * Flat.sz α := by rw [← Nat.add_mul]; exact Nat.mul_le_mul_right _ (by omega)
    have hst := run_storeCells_at P g (i * Flat.sz α) e (Builtin.zeroCells z.cells (n - i)).toList 0 cur w hg (by rw [hzl, hcs]; simpa using hfit) hz1
    simp only [Nat.add_zero] at hst
    have hrun : ∀ ty, (Builtin.clear_ #[t] ty #[.slice (some ⟨g, i * Flat.sz α, none⟩) (n - i) (c - i)]).run P w = .ok (.tuple #[]) (w.setRow g (cur.toList.take (i * Flat.sz α) ++ (Builtin.zeroCells z.cells (n - i)).toList ++ cur.toList.drop (i * Flat.sz α + (Builtin.zeroCells z.cells (n - i)).toList.length)).toArray) := by
      intro ty
      obtain ⟨m, hm⟩ : ∃ m, n - i = m + 1 := ⟨n - i - 1, by omega⟩
      rw [hm] at hst ⊢
      simp [Builtin.clear_, run_underlying h1, run_zero h2 h3, hst]
    refine ⟨_, hrun, ?_, ⟨rfl, rfl, rfl, by simp, fun k _ hk => setRow_other w g k _ (fun e => hk (by rw [e]))⟩⟩
    have hcl : (cur.toList.take (i * Flat.sz α)).length = i * Flat.sz α := by
      rw [List.length_take, Array.length_toList, hcs, Nat.min_eq_left]; omega
    refine ⟨by rw [cellsOf_length], .inr ⟨g, c, _, by rw [hlt], hb, setRow_heap w g cur _ e _ hg, by rw [hlt]; omega, hcm, ?_, ?_⟩⟩
    · simp only [List.size_toArray, List.length_append, List.length_drop, Array.length_toList, hzl, hcl, hcs]
      omega
    · rw [hlt]
      simp only [List.append_assoc]
      rw [List.take_append_of_le_length (by rw [hcl]; exact Nat.le_refl _), List.take_of_length_le (by rw [hcl]; exact Nat.le_refl _)]
      rcases ho2.2 with ⟨hv, _⟩ | ⟨g2, cap2, cur2, hv2, _, hg2, _, _, _, ht2⟩
      · cases hv
      · injection hv2 with e1 _ _
        injection e1 with e1
        injection e1 with e1
        subst e1
        rw [hg] at hg2
        injection hg2 with hg2
        injection hg2 with hg2
        subst hg2
        rw [hlt] at ht2
        exact ht2
end Go.Proofs.Ytgjnjfaohpmhkaa
