/-
  append of a whole slice, run; and at a step of a region that draws its order. No conditions.
-/
import Derived.Test.YtgjnjfaohpmhkaaMem7
import Derived.Test.YtgjnjfaohpmhkaaMem4
namespace Go.Proofs.Ytgjnjfaohpmhkaa
open Go.RowKit

/-- append(xs, ys...) onto a slice of the call's own, run. -/
theorem run_appN {α : Type} [Flat α] {P : Program} (t ty e : TypeId) (he : Elem P t e (Flat.sz α)) {base : Nat} {w : World} {A B : Option Addr} {n c m d : Nat} {xs ys : List α}
    (hown : Own w base e (.slice A n c) xs) (hbase : base ≤ w.heap.size) (hy : Sl w B m ys) (hlim : n + m ≤ 274877906944) :
    ∃ A' c' w', (Builtin.append_ #[t, t] ty #[.slice A n c, .slice B m d]).run P w = .ok (.slice A' (n + m) c') w' ∧ Own w' base e (.slice A' (n + m) c') (xs ++ ys) ∧ w.grownBy w' (Value.ownBlock (.slice A n c)) := by
  obtain ⟨i, z, h1, h2, h3, h4, h5, h6⟩ := he
  have hn := hown.sl.1
  have hm := hy.1
  have ho1 : w.ownsRow base e (Flat.sz α) (.slice A n c) n (cellsOf xs) := by
    have := hown
    unfold Own at this
    rwa [hn] at this
  have fin : ∀ (news : List Value) (v' : Value) (w' : World), news = cellsOf ys → w'.ownsRow base e (Flat.sz α) v' (n + m) (cellsOf xs ++ news) → ∃ A' c', v' = .slice A' (n + m) c' ∧ Own w' base e (.slice A' (n + m) c') (xs ++ ys) := by
    intro news v' w' hnw hown'
    subst hnw
    have hnx : (xs ++ ys).length = n + m := by simp [hn, hm]
    have hO : Own w' base e v' (xs ++ ys) := by unfold Own; rw [hnx, cellsOf_append]; exact hown'
    obtain ⟨A', c', rfl⟩ := hO.slice
    rw [hnx] at hO
    exact ⟨A', c', by rw [hnx], hO⟩
  cases B with
  | none =>
    obtain ⟨rfl, rfl⟩ := hy.none_len
    have hrun := run_append_of_nil (P := P) w base t ty e i (Flat.sz α) h1 h2 _ n (cellsOf xs) ho1 d
    exact ⟨A, c, w, hrun, by simpa using hown, gb_refl _ _⟩
  | some ad =>
    by_cases hm0 : m = 0
    · subst hm0
      have hys : ys = [] := List.eq_nil_of_length_eq_zero hm
      subst hys
      obtain ⟨v', w', hr, ho, hg, _⟩ := run_append_own (P := P) w base t ty e i z (Flat.sz α) i.bytes h1 h2 h3 h4 rfl h6 Flat.pos _ n (cellsOf xs) ho1 ad 0 d [] (by simp) (by intro j u hu; simp at hu) (by intro u hu; simp at hu) (by unfold maxLen; omega) (by
        have : (n + 0) * i.bytes ≤ (n + 0) * 256 := Nat.mul_le_mul_left _ h5
        omega) hbase
      obtain ⟨A', c', rfl, hO⟩ := fin [] v' w' rfl ho
      exact ⟨A', c', w', hr, hO, hg⟩
    · have hspot : ∃ b o, ad = ⟨b, o, none⟩ := by
        obtain ⟨b, o, cs, hA, _⟩ := hy.2 0 _ (List.getElem?_eq_getElem (by omega))
        injection hA with hA
        exact ⟨b, o, hA⟩
      obtain ⟨b, off, rfl⟩ := hspot
      obtain ⟨v', w', hr, ho, hg, _⟩ := run_append_own (P := P) w base t ty e i z (Flat.sz α) i.bytes h1 h2 h3 h4 rfl h6 Flat.pos _ n (cellsOf xs) ho1 ⟨b, off, none⟩ m d (cellsOf ys) (by rw [cellsOf_length, hm]) (by
        intro j u hu
        rw [addr_add]
        exact hy.cells j u hu) (cellsOf_oneCell ys) (by unfold maxLen; omega) (by
        have : (n + m) * i.bytes ≤ (n + m) * 256 := Nat.mul_le_mul_left _ h5
        omega) hbase
      obtain ⟨A', c', rfl, hO⟩ := fin _ v' w' rfl ho
      exact ⟨A', c', w', hr, hO, hg⟩
/-- At a step of a region that draws its order. -/
theorem step_appN {α : Type} [Flat α] {P : Program} {ops : Array Oper} {o : Oper} {a : Act} {w : World} {K : Act → World → Prop} {Q : Exit → Act → World → Prop} {E : Prop} (hgd : o.guard = none) (s x : Operand) (t e : TypeId)
    (ho : o.op = .call { callee := .builtin .append, args := #[s, x], argTypes := #[t, t] }) (he : Elem P t e (Flat.sz α)) {base : Nat} {A B : Option Addr} {n c m d : Nat} {xs ys : List α} (hs : a.eval s = .slice A n c) (hx : a.eval x = .slice B m d)
    (hown : Own w base e (.slice A n c) xs) (hbase : base ≤ w.heap.size) (hy : Sl w B m ys) (hlim : n + m ≤ 274877906944)
    (h : ∀ A' c' w', Own w' base e (.slice A' (n + m) c') (xs ++ ys) → w.grownBy w' (Value.ownBlock (.slice A n c)) → K (a.put o.dst (.slice A' (n + m) c')) w') :
    if Region.wanted o (yielded ops a.tmps) = true then Oper.wp P o a w K Q else E := by
  have hw : Region.wanted o (yielded ops a.tmps) = true := by simp [Region.wanted, hgd]
  rw [if_pos hw]
  obtain ⟨A', c', w', hr, h1, h2⟩ := run_appN (P := P) t o.type e he hown hbase hy hlim
  unfold Oper.wp execOp
  simp only [ho, resolve, invoke, builtin, Sem.run_bind, Sem.run_pure, Result.andThen_ok, List.map_toArray, List.map_cons, List.map_nil, hs, hx]
  rw [hr]
  exact h A' c' w' h1 h2

end Go.Proofs.Ytgjnjfaohpmhkaa
