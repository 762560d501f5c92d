/-
  A stable sort of places by a key, in plain words. No conditions.
-/
import Derived.Test.YtgjnjfaohpmhkaaMem6
namespace Go.Proofs.Ytgjnjfaohpmhkaa
open Go.RowKit

/-- by key, then by place -/
def ltK (key : Int → Int) (a b : Int) : Prop := key a < key b ∨ (key a = key b ∧ a < b)
theorem ltK_tr {key : Int → Int} {a b c : Int} (h : ltK key a b) (h' : ltK key b c) : ltK key a c := by
  unfold ltK at *; omega
theorem ltK_irr {key : Int → Int} {a : Int} : ¬ ltK key a a := by unfold ltK; omega
def SrtK (key : Int → Int) (l : List Int) : Prop := l.Pairwise (ltK key)
theorem srtK_unique {key : Int → Int} : ∀ {l m : List Int}, SrtK key l → SrtK key m → l.Perm m → l = m
  | [], m, _, _, h => by rw [List.nil_perm.1 h]
  | x :: l, [], _, _, h => absurd h.length_eq (by simp)
  | x :: l, y :: m, hl, hm, h => by
    have e : x = y := by
      rcases List.mem_cons.1 (h.mem_iff.1 List.mem_cons_self : x ∈ y :: m) with e | hx
      · exact e
      · rcases List.mem_cons.1 (h.mem_iff.2 List.mem_cons_self : y ∈ x :: l) with e | hy
        · exact e.symm
        · exact absurd (ltK_tr (List.rel_of_pairwise_cons hm hx) (List.rel_of_pairwise_cons hl hy)) ltK_irr
    subst e
    exact congrArg (x :: ·) (srtK_unique (List.pairwise_cons.1 hl).2 (List.pairwise_cons.1 hm).2 (List.Perm.cons_inv h))
def Cross (key : Int → Int) (A B : List Int) : Prop := ∀ x, x ∈ A → ∀ y, y ∈ B → key x = key y → x < y
/-- two runs merged by halves -/
theorem merge_halves {key : Int → Int} {A1 A2 B1 B2 M1 M2 : List Int} (hA : SrtK key (A1 ++ A2)) (hB : SrtK key (B1 ++ B2)) (hc : Cross key (A1 ++ A2) (B1 ++ B2))
    (h1 : ∀ x, x ∈ A1 → ∀ y, y ∈ B2 → key x ≤ key y) (h2 : ∀ x, x ∈ A2 → ∀ y, y ∈ B1 → key y < key x)
    (p1 : M1.Perm (A1 ++ B1)) (p2 : M2.Perm (A2 ++ B2)) (s1 : SrtK key M1) (s2 : SrtK key M2) : (M1 ++ M2).Perm ((A1 ++ A2) ++ (B1 ++ B2)) ∧ SrtK key (M1 ++ M2) := by
  constructor
  · refine (p1.append p2).trans ?_
    rw [List.append_assoc, List.append_assoc]
    refine List.Perm.append_left A1 ?_
    rw [← List.append_assoc, ← List.append_assoc]
    exact List.Perm.append_right B2 List.perm_append_comm
  · refine List.pairwise_append.2 ⟨s1, s2, fun x hx y hy => ?_⟩
    have ha := (List.pairwise_append.1 hA).2.2
    have hb := (List.pairwise_append.1 hB).2.2
    rcases List.mem_append.1 (p1.mem_iff.1 hx) with hx | hx <;> rcases List.mem_append.1 (p2.mem_iff.1 hy) with hy | hy
    · exact ha x hx y hy
    · have k1 := h1 x hx y hy
      have k2 := hc x (List.mem_append.2 (.inl hx)) y (List.mem_append.2 (.inr hy))
      unfold ltK
      by_cases e : key x = key y
      · exact .inr ⟨e, k2 e⟩
      · left; omega
    · exact .inl (h2 y hy x hx)
    · exact hb x hx y hy
/-- one put into a run from the left, and from the right -/
theorem put_left {key : Int → Int} {x : Int} {B1 B2 : List Int} (hB : SrtK key (B1 ++ B2)) (hc : Cross key [x] (B1 ++ B2)) (h1 : ∀ y, y ∈ B1 → key y < key x) (h2 : ∀ y, y ∈ B2 → key x ≤ key y) :
    (B1 ++ ([x] ++ B2)).Perm ([x] ++ (B1 ++ B2)) ∧ SrtK key (B1 ++ ([x] ++ B2)) := by
  constructor
  · rw [← List.append_assoc, ← List.append_assoc]
    exact List.Perm.append_right B2 List.perm_append_comm
  · obtain ⟨b1, b2, b3⟩ := List.pairwise_append.1 hB
    refine List.pairwise_append.2 ⟨b1, List.pairwise_cons.2 ⟨fun y hy => ?_, b2⟩, fun y hy z hz => ?_⟩
    · have k1 := h2 y hy
      have k2 := hc x (List.mem_singleton.2 rfl) y (List.mem_append.2 (.inr hy))
      unfold ltK
      by_cases e : key x = key y
      · exact .inr ⟨e, k2 e⟩
      · left; omega
    · rcases List.mem_cons.1 hz with rfl | hz
      · exact .inl (h1 y hy)
      · exact b3 y hy z hz
theorem put_right {key : Int → Int} {y : Int} {A1 A2 : List Int} (hA : SrtK key (A1 ++ A2)) (hc : Cross key (A1 ++ A2) [y]) (h1 : ∀ x, x ∈ A1 → key x ≤ key y) (h2 : ∀ x, x ∈ A2 → key y < key x) :
    (A1 ++ ([y] ++ A2)).Perm ((A1 ++ A2) ++ [y]) ∧ SrtK key (A1 ++ ([y] ++ A2)) := by
  constructor
  · rw [List.append_assoc]
    exact List.Perm.append_left A1 List.perm_append_comm
  · obtain ⟨b1, b2, b3⟩ := List.pairwise_append.1 hA
    refine List.pairwise_append.2 ⟨b1, List.pairwise_cons.2 ⟨fun x hx => .inl (h2 x hx), b2⟩, fun x hx z hz => ?_⟩
    rcases List.mem_cons.1 hz with rfl | hz
    · have k1 := h1 x hx
      have k2 := hc x (List.mem_append.2 (.inl hx)) z (List.mem_singleton.2 rfl)
      unfold ltK
      by_cases e : key x = key z
      · exact .inr ⟨e, k2 e⟩
      · left; omega
    · exact b3 x hx z hz
/-- in a run the keys rise -/
theorem srt_key {key : Int → Int} {l : List Int} (h : SrtK key l) {i j : Nat} (hij : i ≤ j) (hj : j < l.length) : key (nth l i) ≤ key (nth l j) := by
  by_cases e : i = j
  · subst e; exact Int.le_refl _
  · have h1 := List.pairwise_iff_getElem.1 h i j (by omega) hj (by omega)
    have e1 : l[i]'(by omega) = nth l i := (nth_get (List.getElem?_eq_getElem (by omega))).symm
    have e2 : l[j] = nth l j := (nth_get (List.getElem?_eq_getElem hj)).symm
    rw [e1, e2] at h1
    unfold ltK at h1
    omega
theorem mem_nth {l : List Int} {x : Int} (h : x ∈ l) : ∃ i, i < l.length ∧ nth l i = x := by
  obtain ⟨i, hi, e⟩ := List.getElem_of_mem h
  exact ⟨i, hi, by rw [← e]; exact nth_get (List.getElem?_eq_getElem hi)⟩
theorem nth_take {α : Type} [Inhabited α] {l : List α} {k i : Nat} (h : i < k) : nth (l.take k) i = nth l i := by
  unfold nth; rw [List.getD_eq_getElem?_getD, List.getD_eq_getElem?_getD, List.getElem?_take_of_lt h]
theorem nth_dropK {α : Type} [Inhabited α] {l : List α} {k i : Nat} : nth (l.drop k) i = nth l (k + i) := by
  unfold nth; rw [List.getD_eq_getElem?_getD, List.getD_eq_getElem?_getD, List.getElem?_drop]
theorem nth_left {α : Type} [Inhabited α] {l m : List α} {i : Nat} (h : i < l.length) : nth (l ++ m) i = nth l i := by
  unfold nth; rw [List.getD_eq_getElem?_getD, List.getD_eq_getElem?_getD, List.getElem?_append_left h]
theorem nth_right {α : Type} [Inhabited α] {l m : List α} {i : Nat} (h : l.length ≤ i) : nth (l ++ m) i = nth m (i - l.length) := by
  unfold nth; rw [List.getD_eq_getElem?_getD, List.getD_eq_getElem?_getD, List.getElem?_append_right h]
theorem ext_nth {α : Type} [Inhabited α] {l m : List α} (hl : l.length = m.length) (h : ∀ i, i < l.length → nth l i = nth m i) : l = m := by
  refine List.ext_getElem hl fun i h1 h2 => ?_
  have := h i h1
  rwa [nth_get (List.getElem?_eq_getElem h1), nth_get (List.getElem?_eq_getElem h2)] at this
/-- where the two runs are cut: s in the one, e in the other -/
theorem cut_facts {key : Int → Int} {A B : List Int} {s e : Nat} (hA : SrtK key A) (hB : SrtK key B) (hs : s ≤ A.length) (he : e ≤ B.length)
    (h1 : s = 0 ∨ e = B.length ∨ key (nth A (s - 1)) ≤ key (nth B e)) (h2 : s = A.length ∨ e = 0 ∨ key (nth B (e - 1)) < key (nth A s)) :
    (∀ x, x ∈ A.take s → ∀ y, y ∈ B.drop e → key x ≤ key y) ∧ (∀ x, x ∈ A.drop s → ∀ y, y ∈ B.take e → key y < key x) := by
  constructor
  · intro x hx y hy
    obtain ⟨i, hi, rfl⟩ := mem_nth hx
    obtain ⟨j, hj, rfl⟩ := mem_nth hy
    rw [List.length_take] at hi
    rw [List.length_drop] at hj
    rw [nth_take (by omega), nth_dropK]
    rcases h1 with h | h | h
    · omega
    · omega
    · have a1 := srt_key hA (i := i) (j := s - 1) (by omega) (by omega)
      have a2 := srt_key hB (i := e) (j := e + j) (by omega) (by omega)
      omega
  · intro x hx y hy
    obtain ⟨i, hi, rfl⟩ := mem_nth hx
    obtain ⟨j, hj, rfl⟩ := mem_nth hy
    rw [List.length_drop] at hi
    rw [List.length_take] at hj
    rw [nth_take (by omega), nth_dropK]
    rcases h2 with h | h | h
    · omega
    · omega
    · have a1 := srt_key hB (i := j) (j := e - 1) (by omega) (by omega)
      have a2 := srt_key hA (i := s) (j := s + i) (by omega) (by omega)
      omega
theorem SrtK.take {key : Int → Int} {l : List Int} (h : SrtK key l) (k : Nat) : SrtK key (l.take k) := List.Pairwise.sublist (List.take_sublist _ _) h
theorem SrtK.drop {key : Int → Int} {l : List Int} (h : SrtK key l) (k : Nat) : SrtK key (l.drop k) := List.Pairwise.sublist (List.drop_sublist _ _) h

end Go.Proofs.Ytgjnjfaohpmhkaa
