/-
  RenewSkill: what it answers. No conditions.
-/
import Derived.Test.YtgjnjfaohpmhkaaSkillB
import Derived.Test.YtgjnjfaohpmhkaaMem6
import Derived.Lib.Strings
namespace Go.Proofs.Ytgjnjfaohpmhkaa
open Go.RowKit

theorem sk_or {x y : Skill} : skLess x y = true ↔ (Op.bytesLess x.Person.toList y.Person.toList = true ∨ (x.Person.toList = y.Person.toList ∧ x.Kind < y.Kind)) := by
  unfold skLess; simp
theorem sk_tr {x y z : Skill} (h : skLess x y = true) (h' : skLess y z = true) : skLess x z = true := by
  rw [sk_or] at h h' ⊢
  rcases h with h | ⟨h, k⟩ <;> rcases h' with h' | ⟨h', k'⟩
  · exact .inl (bl_tr h h')
  · rw [h'] at h; exact .inl h
  · rw [← h] at h'; exact .inl h'
  · exact .inr ⟨h.trans h', by omega⟩
theorem sk_same {x y : Skill} (h : skLess x y = false) (h' : skLess y x = false) : x.Person = y.Person ∧ x.Kind = y.Kind := by
  have h1 : ¬ skLess x y = true := by rw [h]; exact Bool.false_ne_true
  have h2 : ¬ skLess y x = true := by rw [h']; exact Bool.false_ne_true
  rw [sk_or] at h1 h2
  have b1 : Op.bytesLess x.Person.toList y.Person.toList = false := by cases e : Op.bytesLess x.Person.toList y.Person.toList with | false => rfl | true => exact absurd (.inl e) h1
  have b2 : Op.bytesLess y.Person.toList x.Person.toList = false := by cases e : Op.bytesLess y.Person.toList x.Person.toList with | false => rfl | true => exact absurd (.inl e) h2
  have e := bl_tot b1 b2
  have k1 : ¬ x.Kind < y.Kind := fun k => h1 (.inr ⟨e, k⟩)
  have k2 : ¬ y.Kind < x.Kind := fun k => h2 (.inr ⟨e.symm, k⟩)
  refine ⟨?_, by omega⟩
  have e2 : x.Person.data.toList = y.Person.data.toList := by rw [← Lib.toList_data, ← Lib.toList_data]; exact e
  have e3 : x.Person.data = y.Person.data := Array.toList_inj.1 e2
  cases hx : x.Person; cases hy : y.Person
  rw [hx, hy] at e3
  simp only at e3
  rw [e3]
theorem cmpSk_lt (x y : Skill) : (cmpSk x y < 0) ↔ skLess x y = true := by
  have h := cmpSk_less x y
  cases e : skLess x y
  · rw [e] at h
    have : cmpSk x y ≥ 0 := by simpa using h
    constructor
    · intro; omega
    · intro h2; cases h2
  · rw [e] at h
    have : ¬ cmpSk x y ≥ 0 := by simpa using h
    constructor
    · intro; rfl
    · intro; omega
theorem cmpSk_self {x y : Skill} (hp : x.Person = y.Person) (hk : x.Kind = y.Kind) : cmpSk x y = 0 := by
  unfold cmpSk or2 cmpS cmpI
  rw [hp, hk, bl_irr]; simp
theorem cmpSk_zero {x y : Skill} (h : cmpSk x y = 0) : skLess x y = false ∧ skLess y x = false := by
  have h1 : skLess x y = false := by
    cases e : skLess x y with
    | false => rfl
    | true => have := (cmpSk_lt x y).2 e; omega
  refine ⟨h1, ?_⟩
  cases e : skLess y x with
  | false => rfl
  | true =>
    rw [sk_or] at e
    unfold cmpSk or2 cmpS cmpI at h
    rcases e with e | ⟨e, k⟩
    · have e2 : Op.bytesLess x.Person.toList y.Person.toList = false := by
        cases e3 : Op.bytesLess x.Person.toList y.Person.toList with
        | false => rfl
        | true => have := bl_tr e e3; rw [bl_irr] at this; cases this
      simp [e, e2] at h
    · have k2 : ¬ x.Kind < y.Kind := by omega
      rw [e, bl_irr] at h
      simp [k, k2] at h
theorem skills_adj {l : List Skill} (h : skillsB l = true) {j : Nat} (hj : j < l.length) (h0 : 0 < j) : skLess (nth l (j - 1)) (nth l j) = true := by
  have h1 := skillsB_at h hj
  simp only [okSkill, decide_eq_true h0, Bool.true_and, Bool.and_eq_true, Bool.not_not] at h1
  exact h1.2
theorem skills_srt {l : List Skill} (h : skillsB l = true) : ∀ b a, a < b → b < l.length → skLess (nth l a) (nth l b) = true := by
  intro b
  induction b with
  | zero => intro a h1; omega
  | succ b ih =>
    intro a h1 h2
    have h3 := skills_adj h h2 (by omega)
    rw [Nat.add_sub_cancel] at h3
    by_cases e : a = b
    · rw [e]; exact h3
    · exact sk_tr (ih a (by omega) (by omega)) h3
theorem skills_mono {l : List Skill} (h : skillsB l = true) (t : Skill) {n : Nat} (hl : l.length = n) : ∀ a b, a ≤ b → b < n → cmpSk (nth l b) t < 0 → cmpSk (nth l a) t < 0 := by
  intro a b hab hb hc
  by_cases e : a = b
  · rw [e]; exact hc
  · rw [cmpSk_lt] at hc ⊢
    exact sk_tr (skills_srt h b a (by omega) (by omega)) hc
theorem nth_put {l : List Skill} {k k' : Nat} {x : Skill} (hk : k ≤ l.length) (j : Nat) : nth (l.take k ++ [x] ++ l.drop k') j = if j < k then nth l j else if j = k then x else nth l (j - (k + 1) + k') := by
  have hkl : (l.take k).length = k := by rw [List.length_take]; omega
  have hkl2 : (l.take k ++ [x]).length = k + 1 := by rw [List.length_append, hkl]; rfl
  unfold nth
  simp only [List.getD_eq_getElem?_getD]
  split
  · rename_i h
    rw [List.append_assoc, List.getElem?_append_left (by omega), List.getElem?_take_of_lt h]
  · rename_i h
    split
    · rename_i h2
      subst h2
      rw [List.getElem?_append_left (by omega), List.getElem?_append_right (by omega), hkl, Nat.sub_self]; rfl
    · rename_i h2
      rw [List.getElem?_append_right (by omega), hkl2, List.getElem?_drop, Nat.add_comm]
theorem put_ok {l : List Skill} {k k' : Nat} {x : Skill} (hs : skillsB l = true) (hx : skillB x = true) (hk : k ≤ l.length) (h1 : ∀ j, j < k → skLess (nth l j) x = true) (hk1 : k ≤ k') (hk2 : k' ≤ k + 1) (h2 : k' < l.length → skLess x (nth l k') = true) :
    skillsB (l.take k ++ [x] ++ l.drop k') = decide ((l.take k ++ [x] ++ l.drop k').length ≤ 24) := by
  have hlen : (l.take k ++ [x] ++ l.drop k').length = k + 1 + (l.length - k') := by
    simp only [List.length_append, List.length_take, List.length_drop, List.length_cons, List.length_nil]; omega
  refine skillsB_all fun j hj => okSkill_y ?_ ?_
  · rw [nth_put hk]
    split
    · exact skill_at hs (by omega)
    · split
      · exact hx
      · exact skill_at hs (by omega)
  · by_cases h0 : 0 < j
    · refine .inr ?_
      rw [nth_put hk, nth_put hk]
      by_cases a1 : j < k
      · rw [if_pos (by omega), if_pos a1]; exact skills_adj hs (by omega) h0
      · by_cases a2 : j = k
        · rw [if_pos (by omega), if_neg a1, if_pos a2]; exact h1 _ (by omega)
        · rw [if_neg (by omega), if_neg a1, if_neg a2]
          by_cases a3 : j = k + 1
          · rw [if_pos (by omega)]
            have e : j - (k + 1) + k' = k' := by omega
            rw [e]; exact h2 (by omega)
          · rw [if_neg (by omega)]
            have e : j - 1 - (k + 1) + k' = j - (k + 1) + k' - 1 := by omega
            rw [e]; exact skills_adj hs (by omega) (by omega)
    · exact .inl h0
def placeK (xs : List Skill) (x : Skill) : Nat := if indexF (fun y => !skLess y x) xs = -1 then xs.length else (indexF (fun y => !skLess y x) xs).toNat
theorem placeK_at {xs : List Skill} {x : Skill} {k n : Nat} (hl : xs.length = n) (hk : k ≤ n) (h1 : ∀ j, j < k → skLess (nth xs j) x = true) (h2 : k < n → skLess (nth xs k) x = false) : placeK xs x = k := by
  unfold placeK
  by_cases h : k < n
  · rw [indexF_hit (k := k) (by omega) (by simp [h2 h]) (fun j hj => by simp [h1 j hj]), if_neg (by omega)]
    omega
  · have hkn : k = n := by omega
    rw [indexF_none (fun j hj => by simp [h1 j (by omega)]), if_pos rfl]
    omega
def renF (l : List Skill) (x : Skill) : List Skill × Bool :=
  if skillsB l && skillB x then
    if decide (placeK l x < l.length) && !skLess x (nth l (placeK l x)) then
      if x.Until < (nth l (placeK l x)).Until then ([], false) else (l.take (placeK l x) ++ [x] ++ l.drop (placeK l x + 1), true)
    else if l.length = 24 then ([], false) else (l.take (placeK l x) ++ [x] ++ l.drop (placeK l x), true)
  else ([], false)
theorem renF_no {l : List Skill} {x : Skill} (h : (skillsB l && skillB x) = false) : renF l x = ([], false) := by unfold renF; rw [if_neg (by rw [h]; exact Bool.false_ne_true)]
theorem renF_late {l : List Skill} {x : Skill} {k n : Nat} (hs : skillsB l = true) (hx : skillB x = true) (hl : l.length = n) (hk : k < n) (h1 : ∀ j, j < k → skLess (nth l j) x = true) (h2 : skLess (nth l k) x = false) (h3 : skLess x (nth l k) = false) (h4 : x.Until < (nth l k).Until) : renF l x = ([], false) := by
  have e := placeK_at hl (Nat.le_of_lt hk) h1 (fun _ => h2)
  unfold renF
  rw [e, if_pos (by rw [hs, hx]; rfl), if_pos (by simp [h3]; omega), if_pos h4]
theorem renF_same {l : List Skill} {x : Skill} {k n : Nat} (hs : skillsB l = true) (hx : skillB x = true) (hl : l.length = n) (hk : k < n) (h1 : ∀ j, j < k → skLess (nth l j) x = true) (h2 : skLess (nth l k) x = false) (h3 : skLess x (nth l k) = false) (h4 : ¬ x.Until < (nth l k).Until) : renF l x = (l.take k ++ [x] ++ l.drop (k + 1), true) := by
  have e := placeK_at hl (Nat.le_of_lt hk) h1 (fun _ => h2)
  unfold renF
  rw [e, if_pos (by rw [hs, hx]; rfl), if_pos (by simp [h3]; omega), if_neg h4]
theorem renF_full {l : List Skill} {x : Skill} {k n : Nat} (hs : skillsB l = true) (hx : skillB x = true) (hl : l.length = n) (hk : k ≤ n) (h1 : ∀ j, j < k → skLess (nth l j) x = true) (h2 : k < n → skLess (nth l k) x = false) (h3 : k < n → skLess x (nth l k) = true) (h4 : n = 24) : renF l x = ([], false) := by
  have e := placeK_at hl hk h1 h2
  unfold renF
  rw [e, if_pos (by rw [hs, hx]; rfl), if_neg (by
    intro h
    simp only [Bool.and_eq_true, decide_eq_true_eq] at h
    rw [h3 (by omega)] at h
    exact absurd h.2 Bool.false_ne_true), if_pos (by omega)]
theorem renF_new {l : List Skill} {x : Skill} {k n : Nat} (hs : skillsB l = true) (hx : skillB x = true) (hl : l.length = n) (hk : k ≤ n) (h1 : ∀ j, j < k → skLess (nth l j) x = true) (h2 : k < n → skLess (nth l k) x = false) (h3 : k < n → skLess x (nth l k) = true) (h4 : ¬ n = 24) : renF l x = (l.take k ++ [x] ++ l.drop k, true) := by
  have e := placeK_at hl hk h1 h2
  unfold renF
  rw [e, if_pos (by rw [hs, hx]; rfl), if_neg (by
    intro h
    simp only [Bool.and_eq_true, decide_eq_true_eq] at h
    rw [h3 (by omega)] at h
    exact absurd h.2 Bool.false_ne_true), if_neg (by omega)]
theorem renF_len (l : List Skill) (x : Skill) : (renF l x).1.length ≤ 1048576 := by
  unfold renF
  split
  · rename_i h
    simp only [Bool.and_eq_true] at h
    have h1 := skillsB_len h.1
    split
    · split
      · simp
      · simp only [List.length_append, List.length_take, List.length_drop, List.length_cons, List.length_nil]; omega
    · split
      · simp
      · simp only [List.length_append, List.length_take, List.length_drop, List.length_cons, List.length_nil]; omega
  · simp

end Go.Proofs.Ytgjnjfaohpmhkaa
