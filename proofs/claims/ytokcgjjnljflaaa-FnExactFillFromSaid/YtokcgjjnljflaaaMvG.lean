/-
  Filling, in plain words. No conditions.
-/
import Derived.Test.YtokcgjjnljflaaaMvO
import Derived.Test.YtokcgjjnljflaaaMvK
namespace Go.Proofs.Ytokcgjjnljflaaa
open Go.RowKit

theorem mvF_true {x y : Load} {nm : ByteArray} {q : Int} (hq : 1 ≤ q) (h : (mvF x y nm q).2.2 = true) : ∃ k : Nat, indexF (nmT nm) x.Things = k ∧ loadB y.Appliance (mvB x y nm q k) = true ∧ mvF x y nm q = (⟨x.Appliance, takeT x.Things k q⟩, ⟨y.Appliance, mvB x y nm q k⟩, true) := by
  by_cases hf : countF x.Things nm < q
  · rw [mvF_few hf] at h; cases h
  · by_cases hk : ∃ k : Nat, indexF (nmT nm) x.Things = k
    · obtain ⟨k, hk⟩ := hk
      cases hb : loadB y.Appliance (mvB x y nm q k) with
      | false => rw [mvF_bad hf hk hb] at h; cases h
      | true => exact ⟨k, hk, hb, mvF_good hf hk hb⟩
    · have hc := count_few (xs := x.Things) (nm := nm) (fun k e => hk ⟨k, e⟩)
      omega
/-- what is known of a load that is moved from and of one that is moved to -/
theorem mv_valid {x y : Load} {nm : ByteArray} {q : Int} (hx : loadB x.Appliance x.Things = true) (hq : 1 ≤ q) (h : (mvF x y nm q).2.2 = true) : loadB (mvF x y nm q).1.Appliance (mvF x y nm q).1.Things = true ∧ loadB (mvF x y nm q).2.1.Appliance (mvF x y nm q).2.1.Things = true := by
  obtain ⟨k, hk, hb, e⟩ := mvF_true hq h
  rw [e]
  refine ⟨?_, hb⟩
  have ht := take_ok (n := q) (loadB_things hx) (index_at hk) hq
  show loadB x.Appliance (takeT x.Things k q) = true
  unfold loadB at hx ⊢
  rw [ht]
  simp only [Bool.and_eq_true] at hx ⊢
  exact ⟨hx.1, trivial⟩
theorem nameB_len {s : ByteArray} (h : nameB s = true) : s.size ≤ maxLen := by have := nameB_size h; unfold maxLen; omega
theorem loadB_sz {s : ByteArray} {xs : List Thing} (h : loadB s xs = true) : s.size ≤ maxLen := by unfold loadB at h; simp only [Bool.and_eq_true] at h; exact nameB_len h.1
theorem loadB_szs {s : ByteArray} {xs : List Thing} (h : loadB s xs = true) : ∀ x, x ∈ xs → x.Name.size ≤ maxLen := fun x hx => by
  obtain ⟨k, hk⟩ := List.getElem?_of_mem hx
  have hkl := (List.getElem?_eq_some_iff.1 hk).1
  have e : nth xs k = x := nth_get hk
  have h8 := (things_at (loadB_things h) hkl).1
  rw [e] at h8
  have := wordB_size h8
  unfold maxLen; omega
abbrev FSt := Load × List Load × Int
/-- one of the others gives what it can -/
noncomputable def stepF (nm : ByteArray) (k : Nat) (st : FSt) : Option FSt :=
  if min st.2.2 (countF (nth st.2.1 k).Things nm) = 0 then some st else
    if (mvF (nth st.2.1 k) st.1 nm (min st.2.2 (countF (nth st.2.1 k).Things nm))).2.2 then
      some ((mvF (nth st.2.1 k) st.1 nm (min st.2.2 (countF (nth st.2.1 k).Things nm))).2.1, st.2.1.set k (mvF (nth st.2.1 k) st.1 nm (min st.2.2 (countF (nth st.2.1 k).Things nm))).1, st.2.2 - min st.2.2 (countF (nth st.2.1 k).Things nm))
    else none
noncomputable def innerF (nm : ByteArray) (st : FSt) : Nat → Option FSt
  | 0 => some st
  | k + 1 => (innerF nm st k).bind (stepF nm k)
noncomputable def kindF (t : Thing) (p : Load × List Load) : Option (Load × List Load) :=
  (innerF t.Name (p.1, p.2, t.Count) p.2.length).bind fun q => if 0 < q.2.2 then none else some (q.1, q.2.1)
noncomputable def outerF (ms : List Thing) (p : Load × List Load) : Nat → Option (Load × List Load)
  | 0 => some p
  | k + 1 => (outerF ms p k).bind (kindF (nth ms k))
def noL : Load × List Load × Bool := (⟨ByteArray.empty, []⟩, [], false)
noncomputable def outF (o : Option (Load × List Load)) : Load × List Load × Bool := match o with | some p => (p.1, p.2, true) | none => noL
noncomputable def fillF (x : Load) (wanted : List Thing) (others : List Load) : Load × List Load × Bool := outF (outerF (moreL false x.Things wanted) (x, others) (moreL false x.Things wanted).length)
def okFill (x : Load) (wanted : List Thing) (others : List Load) : Bool := loadB x.Appliance x.Things && thingsB wanted && othersB x.Appliance others
noncomputable def fillT (x : Load) (wanted : List Thing) (others : List Load) : Load × List Load × Bool := if okFill x wanted others then fillF x wanted others else noL
theorem innerF_none {nm : ByteArray} {st : FSt} {k : Nat} (h : innerF nm st k = none) : ∀ {j : Nat}, k ≤ j → innerF nm st j = none := fun {j} hkj => by
  induction j with
  | zero => have e : k = 0 := by omega
            subst e; exact h
  | succ j ih =>
    by_cases e : k = j + 1
    · subst e; exact h
    · show (innerF nm st j).bind _ = none
      rw [ih (by omega)]; rfl
theorem outerF_none {ms : List Thing} {p : Load × List Load} {k : Nat} (h : outerF ms p k = none) : ∀ {j : Nat}, k ≤ j → outerF ms p j = none := fun {j} hkj => by
  induction j with
  | zero => have e : k = 0 := by omega
            subst e; exact h
  | succ j ih =>
    by_cases e : k = j + 1
    · subst e; exact h
    · show (outerF ms p j).bind _ = none
      rw [ih (by omega)]; rfl
theorem stepF_zero {nm : ByteArray} {k : Nat} {x : Load} {rest : List Load} {left : Int} (h : min left (countF (nth rest k).Things nm) = 0) : stepF nm k (x, rest, left) = some (x, rest, left) := by unfold stepF; rw [if_pos h]
theorem stepF_fail {nm : ByteArray} {k : Nat} {x : Load} {rest : List Load} {left n : Int} (hn : n = min left (countF (nth rest k).Things nm)) (h : n ≠ 0) (h' : (mvF (nth rest k) x nm n).2.2 = false) : stepF nm k (x, rest, left) = none := by
  subst hn; unfold stepF; rw [if_neg h, if_neg (by rw [h']; exact Bool.false_ne_true)]
theorem stepF_go {nm : ByteArray} {k : Nat} {x : Load} {rest : List Load} {left n : Int} (hn : n = min left (countF (nth rest k).Things nm)) (h : n ≠ 0) (h' : (mvF (nth rest k) x nm n).2.2 = true) : stepF nm k (x, rest, left) = some ((mvF (nth rest k) x nm n).2.1, rest.set k (mvF (nth rest k) x nm n).1, left - n) := by
  subst hn; unfold stepF; rw [if_neg h, if_pos h']
theorem innerF_succ {nm : ByteArray} {st st' : FSt} {k : Nat} (h : innerF nm st k = some st') : innerF nm st (k + 1) = stepF nm k st' := by show (innerF nm st k).bind _ = _; rw [h]; rfl
theorem outerF_succ {ms : List Thing} {p p' : Load × List Load} {k : Nat} (h : outerF ms p k = some p') : outerF ms p (k + 1) = kindF (nth ms k) p' := by show (outerF ms p k).bind _ = _; rw [h]; rfl
theorem kindF_none {t : Thing} {p : Load × List Load} {k : Nat} (h : innerF t.Name (p.1, p.2, t.Count) k = none) (hk : k ≤ p.2.length) : kindF t p = none := by unfold kindF; rw [innerF_none h hk]; rfl
theorem kindF_left {t : Thing} {p : Load × List Load} {q : FSt} (h : innerF t.Name (p.1, p.2, t.Count) p.2.length = some q) (hl : 0 < q.2.2) : kindF t p = none := by unfold kindF; rw [h]; show (if _ then _ else _) = _; rw [if_pos hl]
theorem kindF_some {t : Thing} {p : Load × List Load} {q : FSt} (h : innerF t.Name (p.1, p.2, t.Count) p.2.length = some q) (hl : ¬ 0 < q.2.2) : kindF t p = some (q.1, q.2.1) := by unfold kindF; rw [h]; show (if _ then _ else _) = _; rw [if_neg hl]
theorem fillF_none {x : Load} {wanted : List Thing} {others : List Load} {k : Nat} (h : outerF (moreL false x.Things wanted) (x, others) k = none) (hk : k ≤ (moreL false x.Things wanted).length) : fillF x wanted others = noL := by unfold fillF; rw [outerF_none h hk]; rfl
theorem fillF_some {x : Load} {wanted : List Thing} {others : List Load} {p : Load × List Load} (h : outerF (moreL false x.Things wanted) (x, others) (moreL false x.Things wanted).length = some p) : fillF x wanted others = (p.1, p.2, true) := by unfold fillF; rw [h]; rfl
/-- all loads valid -/
def AllL (xs : List Load) : Prop := ∀ k, k < xs.length → loadB (nth xs k).Appliance (nth xs k).Things = true
theorem AllL.set {xs : List Load} (h : AllL xs) {k : Nat} (hk : k < xs.length) {y : Load} (hy : loadB y.Appliance y.Things = true) : AllL (xs.set k y) := fun j hj => by
  rw [List.length_set] at hj
  rw [nth_set' hk hj]
  split
  · exact hy
  · exact h j hj
theorem more_at {keep : Bool} {ys xs : List Thing} (hx : thingsB xs = true) (hy : thingsB ys = true) {k : Nat} (hk : k < (moreL keep ys xs).length) : (nth (moreL keep ys xs) k).Name.size ≤ 8 ∧ 0 < (nth (moreL keep ys xs) k).Count ∧ (nth (moreL keep ys xs) k).Count ≤ 99 := by
  have hm := nth_mem hk
  generalize nth (moreL keep ys xs) k = t at hm
  unfold moreL at hm
  obtain ⟨u, hu, he⟩ := List.mem_filterMap.1 hm
  obtain ⟨j, hj⟩ := List.getElem?_of_mem hu
  have hjl := (List.getElem?_eq_some_iff.1 hj).1
  have e : nth xs j = u := nth_get hj
  obtain ⟨h1, ⟨h2, h3⟩, h4⟩ := things_at hx hjl
  rw [e] at h1 h2 h3
  have hw := wordB_size h1
  have hc := countF_in hy u.Name
  unfold moreF at he
  split at he
  · rename_i hlt
    injection he with he
    subst he
    exact ⟨by show u.Name.size ≤ 8; omega, by show 0 < u.Count - countF ys u.Name; omega, by show u.Count - countF ys u.Name ≤ 99; omega⟩
  · cases he

end Go.Proofs.Ytokcgjjnljflaaa
