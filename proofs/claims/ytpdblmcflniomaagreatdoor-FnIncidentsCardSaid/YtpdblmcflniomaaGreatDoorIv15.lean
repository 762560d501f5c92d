/-
  Several texts in one. No conditions.
-/
import Derived.Test.YtpdblmcflniomaaGreatDoorIv7
import Derived.Test.YtpdblmcflniomaaGreatDoorIv14
import Derived.Test.YtpdblmcflniomaaGreatDoorIv5
namespace Go.Proofs.YtpdblmcflniomaaGreatDoor
open Go.RowKit

theorem nth_ge {α : Type} [Inhabited α] {xs : List α} {k : Nat} (h : k < xs.length) : xs[k] = nth xs k := (nth_get (List.getElem?_eq_getElem h)).symm
theorem sort_pw {l : List ByteArray} : sortB l = true ↔ l.Pairwise (fun a b => Op.bytesLess a.toList b.toList = true) := by
  constructor
  · intro h
    have hr : Rises (fun s : ByteArray => s) l := rises_of (fun k h0 hk => by
      have := allB_iff.1 h k hk
      simp only [sortC, decide_eq_true h0] at this
      simpa using this)
    rw [List.pairwise_iff_getElem]
    intro i j hi hj hij
    have := hr i j hij hj
    rw [nth_ge hi, nth_ge hj]
    exact this
  · intro h
    rw [List.pairwise_iff_getElem] at h
    refine allB_true (fun k hk => sortC_y ?_)
    by_cases h0 : 0 < k
    · have := h (k - 1) k (by omega) hk (by omega)
      rw [nth_ge, nth_ge] at this
      exact .inr this
    · exact .inl h0
theorem allNm_iff {l : List ByteArray} : allNm l = true ↔ ∀ x, x ∈ l → nameB x = true := by
  unfold allNm
  rw [allB_iff]
  constructor
  · intro h x hx
    obtain ⟨k, hk, rfl⟩ := List.getElem_of_mem hx
    have := h k hk
    rwa [← nth_ge hk] at this
  · intro h k hk
    exact h _ (nth_mem hk)
theorem hasS_iff {l : List ByteArray} {s : ByteArray} : hasS l s = true ↔ s ∈ l := by
  unfold hasS
  rw [List.any_eq_true]
  constructor
  · rintro ⟨x, hx, h⟩
    have : x = s := bytes_inj (by simpa using h)
    subst this; exact hx
  · intro h; exact ⟨s, h, by simp⟩
/-- a name put at a place; the names without one -/
def insQ (l : List ByteArray) (q : Nat) (s : ByteArray) : List ByteArray := l.take q ++ [s] ++ l.drop q
def dropS (l : List ByteArray) (s : ByteArray) : List ByteArray := l.filter (fun x => !(x.toList == s.toList))
/-- the place of a name -/
def posS (l : List ByteArray) (s : ByteArray) : Nat := (l.takeWhile (fun p => Op.bytesLess p.toList s.toList)).length
theorem posS_le (l : List ByteArray) (s : ByteArray) : posS l s ≤ l.length := by
  unfold posS
  have := (List.takeWhile_prefix (l := l) (fun p => Op.bytesLess p.toList s.toList)).length_le
  exact this
theorem posS_take (l : List ByteArray) (s : ByteArray) : l.take (posS l s) = l.takeWhile (fun p => Op.bytesLess p.toList s.toList) := by
  unfold posS
  exact (List.prefix_iff_eq_take.1 (List.takeWhile_prefix (l := l) (fun p => Op.bytesLess p.toList s.toList))).symm
theorem posS_drop (l : List ByteArray) (s : ByteArray) : l.drop (posS l s) = l.dropWhile (fun p => Op.bytesLess p.toList s.toList) := by
  have h1 := List.takeWhile_append_dropWhile (p := fun p : ByteArray => Op.bytesLess p.toList s.toList) (l := l)
  have h2 := List.take_append_drop (posS l s) l
  rw [posS_take] at h2
  exact List.append_cancel_left (h2.trans h1.symm)
theorem tw_less {l : List ByteArray} {s a : ByteArray} (h : a ∈ l.takeWhile (fun p => Op.bytesLess p.toList s.toList)) : Op.bytesLess a.toList s.toList = true :=
  List.all_eq_true.1 (List.all_takeWhile (p := fun p : ByteArray => Op.bytesLess p.toList s.toList) (l := l)) a h
theorem posS_lo {l : List ByteArray} {s : ByteArray} {j : Nat} (hj : j < posS l s) : Op.bytesLess (nth l j).toList s.toList = true := by
  have hl := posS_le l s
  have hm : nth l j ∈ l.take (posS l s) := by
    rw [List.mem_iff_getElem?]
    exact ⟨j, by rw [List.getElem?_take, if_pos hj]; exact get_nth (by omega)⟩
  rw [posS_take] at hm
  exact tw_less hm
theorem posS_hi {l : List ByteArray} {s : ByteArray} (h : posS l s < l.length) : Op.bytesLess (nth l (posS l s)).toList s.toList = false := by
  have h1 : l.drop (posS l s) = nth l (posS l s) :: l.drop (posS l s + 1) := by rw [List.drop_eq_getElem_cons h, nth_ge h]
  rw [posS_drop] at h1
  have h2 := List.head_dropWhile_not (p := fun p : ByteArray => Op.bytesLess p.toList s.toList) (l := l) (by rw [h1]; simp)
  have h3 : (l.dropWhile (fun p => Op.bytesLess p.toList s.toList)).head (by rw [h1]; simp) = nth l (posS l s) := by
    have : ∀ (m : List ByteArray) (hm : m ≠ []), m = nth l (posS l s) :: l.drop (posS l s + 1) → m.head hm = nth l (posS l s) := fun m hm e => by subst e; rfl
    exact this _ _ h1
  rw [h3] at h2
  simpa using h2
theorem insQ_mem {l : List ByteArray} {q : Nat} {s t : ByteArray} : t ∈ insQ l q s ↔ t = s ∨ t ∈ l := by
  unfold insQ
  conv => rhs; rw [← List.take_append_drop q l]
  simp only [List.mem_append, List.mem_singleton]
  constructor
  · rintro ((h | h) | h)
    · exact .inr (.inl h)
    · exact .inl h
    · exact .inr (.inr h)
  · rintro (h | h | h)
    · exact .inl (.inr h)
    · exact .inl (.inl h)
    · exact .inr h
theorem insQ_len {l : List ByteArray} {q : Nat} {s : ByteArray} (h : q ≤ l.length) : (insQ l q s).length = l.length + 1 := by
  unfold insQ; simp; omega
theorem insQ_sort {l : List ByteArray} {s : ByteArray} (h : sortB l = true) (hs : s ∉ l) : sortB (insQ l (posS l s) s) = true := by
  rw [sort_pw] at h ⊢
  have hsplit : (l.take (posS l s) ++ l.drop (posS l s)).Pairwise (fun a b => Op.bytesLess a.toList b.toList = true) := by rw [List.take_append_drop]; exact h
  rw [List.pairwise_append] at hsplit
  obtain ⟨h1, h2, h3⟩ := hsplit
  unfold insQ
  have hlo : ∀ a, a ∈ l.take (posS l s) → Op.bytesLess a.toList s.toList = true := fun a ha => by
    rw [posS_take] at ha
    exact tw_less ha
  have hhi : ∀ b, b ∈ l.drop (posS l s) → Op.bytesLess s.toList b.toList = true := fun b hb => by
    have hlt : posS l s < l.length := by
      rcases Nat.lt_or_ge (posS l s) l.length with h | h
      · exact h
      · rw [List.drop_of_length_le h] at hb; cases hb
    have hq := posS_hi hlt
    have hm := nth_mem hlt
    have hlt2 : Op.bytesLess s.toList (nth l (posS l s)).toList = true := by
      cases hc : Op.bytesLess s.toList (nth l (posS l s)).toList with
      | true => rfl
      | false => exact absurd (by rw [← bytes_inj (bl_tot hq hc)]; exact hm) hs
    rw [List.drop_eq_getElem_cons hlt, nth_ge hlt] at hb h2
    rcases List.mem_cons.1 hb with rfl | hb
    · exact hlt2
    · exact bl_tr hlt2 (List.rel_of_pairwise_cons h2 hb)
  refine List.pairwise_append.2 ⟨List.pairwise_append.2 ⟨h1, List.pairwise_singleton _ _, fun a ha b hb => ?_⟩, h2, fun a ha b hb => ?_⟩
  · rw [List.mem_singleton.1 hb]; exact hlo a ha
  · rcases List.mem_append.1 ha with ha | ha
    · exact h3 a ha b hb
    · rw [List.mem_singleton.1 ha]; exact hhi b hb
theorem dropS_mem {l : List ByteArray} {s t : ByteArray} : t ∈ dropS l s ↔ t ∈ l ∧ t ≠ s := by
  unfold dropS
  rw [List.mem_filter]
  constructor
  · rintro ⟨h, h2⟩
    exact ⟨h, fun e => by subst e; simp at h2⟩
  · rintro ⟨h, h2⟩
    refine ⟨h, ?_⟩
    cases hc : (t.toList == s.toList) with
    | false => rfl
    | true => exact absurd (bytes_inj (by simpa using hc)) h2
theorem dropS_sort {l : List ByteArray} {s : ByteArray} (h : sortB l = true) : sortB (dropS l s) = true := by
  rw [sort_pw] at h ⊢
  exact h.filter _
/-- what valid incidents are -/
structure Vi (xs : List Incident) : Prop where
  one : ∀ k, k < xs.length → incAt xs k = true
  num : ∀ k, 0 < k → k < xs.length → (nth xs (k - 1)).Number < (nth xs k).Number
  dis : ∀ j k s, j < k → k < xs.length → s ∈ (nth xs j).Names → s ∉ (nth xs k).Names
  len : xs.length ≤ 8
theorem any_take_iff {xs : List Incident} {k : Nat} (hk : k ≤ xs.length) {s : ByteArray} : (xs.take k).any (fun y => hasS y.Names s) = true ↔ ∃ j, j < k ∧ s ∈ (nth xs j).Names := by
  rw [List.any_eq_true]
  constructor
  · rintro ⟨x, hx, h⟩
    obtain ⟨j, hj, rfl⟩ := List.getElem_of_mem hx
    rw [List.length_take] at hj
    refine ⟨j, by omega, ?_⟩
    rw [List.getElem_take, nth_ge (by omega : j < xs.length)] at h
    exact hasS_iff.1 h
  · rintro ⟨j, hj, h⟩
    refine ⟨nth xs j, ?_, hasS_iff.2 h⟩
    rw [List.mem_iff_getElem?]
    exact ⟨j, by rw [List.getElem?_take, if_pos hj]; exact get_nth (by omega)⟩
theorem incs_iff {xs : List Incident} : incsB xs = true ↔ Vi xs := by
  constructor
  · intro h
    have hl := incsB_len h
    simp only [incsB, Bool.and_eq_true] at h
    have hk := allB_iff.1 h.1
    refine ⟨fun k hk' => ?_, fun k h0 hk' => ?_, fun j k s hj hk' hs hs' => ?_, hl⟩
    · have := hk k hk'; simp only [okInc, Bool.and_eq_true] at this; exact this.1.1
    · have := hk k hk'; simp only [okInc, Bool.and_eq_true, decide_eq_true h0] at this
      have h2 := this.1.2
      simp at h2; omega
    · have := hk k hk'
      simp only [okInc, Bool.and_eq_true] at this
      have h3 := allB_iff.1 this.2
      obtain ⟨i, hi, e⟩ := List.getElem_of_mem hs'
      have h4 := h3 i hi
      rw [← nth_ge hi, e] at h4
      have h5 : (xs.take k).any (fun y => hasS y.Names s) = true := (any_take_iff (by omega)).2 ⟨j, hj, hs⟩
      rw [h5] at h4
      cases h4
  · intro h
    have h1 : ∀ j, j < xs.length → okInc xs j = true := fun k hk => okInc_y (h.one k hk) (by
      by_cases h0 : 0 < k
      · have := h.num k h0 hk; exact .inr (by omega)
      · exact .inl h0) (fun j hj => by
        cases hc : (xs.take k).any (fun y => hasS y.Names (nth (nth xs k).Names j)) with
        | false => rfl
        | true =>
          obtain ⟨i, hi, hm⟩ := (any_take_iff (by omega)).1 hc
          exact absurd (nth_mem hj) (h.dis i k _ hi hk hm))
    rw [incsB_all h1]
    exact decide_eq_true h.len
theorem nth_set {xs : List Incident} {a k : Nat} {x : Incident} (h : k < xs.length) : nth (xs.set a x) k = if a = k then x else nth xs k := by
  apply nth_get
  rw [List.getElem?_set]
  split
  · rename_i e; subst e; rw [if_pos h]
  · exact get_nth h
/-- one exchanged -/
theorem Vi.set {xs : List Incident} {a : Nat} {x : Incident} (h : Vi xs) (ha : a < xs.length) (hx : incB x.Number x.Node x.Closed x.Names = true) (hn : x.Number = (nth xs a).Number) (hd : ∀ s, s ∈ x.Names → ∀ j, j < xs.length → j ≠ a → s ∉ (nth xs j).Names) : Vi (xs.set a x) := by
  have hl : (xs.set a x).length = xs.length := List.length_set
  have num : ∀ k, k < xs.length → (nth (xs.set a x) k).Number = (nth xs k).Number := fun k hk => by
    rw [nth_set hk]; split
    · rename_i e; subst e; exact hn
    · rfl
  refine ⟨fun k hk => ?_, fun k h0 hk => ?_, fun j k s hj hk hs hs' => ?_, by rw [hl]; exact h.len⟩
  · rw [hl] at hk
    unfold incAt
    rw [nth_set hk]
    split
    · exact hx
    · exact h.one k hk
  · rw [hl] at hk
    rw [num _ (by omega), num _ hk]
    exact h.num k h0 hk
  · rw [hl] at hk
    rw [nth_set (by omega)] at hs
    rw [nth_set hk] at hs'
    by_cases e1 : a = j
    · have e2 : ¬ a = k := by omega
      rw [if_pos e1] at hs
      rw [if_neg e2] at hs'
      exact hd s hs k hk (fun e => e2 e.symm) hs'
    · rw [if_neg e1] at hs
      by_cases e2 : a = k
      · rw [if_pos e2] at hs'
        exact hd s hs' j (by omega) (fun e => e1 e.symm) hs
      · rw [if_neg e2] at hs'
        exact h.dis j k s hj hk hs hs'
theorem set_bad {xs : List Incident} {a : Nat} {x : Incident} (ha : a < xs.length) (hx : incB x.Number x.Node x.Closed x.Names = false) : incsB (xs.set a x) = false := by
  refine incsB_no (k := a) (by rw [List.length_set]; exact ha) (okInc_0 ?_)
  unfold incAt
  rw [nth_set ha, if_pos rfl]
  exact hx
/-- the open incident with a number -/
def isO (number : Int) (x : Incident) : Bool := x.Number == number && !x.Closed
def openI (xs : List Incident) (number : Int) : Int := indexF (isO number) xs
def clX (x : Incident) : Incident := ⟨x.Number, x.Node, true, []⟩
def clF (xs : List Incident) (number : Int) : List Incident × Bool := if incsB xs && decide (0 ≤ openI xs number) then (xs.set (openI xs number).toNat (clX (nth xs (openI xs number).toNat)), true) else ([], false)
theorem clF_no {xs : List Incident} {number : Int} (h : (incsB xs && decide (0 ≤ openI xs number)) = false) : clF xs number = ([], false) := by unfold clF; rw [if_neg (by rw [h]; exact Bool.false_ne_true)]
theorem clF_yes {xs : List Incident} {number : Int} {k : Nat} (h : incsB xs = true) (hk : openI xs number = (k : Int)) : clF xs number = (xs.set k (clX (nth xs k)), true) := by
  unfold clF
  rw [if_pos (by rw [h, hk]; simp), hk]
  rfl
/-- the number of a new one -/
def newN (xs : List Incident) : Int := if 0 < xs.length then (nth xs (xs.length - 1)).Number + 1 else 1
def newX (xs : List Incident) (node : Int) : Incident := ⟨newN xs, node, false, []⟩
def opF (xs : List Incident) (node : Int) : List Incident × Int × Bool := if incsB xs && inB node 0 13 && (decide (xs.length < 8) && decide (newN xs ≤ 999)) then (xs ++ [newX xs node], newN xs, true) else ([], 0, false)
theorem opF_no {xs : List Incident} {node : Int} (h : (incsB xs && inB node 0 13 && (decide (xs.length < 8) && decide (newN xs ≤ 999))) = false) : opF xs node = ([], 0, false) := by unfold opF; rw [if_neg (by rw [h]; exact Bool.false_ne_true)]
theorem opF_yes {xs : List Incident} {node : Int} (h : (incsB xs && inB node 0 13 && (decide (xs.length < 8) && decide (newN xs ≤ 999))) = true) : opF xs node = (xs ++ [newX xs node], newN xs, true) := by unfold opF; rw [if_pos h]
theorem nth_app {xs : List Incident} {k : Nat} {x : Incident} (h : k < xs.length) : nth (xs ++ [x]) k = nth xs k := nth_get (by rw [List.getElem?_append_left h]; exact get_nth h)
theorem nth_last {xs : List Incident} {x : Incident} : nth (xs ++ [x]) xs.length = x := nth_get (by rw [List.getElem?_append_right (Nat.le_refl _)]; simp)
theorem newN_range {xs : List Incident} (h : Vi xs) : 1 ≤ newN xs ∧ newN xs ≤ 1000 := by
  unfold newN
  split
  · rename_i h0
    have := incB_num (h.one (xs.length - 1) (by omega))
    omega
  · omega
theorem open_good {xs : List Incident} {node : Int} (h : Vi xs) (hn : inB node 0 13 = true) : incsB (xs ++ [newX xs node]) = (decide (xs.length < 8) && decide (newN xs ≤ 999)) := by
  have hr := newN_range h
  have hl : (xs ++ [newX xs node]).length = xs.length + 1 := by simp
  by_cases h8 : xs.length < 8 ∧ newN xs ≤ 999
  · rw [decide_eq_true h8.1, decide_eq_true h8.2]
    refine incs_iff.2 ⟨fun k hk => ?_, fun k h0 hk => ?_, fun j k s hj hk hs hs' => ?_, by omega⟩
    · unfold incAt
      by_cases e : k < xs.length
      · rw [nth_app e]; exact h.one k e
      · have : k = xs.length := by omega
        subst this
        rw [nth_last]
        exact inc_y (by unfold baseB newX; simp only [List.length_nil]; rw [inB_iff.2 ⟨hr.1, h8.2⟩, hn]; rfl) rfl rfl
    · by_cases e : k < xs.length
      · rw [nth_app e, nth_app (by omega)]; exact h.num k h0 e
      · have : k = xs.length := by omega
        subst this
        rw [nth_last, nth_app (by omega)]
        unfold newX newN
        rw [if_pos h0]
        show _ < _ + 1
        omega
    · by_cases e : k < xs.length
      · rw [nth_app e] at hs'; rw [nth_app (by omega)] at hs; exact h.dis j k s hj e hs hs'
      · have : k = xs.length := by omega
        subst this
        rw [nth_last] at hs'
        cases hs'
  · have hf : (decide (xs.length < 8) && decide (newN xs ≤ 999)) = false := by
      cases hc : (decide (xs.length < 8) && decide (newN xs ≤ 999)) with
      | false => rfl
      | true => simp only [Bool.and_eq_true, decide_eq_true_eq] at hc; exact absurd hc h8
    rw [hf]
    cases hc : incsB (xs ++ [newX xs node]) with
    | false => rfl
    | true =>
      have hv := incs_iff.1 hc
      have h1 := hv.len
      have h2 := incB_num (hv.one xs.length (by omega))
      rw [nth_last] at h2
      have h3 : (newX xs node).Number = newN xs := rfl
      exact absurd ⟨by omega, by omega⟩ h8
/-- a name released -/
def rlX (x : Incident) (s : ByteArray) : Incident := ⟨x.Number, x.Node, x.Closed, dropS x.Names s⟩
def rlF (xs : List Incident) (number : Int) (s : ByteArray) : List Incident × Bool := if incsB xs && nameB s && decide (0 ≤ openI xs number) && decide (atB xs s = openI xs number) then (xs.set (openI xs number).toNat (rlX (nth xs (openI xs number).toNat) s), true) else ([], false)
theorem rlF_no {xs : List Incident} {number : Int} {s : ByteArray} (h : (incsB xs && nameB s && decide (0 ≤ openI xs number) && decide (atB xs s = openI xs number)) = false) : rlF xs number s = ([], false) := by unfold rlF; rw [if_neg (by rw [h]; exact Bool.false_ne_true)]
theorem rlF_yes {xs : List Incident} {number : Int} {s : ByteArray} {k : Nat} (h : incsB xs = true) (h1 : nameB s = true) (hk : openI xs number = (k : Int)) (ha : atB xs s = (k : Int)) : rlF xs number s = (xs.set k (rlX (nth xs k) s), true) := by
  unfold rlF
  rw [if_pos (by rw [h, h1, hk, ha]; simp), hk]
  rfl
/-- a name committed -/
def adX (x : Incident) (s : ByteArray) : Incident := ⟨x.Number, x.Node, x.Closed, insQ x.Names (posS x.Names s) s⟩
def cmF (xs : List Incident) (number : Int) (s : ByteArray) : List Incident × Bool := if incsB xs && nameB s && decide (0 ≤ openI xs number) && decide (atB xs s < 0) && decide ((nth xs (openI xs number).toNat).Names.length < 12) then (xs.set (openI xs number).toNat (adX (nth xs (openI xs number).toNat) s), true) else ([], false)
theorem cmF_no {xs : List Incident} {number : Int} {s : ByteArray} (h : (incsB xs && nameB s && decide (0 ≤ openI xs number) && decide (atB xs s < 0) && decide ((nth xs (openI xs number).toNat).Names.length < 12)) = false) : cmF xs number s = ([], false) := by unfold cmF; rw [if_neg (by rw [h]; exact Bool.false_ne_true)]
theorem cmF_yes {xs : List Incident} {number : Int} {s : ByteArray} {k : Nat} (h : incsB xs = true) (h1 : nameB s = true) (hk : openI xs number = (k : Int)) (ha : atB xs s < 0) (hl : (nth xs k).Names.length < 12) : cmF xs number s = (xs.set k (adX (nth xs k) s), true) := by
  have e : (openI xs number).toNat = k := by rw [hk]; rfl
  unfold cmF
  rw [if_pos (by rw [h, h1, e, decide_eq_true ha, decide_eq_true hl, hk]; simp), e]
theorem at_none {xs : List Incident} {s : ByteArray} (h : atB xs s < 0) : ∀ j, j < xs.length → s ∉ (nth xs j).Names := fun j hj hm => by
  have h1 : indexF (fun y : Incident => hasS y.Names s) xs = -1 := by
    have := indexF_range (fun y : Incident => hasS y.Names s) xs
    unfold atB at h
    omega
  have h2 := indexF_all h1 j hj
  rw [hasS_iff.2 hm] at h2
  cases h2
theorem at_some {xs : List Incident} {s : ByteArray} {k : Nat} (h : atB xs s = (k : Int)) : k < xs.length ∧ s ∈ (nth xs k).Names := by
  obtain ⟨h1, h2⟩ := indexF_at (p := fun y : Incident => hasS y.Names s) h
  exact ⟨h1, hasS_iff.1 h2⟩
theorem open_at {xs : List Incident} {number : Int} {k : Nat} (h : openI xs number = (k : Int)) : k < xs.length ∧ (nth xs k).Number = number ∧ (nth xs k).Closed = false := by
  obtain ⟨h1, h2⟩ := indexF_at (p := isO number) h
  simp [isO] at h2
  exact ⟨h1, h2.1, h2.2⟩
theorem incB_split {number node : Int} {closed : Bool} {l : List ByteArray} (h : incB number node closed l = true) : inB number 1 999 = true ∧ inB node 0 13 = true ∧ (closed = true → l.length = 0) ∧ sortB l = true ∧ allNm l = true := by
  simp only [incB, baseB, Bool.and_eq_true] at h
  refine ⟨h.1.1.1.1.1, h.1.1.1.1.2, fun hc => ?_, h.1.2, h.2⟩
  have := h.1.1.2
  rw [hc] at this
  simp at this
  rw [this]; rfl
theorem incB_mk {number node : Int} {closed : Bool} {l : List ByteArray} (h1 : inB number 1 999 = true) (h2 : inB node 0 13 = true) (hc : closed = false) (hs : sortB l = true) (hn : allNm l = true) : incB number node closed l = decide (l.length ≤ 12) := by
  subst hc
  simp only [incB, baseB, h1, h2, hs, hn]
  simp
/-- whether an incident with a name more is valid -/
theorem ad_one {x : Incident} {s : ByteArray} (h : incB x.Number x.Node x.Closed x.Names = true) (hc : x.Closed = false) (hs : s ∉ x.Names) (hn : nameB s = true) : incB (adX x s).Number (adX x s).Node (adX x s).Closed (adX x s).Names = decide (x.Names.length < 12) := by
  obtain ⟨h1, h2, _, h3, h4⟩ := incB_split h
  show incB x.Number x.Node x.Closed (insQ x.Names (posS x.Names s) s) = _
  rw [incB_mk h1 h2 hc (insQ_sort h3 hs) (allNm_iff.2 fun t ht => ?_), insQ_len (posS_le _ _)]
  · by_cases e : x.Names.length < 12
    · rw [decide_eq_true e, decide_eq_true (by omega)]
    · rw [decide_eq_false e, decide_eq_false (by omega)]
  · rcases insQ_mem.1 ht with rfl | ht
    · exact hn
    · exact allNm_iff.1 h4 t ht
theorem rl_one {x : Incident} {s : ByteArray} (h : incB x.Number x.Node x.Closed x.Names = true) (hc : x.Closed = false) : incB (rlX x s).Number (rlX x s).Node (rlX x s).Closed (rlX x s).Names = true := by
  obtain ⟨h1, h2, _, h3, h4⟩ := incB_split h
  have h5 := incB_len h
  show incB x.Number x.Node x.Closed (dropS x.Names s) = _
  rw [incB_mk h1 h2 hc (dropS_sort h3) (allNm_iff.2 fun t ht => allNm_iff.1 h4 t (dropS_mem.1 ht).1)]
  exact decide_eq_true (Nat.le_trans (List.length_filter_le _ _) h5)
theorem commit_good {xs : List Incident} {number : Int} {s : ByteArray} {k : Nat} (h : incsB xs = true) (h1 : nameB s = true) (hk : openI xs number = (k : Int)) (ha : ∀ j, j < xs.length → s ∉ (nth xs j).Names) : incsB (xs.set k (adX (nth xs k) s)) = decide ((nth xs k).Names.length < 12) := by
  have hv := incs_iff.1 h
  obtain ⟨hkl, _, hc⟩ := open_at hk
  have e := ad_one (s := s) (hv.one k hkl) hc (ha k hkl) h1
  by_cases hl : (nth xs k).Names.length < 12
  · rw [decide_eq_true hl] at e ⊢
    refine incs_iff.2 (hv.set hkl e rfl fun t ht j hj hjk hm => ?_)
    rcases insQ_mem.1 ht with rfl | ht
    · exact ha j hj hm
    · rcases Nat.lt_or_ge j k with hlt | hge
      · exact hv.dis j k t hlt hkl hm ht
      · exact hv.dis k j t (by omega) hj ht hm
  · rw [decide_eq_false hl] at e ⊢
    exact set_bad hkl e

end Go.Proofs.YtpdblmcflniomaaGreatDoor

namespace Go.Proofs.YtpdblmcflniomaaGreatDoor
open Go.RowKit

theorem incident_info : (Tryz.prog.info? 32).map (fun i => (i.zero, i.size, i.bytes)) = some (some (.agg #[.int .i64 (0), .int .i64 (0), .bool (false), .slice none 0 0]), 4, 48) := by kernel_rfl
end Go.Proofs.YtpdblmcflniomaaGreatDoor

namespace Go.Proofs.YtpdblmcflniomaaGreatDoor
open Go.RowKit

/-- What a mark of a list handed in leaves. -/
def MarkPost (w : World) (F : List Nat) (bound : Int) (e : Ending) (w' : World) : Prop := ∃ r : Int, e = .returned (.int .i64 r) ∧ 0 ≤ r ∧ r ≤ bound ∧ OnlyF F w w'
theorem nth_set_self {α : Type} [Inhabited α] {L : List α} {i : Nat} {y : α} (h : i < L.length) : nth (L.set i y) i = y := nth_get (by rw [List.getElem?_set_self h])
theorem sum_take_le (L : List Nat) (i : Nat) : (L.take i).sum ≤ L.sum := by
  conv => rhs; rw [← List.take_append_drop i L, List.sum_append]
  omega
end Go.Proofs.YtpdblmcflniomaaGreatDoor
