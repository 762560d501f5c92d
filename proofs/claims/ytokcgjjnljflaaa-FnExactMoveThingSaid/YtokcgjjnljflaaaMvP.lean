/-
  MoveThing: what it answers. No conditions.
-/
import Derived.Test.YtokcgjjnljflaaaLoadC
import Derived.Test.YtokcgjjnljflaaaLibTB
import Derived.Test.YtokcgjjnljflaaaMem10
namespace Go.Proofs.Ytokcgjjnljflaaa
open Go.RowKit

theorem bl_tot : ∀ {x y : List UInt8}, Op.bytesLess x y = false → Op.bytesLess y x = false → x = y
  | [], [], _, _ => rfl
  | [], _ :: _, h, _ => by simp [Op.bytesLess] at h
  | _ :: _, [], _, h => by simp [Op.bytesLess] at h
  | a :: x, b :: y, h1, h2 => by
    simp only [Op.bytesLess] at h1 h2
    have e1 : ∀ u v : UInt8, (u < v) ↔ u.toNat < v.toNat := fun u v => Iff.rfl
    have e2 : ∀ u v : UInt8, (u = v) ↔ u.toNat = v.toNat := fun u v => UInt8.toNat_inj.symm
    have ih := @bl_tot x y
    by_cases q1 : a = b
    · subst q1
      simp at h1 h2
      rw [ih h1 h2]
    · have hne : ¬ a.toNat = b.toNat := fun e => q1 ((e2 a b).2 e)
      have p : a < b ∨ b < a := by simp only [e1]; omega
      rcases p with p | p
      · simp [p] at h1
      · simp [p] at h2
theorem cmpBytes_eq : ∀ (x y : List UInt8), Lib.compareBytes x y = if Op.bytesLess x y then -1 else if Op.bytesLess y x then 1 else 0
  | [], [] => by simp [Lib.compareBytes, Op.bytesLess]
  | [], _ :: _ => by simp [Lib.compareBytes, Op.bytesLess]
  | _ :: _, [] => by simp [Lib.compareBytes, Op.bytesLess]
  | a :: x, b :: y => by
    have ih := cmpBytes_eq x y
    simp only [Lib.compareBytes, Op.bytesLess]
    have e1 : ∀ u v : UInt8, (u < v) ↔ u.toNat < v.toNat := fun u v => Iff.rfl
    have e2 : ∀ u v : UInt8, (u = v) ↔ u.toNat = v.toNat := fun u v => UInt8.toNat_inj.symm
    by_cases q1 : a = b
    · subst q1
      have hn : ¬ a < a := by simp only [e1]; omega
      simp [hn, ih]
    · have hne : ¬ a.toNat = b.toNat := fun e => q1 ((e2 a b).2 e)
      have hne2 : ¬ b = a := fun e => q1 e.symm
      by_cases p : a < b
      · simp [p]
      · have p2 : b < a := by simp only [e1] at p ⊢; omega
        simp [p, p2, q1]
/-- k is where a name stands, or would stand -/
def leT (xs : List Thing) (nm : ByteArray) (k : Nat) : Prop := k ≤ xs.length ∧ (∀ j, j < k → Op.bytesLess (nth xs j).Name.toList nm.toList = true) ∧ (k < xs.length → Op.bytesLess (nth xs k).Name.toList nm.toList = false)
theorem leT_uniq {xs : List Thing} {nm : ByteArray} {k j : Nat} (h : leT xs nm k) (h' : leT xs nm j) : k = j := by
  obtain ⟨a1, a2, a3⟩ := h
  obtain ⟨b1, b2, b3⟩ := h'
  rcases Nat.lt_trichotomy k j with h | h | h
  · have := b2 k h; rw [a3 (by omega)] at this; cases this
  · exact h
  · have := a2 j h; rw [b3 (by omega)] at this; cases this
open Classical in
noncomputable def placeT (xs : List Thing) (nm : ByteArray) : Nat := if h : ∃ k, leT xs nm k then h.choose else 0
theorem placeT_eq {xs : List Thing} {nm : ByteArray} {k : Nat} (h : leT xs nm k) : placeT xs nm = k := by
  have hx : ∃ k, leT xs nm k := ⟨k, h⟩
  unfold placeT
  rw [dif_pos hx]
  exact leT_uniq hx.choose_spec h
def hitT (xs : List Thing) (nm : ByteArray) (k : Nat) : Bool := decide (k < xs.length) && ((nth xs k).Name.toList == nm.toList)
def lessI (a b : Int) : Int := if a < b then a else b
def putY (xs : List Thing) (t : Thing) (k : Nat) : Thing := ⟨t.Name, t.Count + (nth xs k).Count, lessI t.Day (nth xs k).Day⟩
noncomputable def putT (xs : List Thing) (t : Thing) : List Thing := if hitT xs t.Name (placeT xs t.Name) then xs.set (placeT xs t.Name) (putY xs t (placeT xs t.Name)) else insAt xs (placeT xs t.Name) t
theorem putT_hit {xs : List Thing} {t : Thing} {k : Nat} (h : leT xs t.Name k) (hh : hitT xs t.Name k = true) : putT xs t = xs.set k (putY xs t k) := by
  unfold putT
  rw [placeT_eq h, if_pos hh]
theorem putT_miss {xs : List Thing} {t : Thing} {k : Nat} (h : leT xs t.Name k) (hh : hitT xs t.Name k = false) : putT xs t = insAt xs k t := by
  unfold putT
  rw [placeT_eq h, if_neg (by rw [hh]; exact Bool.false_ne_true)]
def lessY (xs : List Thing) (k : Nat) (n : Int) : Thing := ⟨(nth xs k).Name, (nth xs k).Count - n, (nth xs k).Day⟩
def takeT (xs : List Thing) (k : Nat) (n : Int) : List Thing := if 0 < (nth xs k).Count - n then xs.set k (lessY xs k n) else xs.take k ++ xs.drop (k + 1)
theorem takeT_set {xs : List Thing} {k : Nat} {n : Int} (h : 0 < (nth xs k).Count - n) : takeT xs k n = xs.set k (lessY xs k n) := by unfold takeT; rw [if_pos h]
theorem takeT_cut {xs : List Thing} {k : Nat} {n : Int} (h : ¬ 0 < (nth xs k).Count - n) : takeT xs k n = xs.take k ++ xs.drop (k + 1) := by unfold takeT; rw [if_neg h]
def no3 : Load × Load × Bool := (⟨⟨#[]⟩, []⟩, ⟨⟨#[]⟩, []⟩, false)
noncomputable def mvB (x y : Load) (nm : ByteArray) (n : Int) (k : Nat) : List Thing := putT y.Things ⟨nm, n, (nth x.Things k).Day⟩
open Classical in
noncomputable def mvF (x y : Load) (nm : ByteArray) (n : Int) : Load × Load × Bool :=
  if countF x.Things nm < n then no3 else if loadB y.Appliance (mvB x y nm n (indexF (nmT nm) x.Things).toNat) then (⟨x.Appliance, takeT x.Things (indexF (nmT nm) x.Things).toNat n⟩, ⟨y.Appliance, mvB x y nm n (indexF (nmT nm) x.Things).toNat⟩, true) else no3
theorem mvF_few {x y : Load} {nm : ByteArray} {n : Int} (h : countF x.Things nm < n) : mvF x y nm n = no3 := by unfold mvF; rw [if_pos h]
theorem mvF_bad {x y : Load} {nm : ByteArray} {n : Int} {k : Nat} (h : ¬ countF x.Things nm < n) (hk : indexF (nmT nm) x.Things = k) (hb : loadB y.Appliance (mvB x y nm n k) = false) : mvF x y nm n = no3 := by
  unfold mvF
  rw [if_neg h, hk, Int.toNat_natCast, if_neg (by rw [hb]; exact Bool.false_ne_true)]
theorem mvF_good {x y : Load} {nm : ByteArray} {n : Int} {k : Nat} (h : ¬ countF x.Things nm < n) (hk : indexF (nmT nm) x.Things = k) (hb : loadB y.Appliance (mvB x y nm n k) = true) : mvF x y nm n = (⟨x.Appliance, takeT x.Things k n⟩, ⟨y.Appliance, mvB x y nm n k⟩, true) := by
  unfold mvF
  rw [if_neg h, hk, Int.toNat_natCast, if_pos hb]
theorem nth_set' {α : Type} [Inhabited α] {xs : List α} {k j : Nat} (hk : k < xs.length) (hj : j < xs.length) (y : α) : nth (xs.set k y) j = if j = k then y else nth xs j := by
  refine nth_get ?_
  rw [List.getElem?_set]
  by_cases h : k = j
  · subst h; simp [hk]
  · rw [if_neg h, if_neg (fun e => h e.symm)]; exact get_nth hj
theorem nth_cut' {α : Type} [Inhabited α] {xs : List α} {k j : Nat} (hk : k < xs.length) (hj : j + 1 < xs.length) : nth (xs.take k ++ xs.drop (k + 1)) j = if j < k then nth xs j else nth xs (j + 1) := by
  refine nth_get ?_
  have hl : (xs.take k).length = k := by rw [List.length_take]; omega
  by_cases h : j < k
  · rw [if_pos h, List.getElem?_append_left (by omega), List.getElem?_take_of_lt h]; exact get_nth (by omega)
  · rw [if_neg h, List.getElem?_append_right (by omega), hl, List.getElem?_drop]
    have e : k + 1 + (j - k) = j + 1 := by omega
    rw [e]; exact get_nth hj
theorem things_mk {xs : List Thing} (hl : xs.length ≤ 12) (h : ∀ j, j < xs.length → wordB 8 (nth xs j).Name = true ∧ (1 ≤ (nth xs j).Count ∧ (nth xs j).Count ≤ 99) ∧ inB (nth xs j).Day 0 9999 = true) (hr : Rises Thing.Name xs) : thingsB xs = true := by
  rw [thingsB_all (fun j hj => ?_)]
  · exact decide_eq_true hl
  · obtain ⟨h1, ⟨h2, h3⟩, h4⟩ := h j hj
    refine okThing_y h1 (inB_iff.2 ⟨h2, h3⟩) h4 ?_
    by_cases h0 : 0 < j
    · refine .inr (fun e => ?_)
      have := hr (j - 1) j (by omega) hj
      rw [e] at this; cases this
    · exact .inl h0
theorem things_at {xs : List Thing} (h : thingsB xs = true) {j : Nat} (hj : j < xs.length) : wordB 8 (nth xs j).Name = true ∧ (1 ≤ (nth xs j).Count ∧ (nth xs j).Count ≤ 99) ∧ inB (nth xs j).Day 0 9999 = true := by
  have h1 := thingsB_at h hj
  unfold okThing at h1
  simp only [Bool.and_eq_true] at h1
  exact ⟨h1.1.1.1, inB_iff.1 h1.1.1.2, h1.1.2⟩
theorem take_ok {xs : List Thing} {k : Nat} {n : Int} (h : thingsB xs = true) (hk : k < xs.length) (hn : 1 ≤ n) : thingsB (takeT xs k n) = true := by
  have hr := things_rise h
  have hl := thingsB_len h
  by_cases h0 : 0 < (nth xs k).Count - n
  · rw [takeT_set h0]
    refine things_mk (by rw [List.length_set]; exact hl) (fun j hj => ?_) (fun i j hij hj => ?_)
    · rw [List.length_set] at hj
      rw [nth_set' hk hj]
      split
      · obtain ⟨a, ⟨b, c⟩, d⟩ := things_at h hk
        exact ⟨a, ⟨by show 1 ≤ (nth xs k).Count - n; omega, by show (nth xs k).Count - n ≤ 99; omega⟩, d⟩
      · exact things_at h hj
    · rw [List.length_set] at hj
      rw [nth_set' hk hj, nth_set' hk (by omega)]
      have hh := hr i j hij hj
      split <;> split <;> first | (subst_vars; exact hh) | exact hh | omega
  · rw [takeT_cut h0]
    have hlen : (xs.take k ++ xs.drop (k + 1)).length = xs.length - 1 := by simp only [List.length_append, List.length_take, List.length_drop]; omega
    refine things_mk (by omega) (fun j hj => ?_) (fun i j hij hj => ?_)
    · rw [hlen] at hj
      rw [nth_cut' hk (by omega)]
      split
      · exact things_at h (by omega)
      · exact things_at h (by omega)
    · rw [hlen] at hj
      rw [nth_cut' hk (by omega), nth_cut' hk (by omega)]
      split <;> split <;> exact hr _ _ (by omega) (by omega)
theorem index_at {xs : List Thing} {nm : ByteArray} {k : Nat} (h : indexF (nmT nm) xs = k) : k < xs.length := by have := indexF_range (nmT nm) xs; omega
theorem count_few {xs : List Thing} {nm : ByteArray} (h : ∀ k : Nat, indexF (nmT nm) xs ≠ k) : countF xs nm = 0 := by
  refine countF_no ?_
  have hr := indexF_range (nmT nm) xs
  by_cases h0 : indexF (nmT nm) xs = -1
  · exact h0
  · exact absurd (Int.toNat_of_nonneg (by omega : 0 ≤ indexF (nmT nm) xs)).symm (h _)
theorem index_name {xs : List Thing} {nm : ByteArray} {k : Nat} (h : indexF (nmT nm) xs = k) : (nth xs k).Name.toList = nm.toList := by
  have := (indexF_at h).2
  simpa [isNm] using this
theorem takeT_len (xs : List Thing) (k : Nat) (n : Int) : (takeT xs k n).length ≤ xs.length := by
  unfold takeT
  split
  · rw [List.length_set]; exact Nat.le_refl _
  · simp only [List.length_append, List.length_take, List.length_drop]; omega
theorem mvF_len (x y : Load) (nm : ByteArray) (n : Int) (hx : x.Things.length ≤ 1048576) : (mvF x y nm n).1.Things.length ≤ 1048576 ∧ (mvF x y nm n).2.1.Things.length ≤ 1048576 := by
  unfold mvF
  split
  · exact ⟨Nat.zero_le _, Nat.zero_le _⟩
  · split
    · rename_i h
      refine ⟨Nat.le_trans (takeT_len _ _ _) hx, ?_⟩
      have := thingsB_len (loadB_things h)
      exact Nat.le_trans this (by omega)
    · exact ⟨Nat.zero_le _, Nat.zero_le _⟩

end Go.Proofs.Ytokcgjjnljflaaa
