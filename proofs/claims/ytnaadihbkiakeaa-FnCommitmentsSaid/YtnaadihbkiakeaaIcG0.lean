/-
  Transfer: what it answers. No conditions.
-/
import Derived.Test.YtnaadihbkiakeaaIcLenC
namespace Go.Proofs.Ytnaadihbkiakeaa
open Go.RowKit

theorem commit_good2 {xs : List Incident} {s : ByteArray} {k : Nat} (hv : Vi xs) (h1 : nameB s = true) (hkl : k < xs.length) (hc : (nth xs k).Closed = false) (ha : ∀ j, j < xs.length → s ∉ (nth xs j).Names) : incsB (xs.set k (adX (nth xs k) s)) = decide ((nth xs k).Names.length < 12) := by
  have e := ad_one (s := s) (hv.one k hkl) hc (ha k hkl) h1
  by_cases hl : (nth xs k).Names.length < 12
  · rw [decide_eq_true hl] at e ⊢
    refine incs_iff.2 (hv.set hkl e rfl fun t ht j hj hjk hm => ?_)
    rcases insQ_mem.1 ht with rfl | ht
    · exact ha j hj hm
    · rcases Nat.lt_or_ge j k with hlt | hge
      · exact hv.dis j k t hlt hkl hm ht
      · exact hv.dis k j t (by omega) hj ht hm
  · rw [decide_eq_false hl] at e ⊢
    exact set_bad hkl e
def rlL (xs : List Incident) (b : Nat) (s : ByteArray) : List Incident := xs.set b (rlX (nth xs b) s)
theorem rlL_len (xs : List Incident) (b : Nat) (s : ByteArray) : (rlL xs b s).length = xs.length := List.length_set
theorem rlL_at {xs : List Incident} {a b : Nat} {s : ByteArray} (ha : a < xs.length) (h : b ≠ a) : nth (rlL xs b s) a = nth xs a := by unfold rlL; rw [nth_set ha, if_neg h]
theorem rlL_vi {xs : List Incident} {b : Nat} {s : ByteArray} (hv : Vi xs) (hb : b < xs.length) (hs : s ∈ (nth xs b).Names) : Vi (rlL xs b s) ∧ ∀ j, j < (rlL xs b s).length → s ∉ (nth (rlL xs b s) j).Names := by
  have hc : (nth xs b).Closed = false := by
    cases hc : (nth xs b).Closed with
    | false => rfl
    | true =>
      have h0 := (incB_split (hv.one b hb)).2.2.1 hc
      rw [List.eq_nil_of_length_eq_zero h0] at hs
      cases hs
  refine ⟨hv.set hb (rl_one (hv.one b hb) hc) rfl (fun t ht j hj hjb hm => ?_), fun j hj hm => ?_⟩
  · have ht' := (dropS_mem.1 ht).1
    rcases Nat.lt_or_ge j b with hlt | hge
    · exact hv.dis j b t hlt hb hm ht'
    · exact hv.dis b j t (by omega) hj ht' hm
  · rw [rlL_len] at hj
    by_cases e : b = j
    · subst e
      unfold rlL at hm
      rw [nth_set hb, if_pos rfl] at hm
      exact (dropS_mem.1 hm).2 rfl
    · rw [rlL_at hj e] at hm
      rcases Nat.lt_or_ge j b with hlt | hge
      · exact hv.dis j b s hlt hb hm hs
      · exact hv.dis b j s (by omega) hj hs hm
def trC (xs : List Incident) (s : ByteArray) (number : Int) : Bool := incsB xs && nameB s && decide (0 ≤ openI xs number) && decide (0 ≤ atB xs s) && !decide (atB xs s = openI xs number) && decide ((nth xs (openI xs number).toNat).Names.length < 12)
def trL (xs : List Incident) (s : ByteArray) (b a : Nat) : List Incident := (rlL xs b s).set a (adX (nth (rlL xs b s) a) s)
def trF (xs : List Incident) (s : ByteArray) (number : Int) : List Incident × Bool := if trC xs s number then (trL xs s (atB xs s).toNat (openI xs number).toNat, true) else ([], false)
theorem trF_no {xs : List Incident} {number : Int} {s : ByteArray} (h : trC xs s number = false) : trF xs s number = ([], false) := by unfold trF; rw [if_neg (by rw [h]; exact Bool.false_ne_true)]
theorem trF_yes {xs : List Incident} {number : Int} {s : ByteArray} {a b : Nat} (h : incsB xs = true) (h1 : nameB s = true) (hk : openI xs number = (a : Int)) (hb : atB xs s = (b : Int)) (hab : b ≠ a) (hl : (nth xs a).Names.length < 12) : trF xs s number = (trL xs s b a, true) := by
  have e : (openI xs number).toNat = a := by rw [hk]; rfl
  have e2 : (atB xs s).toNat = b := by rw [hb]; rfl
  have hab2 : ¬ ((b : Int) = (a : Int)) := by omega
  unfold trF
  rw [if_pos (by unfold trC; rw [h, h1, e, decide_eq_true hl, hk, hb, decide_eq_false hab2]; simp), e, e2]
theorem tr_good {xs : List Incident} {s : ByteArray} {a b : Nat} (hv : Vi xs) (h1 : nameB s = true) (ha : a < xs.length) (hc : (nth xs a).Closed = false) (hb : b < xs.length) (hs : s ∈ (nth xs b).Names) (hab : b ≠ a) : incsB (trL xs s b a) = decide ((nth xs a).Names.length < 12) := by
  obtain ⟨h2, h3⟩ := rlL_vi hv hb hs
  have e := rlL_at (s := s) ha hab
  have h4 := commit_good2 (k := a) h2 h1 (by rw [rlL_len]; exact ha) (by rw [e]; exact hc) h3
  rw [e] at h4
  unfold trL
  rw [e]
  exact h4
theorem trF_len (xs : List Incident) (s : ByteArray) (number : Int) : (trF xs s number).1.length ≤ 1048576 ∧ ((trF xs s number).1.length : Int) + sumIncident (trF xs s number).1 ≤ 1048576 := by
  cases h : trC xs s number with
  | false => rw [trF_no h]; exact len_nil
  | true =>
    have h0 := h
    unfold trC at h
    simp only [Bool.and_eq_true, decide_eq_true_eq, Bool.not_eq_true', decide_eq_false_iff_not] at h
    have hv := incs_iff.1 h.1.1.1.1.1
    have hr := (indexF_range (isO number) xs).2
    have hr2 := (indexF_range (fun y : Incident => hasS y.Names s) xs).2
    have ha : (openI xs number).toNat < xs.length := by have := h.1.1.1.2; unfold openI at this ⊢; omega
    have hb : (atB xs s).toNat < xs.length := by have := h.1.1.2; unfold atB at this ⊢; omega
    have hab : (atB xs s).toNat ≠ (openI xs number).toNat := by have := h.1.1.1.2; have := h.1.1.2; have := h.1.2; omega
    unfold trF
    rw [if_pos h0]
    have e := rlL_at (s := s) ha hab
    refine len_of (by show ((rlL xs _ s).set _ _).length ≤ 9; rw [List.length_set, rlL_len]; have := hv.len; omega) (set_names (set_names (vi_names hv) ?_) ?_)
    · exact Nat.le_trans (List.length_filter_le _ _) (vi_names hv _ (nth_mem hb))
    · rw [e]; exact ad_names h.2

end Go.Proofs.Ytnaadihbkiakeaa
