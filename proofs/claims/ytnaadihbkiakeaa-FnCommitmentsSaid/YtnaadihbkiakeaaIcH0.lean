/-
  JoinIncidents: what it answers. No conditions.
-/
import Derived.Test.YtnaadihbkiakeaaIcLen
namespace Go.Proofs.Ytnaadihbkiakeaa
open Go.RowKit

/-- names committed one behind the other -/
def adL (acc l : List ByteArray) : List ByteArray := l.foldl (fun acc s => insQ acc (posS acc s) s) acc
def adN (x : Incident) (l : List ByteArray) : Incident := ⟨x.Number, x.Node, x.Closed, adL x.Names l⟩
theorem adN_nil (x : Incident) : adN x [] = x := rfl
theorem adN_succ {x : Incident} {l : List ByteArray} {k : Nat} (hk : k < l.length) : adN x (l.take (k + 1)) = adX (adN x (l.take k)) (nth l k) := by
  unfold adN adX adL
  rw [take_succ hk, List.foldl_append]
  rfl
theorem adL_props : ∀ (l acc : List ByteArray), sortB acc = true → l.Nodup → (∀ s, s ∈ l → s ∉ acc) → sortB (adL acc l) = true ∧ (adL acc l).length = acc.length + l.length ∧ ∀ t, t ∈ adL acc l ↔ t ∈ acc ∨ t ∈ l
  | [], acc, h, _, _ => ⟨h, rfl, fun t => by simp [adL]⟩
  | s :: l, acc, h, hn, hd => by
    have hs := hd s List.mem_cons_self
    obtain ⟨h1, h2, h3⟩ := adL_props l (insQ acc (posS acc s) s) (insQ_sort h hs) (List.nodup_cons.1 hn).2 (fun t ht hm => by
      rcases insQ_mem.1 hm with rfl | hm
      · exact (List.nodup_cons.1 hn).1 ht
      · exact hd t (List.mem_cons_of_mem _ ht) hm)
    refine ⟨h1, ?_, fun t => ?_⟩
    · show (adL (insQ acc (posS acc s) s) l).length = _
      rw [h2, insQ_len (posS_le _ _), List.length_cons]; omega
    · show t ∈ adL (insQ acc (posS acc s) s) l ↔ _
      rw [h3, insQ_mem, List.mem_cons]
      constructor
      · rintro ((h | h) | h)
        · exact .inr (.inl h)
        · exact .inl h
        · exact .inr (.inr h)
      · rintro (h | h | h)
        · exact .inl (.inr h)
        · exact .inl (.inl h)
        · exact .inr h
theorem sort_nodup {l : List ByteArray} (h : sortB l = true) : l.Nodup := by
  rw [sort_pw] at h
  exact h.imp (fun {a b} hab e => by subst e; rw [bl_irr] at hab; cases hab)
/-- what the joined one's names are, so far -/
theorem adT_props {xs : List Incident} {a b k : Nat} (hv : Vi xs) (ha : a < xs.length) (hb : b < xs.length) (hab : a ≠ b) : sortB (adN (nth xs a) ((nth xs b).Names.take k)).Names = true ∧ (adN (nth xs a) ((nth xs b).Names.take k)).Names.length = (nth xs a).Names.length + ((nth xs b).Names.take k).length ∧ ∀ t, t ∈ (adN (nth xs a) ((nth xs b).Names.take k)).Names ↔ t ∈ (nth xs a).Names ∨ t ∈ (nth xs b).Names.take k :=
  adL_props _ _ (incB_split (hv.one a ha)).2.2.2.1 ((sort_nodup (incB_split (hv.one b hb)).2.2.2.1).sublist (List.take_sublist _ _)) (fun s hs hm => by
    have hs' := List.mem_of_mem_take hs
    rcases Nat.lt_or_ge a b with h | h
    · exact hv.dis a b s h hb hm hs'
    · exact hv.dis b a s (by omega) ha hs' hm)
theorem adT_no {xs : List Incident} {a b k : Nat} (hv : Vi xs) (ha : a < xs.length) (hb : b < xs.length) (hab : a ≠ b) (hk : k < (nth xs b).Names.length) : nth (nth xs b).Names k ∉ (adN (nth xs a) ((nth xs b).Names.take k)).Names := fun hm => by
  rcases ((adT_props hv ha hb hab).2.2 _).1 hm with h | h
  · rcases Nat.lt_or_ge a b with h' | h'
    · exact hv.dis a b _ h' hb h (nth_mem hk)
    · exact hv.dis b a _ (by omega) ha (nth_mem hk) h
  · have hn := sort_nodup (incB_split (hv.one b hb)).2.2.2.1
    rw [← List.take_append_drop k (nth xs b).Names, List.nodup_append] at hn
    refine hn.2.2 _ h _ ?_ rfl
    rw [List.drop_eq_getElem_cons hk, nth_ge hk]
    exact List.mem_cons_self
def jnC (xs : List Incident) (i k : Int) : Bool := incsB xs && decide (0 ≤ i) && decide (0 ≤ k) && !decide (i = k) && decide ((nth xs i.toNat).Names.length + (nth xs k.toNat).Names.length ≤ 12)
def clL (xs : List Incident) (b : Nat) : List Incident := xs.set b (clX (nth xs b))
def jnL (xs : List Incident) (a b : Nat) : List Incident := (clL xs b).set a (adN (nth xs a) (nth xs b).Names)
def joF (xs : List Incident) (number other : Int) : List Incident × Bool := if jnC xs (openI xs number) (openI xs other) then (jnL xs (openI xs number).toNat (openI xs other).toNat, true) else ([], false)
theorem joF_no {xs : List Incident} {number other : Int} (h : jnC xs (openI xs number) (openI xs other) = false) : joF xs number other = ([], false) := by unfold joF; rw [if_neg (by rw [h]; exact Bool.false_ne_true)]
theorem joF_yes {xs : List Incident} {number other : Int} {a b : Nat} (h : incsB xs = true) (ha : openI xs number = (a : Int)) (hb : openI xs other = (b : Int)) (hab : a ≠ b) (hl : (nth xs a).Names.length + (nth xs b).Names.length ≤ 12) : joF xs number other = (jnL xs a b, true) := by
  have e : (openI xs number).toNat = a := by rw [ha]; rfl
  have e2 : (openI xs other).toNat = b := by rw [hb]; rfl
  have hab2 : ¬ ((a : Int) = (b : Int)) := by omega
  unfold joF
  rw [if_pos (by unfold jnC; rw [h, e, e2, decide_eq_true hl, ha, hb, decide_eq_false hab2]; simp), e, e2]
theorem clL_len (xs : List Incident) (b : Nat) : (clL xs b).length = xs.length := List.length_set
theorem jnL_alt {xs : List Incident} {a b : Nat} (hab : a ≠ b) (hb : b < xs.length) : (xs.set a (adN (nth xs a) (nth xs b).Names)).set b (clX (nth (xs.set a (adN (nth xs a) (nth xs b).Names)) b)) = jnL xs a b := by
  rw [nth_set hb, if_neg hab]
  unfold jnL clL
  exact List.set_comm _ _ hab
theorem clL_vi {xs : List Incident} {b : Nat} (hv : Vi xs) (hb : b < xs.length) : Vi (clL xs b) := by
  obtain ⟨h1, h2, _⟩ := incB_split (hv.one b hb)
  refine hv.set hb ?_ rfl (fun t ht => by cases ht)
  show incB (nth xs b).Number (nth xs b).Node true [] = true
  simp only [incB, baseB, h1, h2]
  rfl
theorem join_good {xs : List Incident} {a b : Nat} (hv : Vi xs) (ha : a < xs.length) (hc : (nth xs a).Closed = false) (hb : b < xs.length) (hab : a ≠ b) : incsB (jnL xs a b) = decide ((nth xs a).Names.length + (nth xs b).Names.length ≤ 12) := by
  have hp := adT_props (k := (nth xs b).Names.length) hv ha hb hab
  rw [List.take_length] at hp
  obtain ⟨p1, p2, p3⟩ := hp
  obtain ⟨h1, h2, _, h3, h4⟩ := incB_split (hv.one a ha)
  have h5 := (incB_split (hv.one b hb)).2.2.2.2
  have e : incB (adN (nth xs a) (nth xs b).Names).Number (adN (nth xs a) (nth xs b).Names).Node (adN (nth xs a) (nth xs b).Names).Closed (adN (nth xs a) (nth xs b).Names).Names = decide ((nth xs a).Names.length + (nth xs b).Names.length ≤ 12) := by
    rw [← p2]
    exact incB_mk h1 h2 hc p1 (allNm_iff.2 fun t ht => by
      rcases (p3 t).1 ht with h | h
      · exact allNm_iff.1 h4 t h
      · exact allNm_iff.1 h5 t h)
  have hcv := clL_vi hv hb
  have hal : a < (clL xs b).length := by rw [clL_len]; exact ha
  have hna : nth (clL xs b) a = nth xs a := by unfold clL; rw [nth_set ha, if_neg (fun h => hab h.symm)]
  by_cases hl : (nth xs a).Names.length + (nth xs b).Names.length ≤ 12
  · rw [decide_eq_true hl] at e ⊢
    refine incs_iff.2 (hcv.set hal e (by rw [hna]; rfl) (fun t ht j hj hja hm => ?_))
    rw [clL_len] at hj
    unfold clL at hm
    rw [nth_set hj] at hm
    by_cases e1 : b = j
    · rw [if_pos e1] at hm; cases hm
    · rw [if_neg e1] at hm
      rcases (p3 t).1 ht with h | h
      · rcases Nat.lt_or_ge j a with hlt | hge
        · exact hv.dis j a t hlt ha hm h
        · exact hv.dis a j t (by omega) hj h hm
      · rcases Nat.lt_or_ge j b with hlt | hge
        · exact hv.dis j b t hlt hb hm h
        · exact hv.dis b j t (by omega) hj h hm
  · rw [decide_eq_false hl] at e ⊢
    exact set_bad hal e
theorem joF_len (xs : List Incident) (number other : Int) : (joF xs number other).1.length ≤ 1048576 ∧ ((joF xs number other).1.length : Int) + sumIncident (joF xs number other).1 ≤ 1048576 := by
  cases h : jnC xs (openI xs number) (openI xs other) with
  | false => rw [joF_no h]; exact len_nil
  | true =>
    have h0 := h
    unfold jnC at h
    simp only [Bool.and_eq_true, decide_eq_true_eq, Bool.not_eq_true', decide_eq_false_iff_not] at h
    have hv := incs_iff.1 h.1.1.1.1
    have ha : (openI xs number).toNat < xs.length := by have := (indexF_range (isO number) xs).2; have := h.1.1.1.2; unfold openI at this ⊢; omega
    have hb : (openI xs other).toNat < xs.length := by have := (indexF_range (isO other) xs).2; have := h.1.1.2; unfold openI at this ⊢; omega
    have hab : (openI xs number).toNat ≠ (openI xs other).toNat := by have := h.1.1.1.2; have := h.1.1.2; have := h.1.2; omega
    have hp := (adT_props (k := (nth xs (openI xs other).toNat).Names.length) hv ha hb hab).2.1
    rw [List.take_length] at hp
    unfold joF
    rw [if_pos h0]
    refine len_of (by show ((clL xs _).set _ _).length ≤ 9; rw [List.length_set, clL_len]; have := hv.len; omega) (set_names (set_names (vi_names hv) (Nat.zero_le _)) ?_)
    rw [hp]; exact h.2

end Go.Proofs.Ytnaadihbkiakeaa
