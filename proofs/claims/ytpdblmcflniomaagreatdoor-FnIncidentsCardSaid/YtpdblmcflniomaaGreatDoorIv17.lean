/-
  Several texts in one. No conditions.
-/
import Derived.Test.YtpdblmcflniomaaGreatDoorIv16
import Derived.Test.YtpdblmcflniomaaGreatDoorIv7
namespace Go.Proofs.YtpdblmcflniomaaGreatDoor
open Go.RowKit

theorem commit_good2 {xs : List Incident} {s : ByteArray} {k : Nat} (hv : Vi xs) (h1 : nameB s = true) (hkl : k < xs.length) (hc : (nth xs k).Closed = false) (ha : ∀ j, j < xs.length → s ∉ (nth xs j).Names) : incsB (xs.set k (adX (nth xs k) s)) = decide ((nth xs k).Names.length < 12) := by
  have e := ad_one (s := s) (hv.one k hkl) hc (ha k hkl) h1
  by_cases hl : (nth xs k).Names.length < 12
  · rw [decide_eq_true hl] at e ⊢
    refine incs_iff.2 (hv.set hkl e rfl fun t ht j hj hjk hm => ?_)
    rcases insQ_mem.1 ht with rfl | ht
    · exact ha j hj hm
    · rcases Nat.lt_or_ge j k with hlt | hge
      · exact hv.dis j k t hlt hkl hm ht
      · exact hv.dis k j t (by omega) hj ht hm
  · rw [decide_eq_false hl] at e ⊢
    exact set_bad hkl e
def rlL (xs : List Incident) (b : Nat) (s : ByteArray) : List Incident := xs.set b (rlX (nth xs b) s)
theorem rlL_len (xs : List Incident) (b : Nat) (s : ByteArray) : (rlL xs b s).length = xs.length := List.length_set
theorem rlL_at {xs : List Incident} {a b : Nat} {s : ByteArray} (ha : a < xs.length) (h : b ≠ a) : nth (rlL xs b s) a = nth xs a := by unfold rlL; rw [nth_set ha, if_neg h]
theorem rlL_vi {xs : List Incident} {b : Nat} {s : ByteArray} (hv : Vi xs) (hb : b < xs.length) (hs : s ∈ (nth xs b).Names) : Vi (rlL xs b s) ∧ ∀ j, j < (rlL xs b s).length → s ∉ (nth (rlL xs b s) j).Names := by
  have hc : (nth xs b).Closed = false := by
    cases hc : (nth xs b).Closed with
    | false => rfl
    | true =>
      have h0 := (incB_split (hv.one b hb)).2.2.1 hc
      rw [List.eq_nil_of_length_eq_zero h0] at hs
      cases hs
  refine ⟨hv.set hb (rl_one (hv.one b hb) hc) rfl (fun t ht j hj hjb hm => ?_), fun j hj hm => ?_⟩
  · have ht' := (dropS_mem.1 ht).1
    rcases Nat.lt_or_ge j b with hlt | hge
    · exact hv.dis j b t hlt hb hm ht'
    · exact hv.dis b j t (by omega) hj ht' hm
  · rw [rlL_len] at hj
    by_cases e : b = j
    · subst e
      unfold rlL at hm
      rw [nth_set hb, if_pos rfl] at hm
      exact (dropS_mem.1 hm).2 rfl
    · rw [rlL_at hj e] at hm
      rcases Nat.lt_or_ge j b with hlt | hge
      · exact hv.dis j b s hlt hb hm hs
      · exact hv.dis b j s (by omega) hj hs hm
def trC (xs : List Incident) (s : ByteArray) (number : Int) : Bool := incsB xs && nameB s && decide (0 ≤ openI xs number) && decide (0 ≤ atB xs s) && !decide (atB xs s = openI xs number) && decide ((nth xs (openI xs number).toNat).Names.length < 12)
def trL (xs : List Incident) (s : ByteArray) (b a : Nat) : List Incident := (rlL xs b s).set a (adX (nth (rlL xs b s) a) s)
def trF (xs : List Incident) (s : ByteArray) (number : Int) : List Incident × Bool := if trC xs s number then (trL xs s (atB xs s).toNat (openI xs number).toNat, true) else ([], false)
theorem trF_no {xs : List Incident} {number : Int} {s : ByteArray} (h : trC xs s number = false) : trF xs s number = ([], false) := by unfold trF; rw [if_neg (by rw [h]; exact Bool.false_ne_true)]
theorem trF_yes {xs : List Incident} {number : Int} {s : ByteArray} {a b : Nat} (h : incsB xs = true) (h1 : nameB s = true) (hk : openI xs number = (a : Int)) (hb : atB xs s = (b : Int)) (hab : b ≠ a) (hl : (nth xs a).Names.length < 12) : trF xs s number = (trL xs s b a, true) := by
  have e : (openI xs number).toNat = a := by rw [hk]; rfl
  have e2 : (atB xs s).toNat = b := by rw [hb]; rfl
  have hab2 : ¬ ((b : Int) = (a : Int)) := by omega
  unfold trF
  rw [if_pos (by unfold trC; rw [h, h1, e, decide_eq_true hl, hk, hb, decide_eq_false hab2]; simp), e, e2]
theorem tr_good {xs : List Incident} {s : ByteArray} {a b : Nat} (hv : Vi xs) (h1 : nameB s = true) (ha : a < xs.length) (hc : (nth xs a).Closed = false) (hb : b < xs.length) (hs : s ∈ (nth xs b).Names) (hab : b ≠ a) : incsB (trL xs s b a) = decide ((nth xs a).Names.length < 12) := by
  obtain ⟨h2, h3⟩ := rlL_vi hv hb hs
  have e := rlL_at (s := s) ha hab
  have h4 := commit_good2 (k := a) h2 h1 (by rw [rlL_len]; exact ha) (by rw [e]; exact hc) h3
  rw [e] at h4
  unfold trL
  rw [e]
  exact h4
theorem trF_len (xs : List Incident) (s : ByteArray) (number : Int) : (trF xs s number).1.length ≤ 1048576 ∧ ((trF xs s number).1.length : Int) + sumIncident (trF xs s number).1 ≤ 1048576 := by
  cases h : trC xs s number with
  | false => rw [trF_no h]; exact len_nil
  | true =>
    have h0 := h
    unfold trC at h
    simp only [Bool.and_eq_true, decide_eq_true_eq, Bool.not_eq_true', decide_eq_false_iff_not] at h
    have hv := incs_iff.1 h.1.1.1.1.1
    have hr := (indexF_range (isO number) xs).2
    have hr2 := (indexF_range (fun y : Incident => hasS y.Names s) xs).2
    have ha : (openI xs number).toNat < xs.length := by have := h.1.1.1.2; unfold openI at this ⊢; omega
    have hb : (atB xs s).toNat < xs.length := by have := h.1.1.2; unfold atB at this ⊢; omega
    have hab : (atB xs s).toNat ≠ (openI xs number).toNat := by have := h.1.1.1.2; have := h.1.1.2; have := h.1.2; omega
    unfold trF
    rw [if_pos h0]
    have e := rlL_at (s := s) ha hab
    refine len_of (by show ((rlL xs _ s).set _ _).length ≤ 9; rw [List.length_set, rlL_len]; have := hv.len; omega) (set_names (set_names (vi_names hv) ?_) ?_)
    · exact Nat.le_trans (List.length_filter_le _ _) (vi_names hv _ (nth_mem hb))
    · rw [e]; exact ad_names h.2

end Go.Proofs.YtpdblmcflniomaaGreatDoor

namespace Go.Proofs.YtpdblmcflniomaaGreatDoor
open Go.RowKit

/-- names committed one behind the other -/
def adL (acc l : List ByteArray) : List ByteArray := l.foldl (fun acc s => insQ acc (posS acc s) s) acc
def adN (x : Incident) (l : List ByteArray) : Incident := ⟨x.Number, x.Node, x.Closed, adL x.Names l⟩
theorem adN_nil (x : Incident) : adN x [] = x := rfl
theorem adN_succ {x : Incident} {l : List ByteArray} {k : Nat} (hk : k < l.length) : adN x (l.take (k + 1)) = adX (adN x (l.take k)) (nth l k) := by
  unfold adN adX adL
  rw [take_succ hk, List.foldl_append]
  rfl
theorem adL_props : ∀ (l acc : List ByteArray), sortB acc = true → l.Nodup → (∀ s, s ∈ l → s ∉ acc) → sortB (adL acc l) = true ∧ (adL acc l).length = acc.length + l.length ∧ ∀ t, t ∈ adL acc l ↔ t ∈ acc ∨ t ∈ l
  | [], acc, h, _, _ => ⟨h, rfl, fun t => by simp [adL]⟩
  | s :: l, acc, h, hn, hd => by
    have hs := hd s List.mem_cons_self
    obtain ⟨h1, h2, h3⟩ := adL_props l (insQ acc (posS acc s) s) (insQ_sort h hs) (List.nodup_cons.1 hn).2 (fun t ht hm => by
      rcases insQ_mem.1 hm with rfl | hm
      · exact (List.nodup_cons.1 hn).1 ht
      · exact hd t (List.mem_cons_of_mem _ ht) hm)
    refine ⟨h1, ?_, fun t => ?_⟩
    · show (adL (insQ acc (posS acc s) s) l).length = _
      rw [h2, insQ_len (posS_le _ _), List.length_cons]; omega
    · show t ∈ adL (insQ acc (posS acc s) s) l ↔ _
      rw [h3, insQ_mem, List.mem_cons]
      constructor
      · rintro ((h | h) | h)
        · exact .inr (.inl h)
        · exact .inl h
        · exact .inr (.inr h)
      · rintro (h | h | h)
        · exact .inl (.inr h)
        · exact .inl (.inl h)
        · exact .inr h
theorem sort_nodup {l : List ByteArray} (h : sortB l = true) : l.Nodup := by
  rw [sort_pw] at h
  exact h.imp (fun {a b} hab e => by subst e; rw [bl_irr] at hab; cases hab)
/-- what the joined one's names are, so far -/
theorem adT_props {xs : List Incident} {a b k : Nat} (hv : Vi xs) (ha : a < xs.length) (hb : b < xs.length) (hab : a ≠ b) : sortB (adN (nth xs a) ((nth xs b).Names.take k)).Names = true ∧ (adN (nth xs a) ((nth xs b).Names.take k)).Names.length = (nth xs a).Names.length + ((nth xs b).Names.take k).length ∧ ∀ t, t ∈ (adN (nth xs a) ((nth xs b).Names.take k)).Names ↔ t ∈ (nth xs a).Names ∨ t ∈ (nth xs b).Names.take k :=
  adL_props _ _ (incB_split (hv.one a ha)).2.2.2.1 ((sort_nodup (incB_split (hv.one b hb)).2.2.2.1).sublist (List.take_sublist _ _)) (fun s hs hm => by
    have hs' := List.mem_of_mem_take hs
    rcases Nat.lt_or_ge a b with h | h
    · exact hv.dis a b s h hb hm hs'
    · exact hv.dis b a s (by omega) ha hs' hm)
theorem adT_no {xs : List Incident} {a b k : Nat} (hv : Vi xs) (ha : a < xs.length) (hb : b < xs.length) (hab : a ≠ b) (hk : k < (nth xs b).Names.length) : nth (nth xs b).Names k ∉ (adN (nth xs a) ((nth xs b).Names.take k)).Names := fun hm => by
  rcases ((adT_props hv ha hb hab).2.2 _).1 hm with h | h
  · rcases Nat.lt_or_ge a b with h' | h'
    · exact hv.dis a b _ h' hb h (nth_mem hk)
    · exact hv.dis b a _ (by omega) ha (nth_mem hk) h
  · have hn := sort_nodup (incB_split (hv.one b hb)).2.2.2.1
    rw [← List.take_append_drop k (nth xs b).Names, List.nodup_append] at hn
    refine hn.2.2 _ h _ ?_ rfl
    rw [List.drop_eq_getElem_cons hk, nth_ge hk]
    exact List.mem_cons_self
def jnC (xs : List Incident) (i k : Int) : Bool := incsB xs && decide (0 ≤ i) && decide (0 ≤ k) && !decide (i = k) && decide ((nth xs i.toNat).Names.length + (nth xs k.toNat).Names.length ≤ 12)
def clL (xs : List Incident) (b : Nat) : List Incident := xs.set b (clX (nth xs b))
def jnL (xs : List Incident) (a b : Nat) : List Incident := (clL xs b).set a (adN (nth xs a) (nth xs b).Names)
def joF (xs : List Incident) (number other : Int) : List Incident × Bool := if jnC xs (openI xs number) (openI xs other) then (jnL xs (openI xs number).toNat (openI xs other).toNat, true) else ([], false)
theorem joF_no {xs : List Incident} {number other : Int} (h : jnC xs (openI xs number) (openI xs other) = false) : joF xs number other = ([], false) := by unfold joF; rw [if_neg (by rw [h]; exact Bool.false_ne_true)]
theorem joF_yes {xs : List Incident} {number other : Int} {a b : Nat} (h : incsB xs = true) (ha : openI xs number = (a : Int)) (hb : openI xs other = (b : Int)) (hab : a ≠ b) (hl : (nth xs a).Names.length + (nth xs b).Names.length ≤ 12) : joF xs number other = (jnL xs a b, true) := by
  have e : (openI xs number).toNat = a := by rw [ha]; rfl
  have e2 : (openI xs other).toNat = b := by rw [hb]; rfl
  have hab2 : ¬ ((a : Int) = (b : Int)) := by omega
  unfold joF
  rw [if_pos (by unfold jnC; rw [h, e, e2, decide_eq_true hl, ha, hb, decide_eq_false hab2]; simp), e, e2]
theorem clL_len (xs : List Incident) (b : Nat) : (clL xs b).length = xs.length := List.length_set
theorem jnL_alt {xs : List Incident} {a b : Nat} (hab : a ≠ b) (hb : b < xs.length) : (xs.set a (adN (nth xs a) (nth xs b).Names)).set b (clX (nth (xs.set a (adN (nth xs a) (nth xs b).Names)) b)) = jnL xs a b := by
  rw [nth_set hb, if_neg hab]
  unfold jnL clL
  exact List.set_comm _ _ hab
theorem clL_vi {xs : List Incident} {b : Nat} (hv : Vi xs) (hb : b < xs.length) : Vi (clL xs b) := by
  obtain ⟨h1, h2, _⟩ := incB_split (hv.one b hb)
  refine hv.set hb ?_ rfl (fun t ht => by cases ht)
  show incB (nth xs b).Number (nth xs b).Node true [] = true
  simp only [incB, baseB, h1, h2]
  rfl
theorem join_good {xs : List Incident} {a b : Nat} (hv : Vi xs) (ha : a < xs.length) (hc : (nth xs a).Closed = false) (hb : b < xs.length) (hab : a ≠ b) : incsB (jnL xs a b) = decide ((nth xs a).Names.length + (nth xs b).Names.length ≤ 12) := by
  have hp := adT_props (k := (nth xs b).Names.length) hv ha hb hab
  rw [List.take_length] at hp
  obtain ⟨p1, p2, p3⟩ := hp
  obtain ⟨h1, h2, _, h3, h4⟩ := incB_split (hv.one a ha)
  have h5 := (incB_split (hv.one b hb)).2.2.2.2
  have e : incB (adN (nth xs a) (nth xs b).Names).Number (adN (nth xs a) (nth xs b).Names).Node (adN (nth xs a) (nth xs b).Names).Closed (adN (nth xs a) (nth xs b).Names).Names = decide ((nth xs a).Names.length + (nth xs b).Names.length ≤ 12) := by
    rw [← p2]
    exact incB_mk h1 h2 hc p1 (allNm_iff.2 fun t ht => by
      rcases (p3 t).1 ht with h | h
      · exact allNm_iff.1 h4 t h
      · exact allNm_iff.1 h5 t h)
  have hcv := clL_vi hv hb
  have hal : a < (clL xs b).length := by rw [clL_len]; exact ha
  have hna : nth (clL xs b) a = nth xs a := by unfold clL; rw [nth_set ha, if_neg (fun h => hab h.symm)]
  by_cases hl : (nth xs a).Names.length + (nth xs b).Names.length ≤ 12
  · rw [decide_eq_true hl] at e ⊢
    refine incs_iff.2 (hcv.set hal e (by rw [hna]; rfl) (fun t ht j hj hja hm => ?_))
    rw [clL_len] at hj
    unfold clL at hm
    rw [nth_set hj] at hm
    by_cases e1 : b = j
    · rw [if_pos e1] at hm; cases hm
    · rw [if_neg e1] at hm
      rcases (p3 t).1 ht with h | h
      · rcases Nat.lt_or_ge j a with hlt | hge
        · exact hv.dis j a t hlt ha hm h
        · exact hv.dis a j t (by omega) hj h hm
      · rcases Nat.lt_or_ge j b with hlt | hge
        · exact hv.dis j b t hlt hb hm h
        · exact hv.dis b j t (by omega) hj h hm
  · rw [decide_eq_false hl] at e ⊢
    exact set_bad hal e
theorem joF_len (xs : List Incident) (number other : Int) : (joF xs number other).1.length ≤ 1048576 ∧ ((joF xs number other).1.length : Int) + sumIncident (joF xs number other).1 ≤ 1048576 := by
  cases h : jnC xs (openI xs number) (openI xs other) with
  | false => rw [joF_no h]; exact len_nil
  | true =>
    have h0 := h
    unfold jnC at h
    simp only [Bool.and_eq_true, decide_eq_true_eq, Bool.not_eq_true', decide_eq_false_iff_not] at h
    have hv := incs_iff.1 h.1.1.1.1
    have ha : (openI xs number).toNat < xs.length := by have := (indexF_range (isO number) xs).2; have := h.1.1.1.2; unfold openI at this ⊢; omega
    have hb : (openI xs other).toNat < xs.length := by have := (indexF_range (isO other) xs).2; have := h.1.1.2; unfold openI at this ⊢; omega
    have hab : (openI xs number).toNat ≠ (openI xs other).toNat := by have := h.1.1.1.2; have := h.1.1.2; have := h.1.2; omega
    have hp := (adT_props (k := (nth xs (openI xs other).toNat).Names.length) hv ha hb hab).2.1
    rw [List.take_length] at hp
    unfold joF
    rw [if_pos h0]
    refine len_of (by show ((clL xs _).set _ _).length ≤ 9; rw [List.length_set, clL_len]; have := hv.len; omega) (set_names (set_names (vi_names hv) (Nat.zero_le _)) ?_)
    rw [hp]; exact h.2

end Go.Proofs.YtpdblmcflniomaaGreatDoor

namespace Go.Proofs.YtpdblmcflniomaaGreatDoor
open Go.RowKit

set_option maxRecDepth 100000 in
set_option maxHeartbeats 8000000 in
theorem ixGood_any (xs : List Incident) (A : Option Addr) (n c : Nat) (w : World) (hn : (n : Int) ≤ 9223372036854775807) (hc : n ≤ c) (hs : Sl w A n xs) (hv : ∀ x, x ∈ xs → ∀ y, y ∈ x.Names → y.size ≤ maxLen) :
    Calls Tryz.prog 38 #[.slice A n c] w fun e w' => e = .returned (.bool (incsB xs)) ∧ Below w.heap.size w w' := by
  have HV := Lib.hid hv
  clear hv
  have HL := Lib.hid hs.1
  go_enter Tryz.func38, Tryz.ntmps38
  go_wp2
  go_loopw [11] (fun i wr => ∃ k : Nat, k ≤ n ∧ i = .int .i64 k ∧ Below w.heap.size w wr ∧ Hid (∀ j, j < k → okInc xs j = true)) (fun i _ => n - (intOf i).toNat)
  case atStart => exact ⟨0, Nat.zero_le _, rfl, Below.refl _ _, fun j hj => absurd hj (by omega)⟩
  case round =>
    obtain ⟨k, hk, rfl, hb, hg⟩ := hrel
    by_cases hlt : k < n
    · obtain ⟨wo, rfl⟩ : ∃ wo : World, wo = wr := ⟨_, rfl⟩
      have hs' := hs.below hb
      obtain ⟨b, o, A', c', rfl, hbz, c0, c1, c2, c3, hi, hil⟩ := hs'.incident hlt
      have hil2 : ((nth xs k).Names.length : Int) ≤ 9223372036854775807 := by unfold maxLen at hil; omega
      have hkx : Hid (k < xs.length) := by rw [Hid, HL.out]; exact hlt
      have hszh := Lib.hid (HV.out _ (nth_mem hkx.out))
      have Hs := Lib.hid hs
      have hkc : (k : Int) ≤ c := by omega
      have hkc2 : k ≤ c := by omega
      have hk00 : (0 : Int) ≤ k := by omega
      clear hs hil
      cases g0 : incB (nth xs k).Number (nth xs k).Node (nth xs k).Closed (nth xs k).Names
      · have G0 : Hid (incAt xs k = false) := g0
        clear hs'
        go_wp2_with fail
        refine wp_region_grow (by kernel_rfl) (by kernel_rfl) (fun X hX => ?_)
        have hbX : Below wo.heap.size wo X := by rw [hX]; exact bl_alloc (bl_refl _) _
        have r0 : X.cell? ⟨wo.heap.size, 0, none⟩ = some (.int .i64 (nth xs k).Number) := by rw [hX]; go_simp
        have r1 : X.cell? ⟨wo.heap.size, 1, none⟩ = some (.int .i64 (nth xs k).Node) := by rw [hX]; go_simp
        have r2 : X.cell? ⟨wo.heap.size, 2, none⟩ = some (.bool (nth xs k).Closed) := by rw [hX]; go_simp
        have r3 : X.cell? ⟨wo.heap.size, 3, none⟩ = some (.slice A' (nth xs k).Names.length c') := by rw [hX]; go_simp
        have q0 := Gw.cell r0
        have q1 := Gw.cell r1
        have q2 := Gw.cell r2
        have q3 := Gw.cell r3
        have hiX := Lib.hid (hi.below hbX)
        have HX := Lib.hid hX
        clear hX c0 c1 c2 c3
        repeat (go_big_quiet_step ((go_at_call 61; exact Calls.grow_of (ixOne_any _ _ _ (nth xs k).Names _ _ _ _ hil2 (hiX.out.below (Subtype.property _)) hszh.out))))
        refine wpGrow_nil (fun V hV => ?_)
        have hB := bl_trans hbX hV
        have hbV := bl_trans hb hB
        have v3 := cell_later hV r3
        have vz : wo.heap.size < V.heap.size := World.block_lt_of_cell? V _ v3
        have hiV := Lib.hid (hi.below hB)
        clear hV hbX hi r0 q0 r1 q1 r2 q2 r3 q3
        clear v3
        go_wp2
        go_ret
        exact ⟨ret_bool (incsB_no hkx.out (okInc_0 G0.out)).symm, hbV⟩
      have G0 : Hid (incAt xs k = true) := g0
      by_cases hk0 : 0 < k
      · obtain ⟨b1, o1, A1, cc1, e, _, d0, _, _, _, _, _⟩ := hs'.incident (k := k - 1) (by omega)
        injection e with e
        injection e with e1 e2
        subst e1 e2
        clear hs'
        have hkd : decide ((k : Int) > 0) = true := by simpa using hk0
        have i2 : 0 ≤ (k : Int) - 1 := by omega
        have i4 : (k : Int) - 1 < n := by omega
        have i1 : IntKind.i64.wrap ((k : Int) - 1) = (k : Int) - 1 := IntWalk.i64_in _ (by omega)
        have i3 : ((k : Int) - 1).toNat = k - 1 := by omega
        by_cases g1 : (nth xs (k - 1)).Number ≥ (nth xs k).Number
        · have g2 : decide ((nth xs (k - 1)).Number ≥ (nth xs k).Number) = true := by simpa using g1
          go_wp2_with fail
          refine wp_region_grow (by kernel_rfl) (by kernel_rfl) (fun X hX => ?_)
          have hbX : Below wo.heap.size wo X := by rw [hX]; exact bl_alloc (bl_refl _) _
          have r0 : X.cell? ⟨wo.heap.size, 0, none⟩ = some (.int .i64 (nth xs k).Number) := by rw [hX]; go_simp
          have r1 : X.cell? ⟨wo.heap.size, 1, none⟩ = some (.int .i64 (nth xs k).Node) := by rw [hX]; go_simp
          have r2 : X.cell? ⟨wo.heap.size, 2, none⟩ = some (.bool (nth xs k).Closed) := by rw [hX]; go_simp
          have r3 : X.cell? ⟨wo.heap.size, 3, none⟩ = some (.slice A' (nth xs k).Names.length c') := by rw [hX]; go_simp
          have p0 := cell_later hbX d0
          have q0 := Gw.cell r0
          have q1 := Gw.cell r1
          have q2 := Gw.cell r2
          have q3 := Gw.cell r3
          have s0 := Gw.cell p0
          have hiX := Lib.hid (hi.below hbX)
          have HX := Lib.hid hX
          clear hX c0 c1 c2 c3
          repeat (go_big_quiet_step ((go_at_call 61; exact Calls.grow_of (ixOne_any _ _ _ (nth xs k).Names _ _ _ _ hil2 (hiX.out.below (Subtype.property _)) hszh.out))))
          refine wpGrow_nil (fun V hV => ?_)
          have hB := bl_trans hbX hV
          have hbV := bl_trans hb hB
          have v3 := cell_later hV r3
          have vz : wo.heap.size < V.heap.size := World.block_lt_of_cell? V _ v3
          have hiV := Lib.hid (hi.below hB)
          clear hV hbX hi r0 q0 r1 q1 r2 q2 r3 q3 p0 s0 d0 i1 i3
          clear v3
          go_wp2
          go_ret
          exact ⟨ret_bool (incsB_no hkx.out (okInc_1 hk0 g1)).symm, hbV⟩
        · have g2 : decide ((nth xs (k - 1)).Number ≥ (nth xs k).Number) = false := by simpa using g1
          go_wp2_with fail
          refine wp_region_grow (by kernel_rfl) (by kernel_rfl) (fun X hX => ?_)
          have hbX : Below wo.heap.size wo X := by rw [hX]; exact bl_alloc (bl_refl _) _
          have r0 : X.cell? ⟨wo.heap.size, 0, none⟩ = some (.int .i64 (nth xs k).Number) := by rw [hX]; go_simp
          have r1 : X.cell? ⟨wo.heap.size, 1, none⟩ = some (.int .i64 (nth xs k).Node) := by rw [hX]; go_simp
          have r2 : X.cell? ⟨wo.heap.size, 2, none⟩ = some (.bool (nth xs k).Closed) := by rw [hX]; go_simp
          have r3 : X.cell? ⟨wo.heap.size, 3, none⟩ = some (.slice A' (nth xs k).Names.length c') := by rw [hX]; go_simp
          have p0 := cell_later hbX d0
          have q0 := Gw.cell r0
          have q1 := Gw.cell r1
          have q2 := Gw.cell r2
          have q3 := Gw.cell r3
          have s0 := Gw.cell p0
          have hiX := Lib.hid (hi.below hbX)
          have HX := Lib.hid hX
          clear hX c0 c1 c2 c3
          repeat (go_big_quiet_step ((go_at_call 61; exact Calls.grow_of (ixOne_any _ _ _ (nth xs k).Names _ _ _ _ hil2 (hiX.out.below (Subtype.property _)) hszh.out))))
          refine wpGrow_nil (fun V hV => ?_)
          have hB := bl_trans hbX hV
          have hbV := bl_trans hb hB
          have v3 := cell_later hV r3
          have vz : wo.heap.size < V.heap.size := World.block_lt_of_cell? V _ v3
          have hiV := Lib.hid (hi.below hB)
          clear hV hbX hi r0 q0 r1 q1 r2 q2 r3 q3 p0 s0 d0 i1 i3
          go_wp2
          try simp only [g0]
          go_loopw [38] (fun i wr => ∃ r : Nat, r ≤ k ∧ i = .int .i64 r ∧ Below V.heap.size V wr ∧ Hid (∀ q, q < r → ∀ j, j < (nth xs k).Names.length → hasS (nth xs q).Names (nth (nth xs k).Names j) = false)) (fun i _ => k - (intOf i).toNat)
          case atStart => exact ⟨0, Nat.zero_le _, rfl, bl_refl _, fun j hj => absurd hj (by omega)⟩
          case round =>
            obtain ⟨r, hr, rfl, hb2, hg2⟩ := hrel
            by_cases hrk : r < k
            · obtain ⟨wm, rfl⟩ : ∃ wm : World, wm = wr := ⟨_, rfl⟩
              have v4 := cell_later hb2 v3
              have vz4 : wo.heap.size < wm.heap.size := World.block_lt_of_cell? wm _ v4
              obtain ⟨b', o', B', c'', e, hbz', y0, y1, y2, y3, hy, hyl⟩ := (Hs.out.below (bl_trans hbV hb2)).incident (by omega : r < n)
              injection e with e
              injection e with e1 e2
              subst e1 e2
              have hyl2 : ((nth xs r).Names.length : Int) ≤ 9223372036854775807 := by unfold maxLen at hyl; omega
              clear hyl v3
              go_wp2
              go_loopw [45] (fun i wr => ∃ j : Nat, j ≤ (nth xs k).Names.length ∧ i = .int .i64 j ∧ Below wm.heap.size wm wr ∧ wr.cell? ⟨wm.heap.size, 3, none⟩ = some (.slice B' (nth xs r).Names.length c'') ∧ Hid (∀ q, q < j → hasS (nth xs r).Names (nth (nth xs k).Names q) = false)) (fun i _ => (nth xs k).Names.length - (intOf i).toNat)
              case atStart => exact ⟨0, Nat.zero_le _, rfl, bl_alloc (bl_refl _) _, by go_simp, fun j hj => absurd hj (by omega)⟩
              case round =>
                obtain ⟨j, hj, rfl, hb3, u3, hg3⟩ := hrel
                have uz : wm.heap.size < wr.heap.size := World.block_lt_of_cell? wr _ u3
                clear y0 y1 y2 y3 v4
                by_cases hjn : j < (nth xs k).Names.length
                · obtain ⟨b2, o2, rfl, _, e0⟩ := (hiV.out.below (bl_trans hb2 hb3)).str hjn
                  go_wp2_with fail
                  refine (dsHas_any (nth xs r).Names (nth (nth xs k).Names j) _ _ _ _ hyl2 (hy.below hb3)).mono ?_
                  rintro e V2 ⟨rfl, rfl⟩
                  clear e0
                  cases ha : hasS (nth xs r).Names (nth (nth xs k).Names j)
                  · have Ha := Lib.hid ha
                    clear ha
                    go_wp2
                    go_roundw
                    case rel => exact ⟨j + 1, by omega, by go_num, hb3, u3, upto_succ hg3 Ha.out⟩
                    case measure => simp [intOf]; omega
                  · have Ha := Lib.hid ha
                    clear ha
                    go_wp2
                    go_ret
                    exact ⟨ret_bool (incsB_no hkx.out (okInc_2 hjn (any_take_yes (p := fun y : Incident => hasS y.Names (nth (nth xs k).Names j)) (Nat.le_of_lt hkx.out) hrk Ha.out))).symm, bl_trans hbV (bl_trans hb2 hb3)⟩
                · obtain rfl : j = (nth xs k).Names.length := by omega
                  clear u3
                  go_wp2
                  go_roundw
                  case rel => exact ⟨r + 1, by omega, by go_num, bl_trans hb2 hb3, upto_succ hg2 hg3.out⟩
                  case measure => simp [intOf]; omega
            · obtain rfl : r = k := by omega
              have hq : Hid (okInc xs r = true) := okInc_y G0.out (.inr (by omega)) (fun j hj => any_take_no (Nat.le_of_lt hkx.out) (fun q hq => hg2.out q hq j hj))
              clear v3
              go_wp2
              go_roundw
              case rel => exact ⟨r + 1, by omega, by go_num, bl_trans hbV hb2, upto_succ hg hq.out⟩
              case measure => simp [intOf]; omega
      · have hkd : decide ((k : Int) > 0) = false := by simp; omega
        clear hs'
        go_wp2_with fail
        refine wp_region_grow (by kernel_rfl) (by kernel_rfl) (fun X hX => ?_)
        have hbX : Below wo.heap.size wo X := by rw [hX]; exact bl_alloc (bl_refl _) _
        have r0 : X.cell? ⟨wo.heap.size, 0, none⟩ = some (.int .i64 (nth xs k).Number) := by rw [hX]; go_simp
        have r1 : X.cell? ⟨wo.heap.size, 1, none⟩ = some (.int .i64 (nth xs k).Node) := by rw [hX]; go_simp
        have r2 : X.cell? ⟨wo.heap.size, 2, none⟩ = some (.bool (nth xs k).Closed) := by rw [hX]; go_simp
        have r3 : X.cell? ⟨wo.heap.size, 3, none⟩ = some (.slice A' (nth xs k).Names.length c') := by rw [hX]; go_simp
        have q0 := Gw.cell r0
        have q1 := Gw.cell r1
        have q2 := Gw.cell r2
        have q3 := Gw.cell r3
        have hiX := Lib.hid (hi.below hbX)
        have HX := Lib.hid hX
        clear hX c0 c1 c2 c3
        repeat (go_big_quiet_step ((go_at_call 61; exact Calls.grow_of (ixOne_any _ _ _ (nth xs k).Names _ _ _ _ hil2 (hiX.out.below (Subtype.property _)) hszh.out))))
        refine wpGrow_nil (fun V hV => ?_)
        have hB := bl_trans hbX hV
        have hbV := bl_trans hb hB
        have v3 := cell_later hV r3
        have vz : wo.heap.size < V.heap.size := World.block_lt_of_cell? V _ v3
        have hiV := Lib.hid (hi.below hB)
        clear hV hbX hi r0 q0 r1 q1 r2 q2 r3 q3
        go_wp2
        try simp only [g0]
        go_loopw [38] (fun i wr => ∃ r : Nat, r ≤ k ∧ i = .int .i64 r ∧ Below V.heap.size V wr ∧ Hid (∀ q, q < r → ∀ j, j < (nth xs k).Names.length → hasS (nth xs q).Names (nth (nth xs k).Names j) = false)) (fun i _ => k - (intOf i).toNat)
        case atStart => exact ⟨0, Nat.zero_le _, rfl, bl_refl _, fun j hj => absurd hj (by omega)⟩
        case round =>
          obtain ⟨r, hr, rfl, hb2, hg2⟩ := hrel
          by_cases hrk : r < k
          · exact absurd hrk (by omega)
          · obtain rfl : r = k := by omega
            have hq : Hid (okInc xs r = true) := okInc_y G0.out (.inl (by omega)) (fun j hj => any_take_no (Nat.le_of_lt hkx.out) (fun q hq => hg2.out q hq j hj))
            clear v3
            go_wp2
            go_roundw
            case rel => exact ⟨r + 1, by omega, by go_num, bl_trans hbV hb2, upto_succ hg hq.out⟩
            case measure => simp [intOf]; omega
    · obtain rfl : k = n := by omega
      go_wp2
      go_ret
      refine ⟨ret_bool ?_, hb⟩
      rw [incsB_all (by rw [HL.out]; exact hg.out), HL.out]
      simp
      try omega
end Go.Proofs.YtpdblmcflniomaaGreatDoor
