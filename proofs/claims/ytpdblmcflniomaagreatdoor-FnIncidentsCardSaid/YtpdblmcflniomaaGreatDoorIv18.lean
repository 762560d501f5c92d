/-
  Several texts in one. No conditions.
-/
import Derived.Test.YtpdblmcflniomaaGreatDoorIv17
import Derived.Test.YtpdblmcflniomaaGreatDoorIv7
import Derived.Test.YtpdblmcflniomaaGreatDoorIv3
import Derived.Test.YtpdblmcflniomaaGreatDoorIv15
namespace Go.Proofs.YtpdblmcflniomaaGreatDoor
open Go.RowKit

theorem ret_ib {a a' : Int} {b b' : Bool} (h : a = a') (h' : b = b') : Ending.returned (.tuple #[.int .i64 a, .bool b]) = .returned (.tuple #[.int .i64 a', .bool b']) := by rw [h, h']
def ctF (xs : List Incident) (nm : ByteArray) : Int × Bool := if incsB xs && nameB nm && decide (0 ≤ atB xs nm) then ((nth xs (atB xs nm).toNat).Number, true) else (0, false)
theorem ctF_no {xs : List Incident} {nm : ByteArray} (h : (incsB xs && nameB nm && decide (0 ≤ atB xs nm)) = false) : ctF xs nm = (0, false) := by unfold ctF; rw [if_neg (by rw [h]; exact Bool.false_ne_true)]
theorem ctF_yes {xs : List Incident} {nm : ByteArray} {j : Nat} (h : incsB xs = true) (h1 : nameB nm = true) (h2 : atB xs nm = j) : ctF xs nm = ((nth xs j).Number, true) := by unfold ctF; rw [h, h1, h2]; simp
set_option maxHeartbeats 2000000 in
theorem implCommittedTo_any (xs : List Incident) (nm : ByteArray) (A : Option Addr) (n c : Nat) (w : World) (hz : nm.size ≤ maxLen) (hn : (n : Int) ≤ 9223372036854775807) (hc : n ≤ c) (hs : Sl w A n xs) (hv : ∀ x, x ∈ xs → ∀ y, y ∈ x.Names → y.size ≤ maxLen) :
    Calls Tryz.prog 23 #[.slice A n c, .string nm] w fun e w' => e = .returned (.tuple #[.int .i64 (ctF xs nm).1, .bool (ctF xs nm).2]) ∧ Below w.heap.size w w' := by
  have HV := Lib.hid hv
  have HL := Lib.hid hs.1
  clear hv
  go_enter Tryz.func23, Tryz.ntmps23
  have hk0 := bl_refl w
  go_wp2_with fail
  refine (areIncidents_any xs _ _ _ _ hn hc hs HV.out).mono ?_
  rintro e V1 ⟨rfl, hb1⟩
  have hB1 := bl_trans (a := w) (bl_refl _) hb1
  have hk1 := bl_trans hk0 hB1
  have z1 := Lib.hid hB1.size
  cases h0 : incsB xs
  · have Hz := Lib.hid (ctF_no (xs := xs) (nm := nm) (by rw [h0]; first | done | simp))
    clear h0
    go_wp2
    go_ret2
    exact ⟨ret_ib (by rw [Hz.out]) (by rw [Hz.out]), hk1⟩
  have H0 := Lib.hid h0
  clear h0
  go_wp2_with fail
  refine (isName_any nm _ hz).mono ?_
  rintro e V2 ⟨rfl, hb2⟩
  have hB2 := bl_trans (a := V1) (bl_refl _) hb2
  have hk2 := bl_trans hk1 hB2
  have z2 := Lib.hid hB2.size
  clear hk1
  cases h1 : nameB nm
  · have Hz := Lib.hid (ctF_no (xs := xs) (nm := nm) (by rw [h1]; first | done | simp))
    clear h1
    go_wp2
    go_ret2
    exact ⟨ret_ib (by rw [Hz.out]) (by rw [Hz.out]), hk2⟩
  have H1 := Lib.hid h1
  clear h1
  go_wp2_with fail
  refine (committedAt_any xs nm _ _ _ _ hn (hs.below hk2)).mono ?_
  rintro e V3 ⟨rfl, hb3⟩
  have hB3 := bl_trans (a := V2) (bl_refl _) hb3
  have hk3 := bl_trans hk2 hB3
  have z3 := Lib.hid hB3.size
  clear hk2
  have hge := indexF_range (fun y : Incident => hasS y.Names nm) xs
  obtain ⟨i, hi⟩ : ∃ i, i = atB xs nm := ⟨_, rfl⟩
  have hge2 : -1 ≤ i ∧ i < xs.length := by rw [hi]; exact hge
  rw [← hi]
  have hi' := Lib.hid hi
  clear hi hge
  by_cases h0 : i < 0
  · have hd : decide (i < 0) = true := by simpa using h0
    have Hz := Lib.hid (ctF_no (xs := xs) (nm := nm) (by rw [← hi'.out, decide_eq_false (by omega : ¬ 0 ≤ i)]; simp))
    go_wp2
    go_ret2
    exact ⟨ret_ib (by rw [Hz.out]) (by rw [Hz.out]), hk3⟩
  have hd : decide (i < 0) = false := by simpa using h0
  obtain ⟨j, rfl⟩ := Int.eq_ofNat_of_zero_le (by omega : 0 ≤ i)
  have hj : j < n := by have := HL.out; omega
  have Hz := Lib.hid (ctF_yes H0.out H1.out hi'.out.symm)
  clear hge2 h0
  go_wp2_with fail
  refine (committedAt_any xs nm _ _ _ _ hn (hs.below hk3)).mono ?_
  rintro e V4 ⟨rfl, hb4⟩
  have hB4 := bl_trans (a := V3) (bl_refl _) hb4
  have hk4 := bl_trans hk3 hB4
  have z4 := Lib.hid hB4.size
  clear hk3
  rw [← hi'.out]
  obtain ⟨b, o, A', c', rfl, _, c0, c1, c2, c3, _, _⟩ := (hs.below hk4).incident hj
  clear hs c1 c2 c3
  go_wp2
  go_ret2
  exact ⟨ret_ib (by rw [Hz.out]) (by rw [Hz.out]), hk4⟩

end Go.Proofs.YtpdblmcflniomaaGreatDoor

namespace Go.Proofs.YtpdblmcflniomaaGreatDoor
open Go.RowKit

theorem fmap_yes {α β : Type} [Inhabited α] {f : α → Option β} {xs : List α} {k : Nat} {y : β} (hk : k < xs.length) (h : f (nth xs k) = some y) : (xs.take (k + 1)).filterMap f = (xs.take k).filterMap f ++ [y] := by
  rw [take_succ hk, List.filterMap_append]; simp [h]
theorem fmap_no {α β : Type} [Inhabited α] {f : α → Option β} {xs : List α} {k : Nat} (hk : k < xs.length) (h : f (nth xs k) = none) : (xs.take (k + 1)).filterMap f = (xs.take k).filterMap f := by
  rw [take_succ hk, List.filterMap_append]; simp [h]
def openG (x : Incident) : Option Int := if x.Closed then none else some x.Number
def openL (xs : List Incident) : List Int := xs.filterMap openG
def openF (xs : List Incident) : List Int × Bool := if incsB xs then (openL xs, true) else ([], false)
theorem openG_yes {x : Incident} (h : x.Closed = false) : openG x = some x.Number := by unfold openG; rw [h]; rfl
theorem openG_no {x : Incident} (h : x.Closed = true) : openG x = none := by unfold openG; rw [h]; rfl
theorem openF_yes {xs : List Incident} (h : incsB xs = true) : openF xs = (openL xs, true) := by unfold openF; rw [if_pos h]
theorem openF_no {xs : List Incident} (h : incsB xs = false) : openF xs = ([], false) := by unfold openF; rw [if_neg (by rw [h]; exact Bool.false_ne_true)]
theorem openF_len (xs : List Incident) : (openF xs).1.length ≤ 1048576 := by
  unfold openF; split
  · rename_i h
    have h1 := incsB_len h
    have h2 : (openL xs).length ≤ xs.length := List.length_filterMap_le _ _
    simp only; omega
  · simp
set_option maxHeartbeats 2000000 in
theorem openNumbers_any (xs : List Incident) (A : Option Addr) (n c : Nat) (w : World) (hn : n ≤ 1048576) (hs : Sl w A n xs) :
    Calls Tryz.prog 47 #[.slice A n c] w (RetOwn w 3 (openL xs)) := by
  have HL := Lib.hid hs.1
  go_enter Tryz.func47, Tryz.ntmps47
  go_wp2
  go_loopw [3, 8] (fun v i wr => ∃ (k q c' : Nat) (A' : Option Addr), k ≤ n ∧ i = .int .i64 k ∧ v = .slice A' q c' ∧ q ≤ k ∧ Own wr w.heap.size 3 (.slice A' q c') ((xs.take k).filterMap openG) ∧ Below w.heap.size w wr) (fun _ i _ => n - (intOf i).toNat)
  case atStart => exact ⟨0, 0, 0, none, Nat.zero_le _, rfl, rfl, Nat.le_refl _, Own.nil _ _ _, bl_refl _⟩
  case round =>
    obtain ⟨k, q, c', A', hk, rfl, rfl, hq, ho, hb⟩ := hrel
    by_cases hlt : k < n
    · obtain ⟨b, o, A2, c2, rfl, hbz, c0, c1, c2', c3, _, _⟩ := (hs.below hb).incident hlt
      have hkx : Hid (k < xs.length) := by rw [Hid, HL.out]; exact hlt
      clear hs
      cases hcl : (nth xs k).Closed
      · have hp := Lib.hid (openG_yes hcl)
        go_wp2_with ((at_builtin; refine wpList_app1g rfl (.tmp 15) (.tmp 18) _ _ rfl el_int (nth xs k).Number rfl (ho.alloc _) (bl_alloc hb _) rfl (by simp) (by omega) ?_; intro A3 c3' w2 ho2 hb2 hg2))
        go_roundw
        case rel => exact ⟨k + 1, q + 1, c3', A3, by omega, by go_num, rfl, by omega, by rw [fmap_yes hkx.out hp.out]; exact ho2, hb2⟩
        case measure => simp [intOf]; omega
      · have hp := Lib.hid (openG_no hcl)
        go_wp2
        go_roundw
        case rel => exact ⟨k + 1, q, c', A', by omega, by go_num, rfl, by omega, by rw [fmap_no hkx.out hp.out]; exact ho.alloc _, bl_alloc hb _⟩
        case measure => simp [intOf]; omega
    · obtain rfl : k = n := by omega
      have hfin : Hid ((xs.take k).filterMap openG = openL xs) := by rw [Hid, List.take_of_length_le (by rw [HL.out]; exact Nat.le_refl _)]; rfl
      have hq2 := ho.sl.1
      rw [hfin.out] at ho hq2
      have hq3 := Lib.hid hq2
      clear hq2
      go_wp2
      go_ret
      exact retOwn_mk hq3.out ho hb
set_option maxHeartbeats 2000000 in
theorem specOpenNumbers_any (xs : List Incident) (A : Option Addr) (n c : Nat) (w : World) (hn : (n : Int) ≤ 9223372036854775807) (hc : n ≤ c) (hs : Sl w A n xs) (hv : ∀ x, x ∈ xs → ∀ y, y ∈ x.Names → y.size ≤ maxLen) :
    Calls Tryz.prog 14 #[.slice A n c] w (RetOwn2 w 3 (openF xs)) := by
  have HV := Lib.hid hv
  have HL := Lib.hid hs.1
  clear hv
  go_enter Tryz.func14, Tryz.ntmps14
  have hk0 := bl_refl w
  go_wp2_with fail
  refine (ixGood_any xs _ _ _ _ hn hc hs HV.out).mono ?_
  rintro e V1 ⟨rfl, hb1⟩
  have hB1 := bl_trans (a := w) (bl_refl _) hb1
  have hk1 := bl_trans hk0 hB1
  have z1 := Lib.hid hB1.size
  cases h0 : incsB xs
  · have Hz := Lib.hid (openF_no (xs := xs) (by rw [h0]; first | done | simp))
    clear h0
    go_wp2
    go_ret2
    exact retOwn2_mk Hz.out (Own.nil _ _ _) hk1
  have H0 := Lib.hid h0
  clear h0
  have Hz := Lib.hid (openF_yes H0.out)
  have hn8 : n ≤ 8 := by have := incsB_len H0.out; have := HL.out; omega
  go_wp2
  go_loopw [4, 12] (fun v i wr => ∃ (k q c' : Nat) (A' : Option Addr), k ≤ n ∧ i = .int .i64 k ∧ v = .slice A' q c' ∧ q ≤ k ∧ Own wr w.heap.size 3 (.slice A' q c') ((xs.take k).filterMap openG) ∧ Below w.heap.size w wr) (fun _ i _ => n - (intOf i).toNat)
  case atStart => exact ⟨0, 0, 0, none, Nat.zero_le _, rfl, rfl, Nat.le_refl _, Own.nil _ _ _, hk1⟩
  case round =>
    obtain ⟨k, q, c', A', hk, rfl, rfl, hq, ho, hb⟩ := hrel
    by_cases hlt : k < n
    · obtain ⟨b, o, A2, c2, rfl, hbz, c0, c1, c2', c3, _, _⟩ := (hs.below hb).incident hlt
      have hkx : Hid (k < xs.length) := by rw [Hid, HL.out]; exact hlt
      clear hs
      cases hcl : (nth xs k).Closed
      · have hp := Lib.hid (openG_yes hcl)
        go_wp2_with ((at_builtin; refine wpList_app1g rfl (.tmp 19) (.tmp 22) _ _ rfl el_int (nth xs k).Number rfl (ho.alloc _) (bl_alloc hb _) rfl (by simp) (by omega) ?_; intro A3 c3' w2 ho2 hb2 hg2))
        go_roundw
        case rel => exact ⟨k + 1, q + 1, c3', A3, by omega, by go_num, rfl, by omega, by rw [fmap_yes hkx.out hp.out]; exact ho2, hb2⟩
        case measure => simp [intOf]; omega
      · have hp := Lib.hid (openG_no hcl)
        go_wp2
        go_roundw
        case rel => exact ⟨k + 1, q, c', A', by omega, by go_num, rfl, by omega, by rw [fmap_no hkx.out hp.out]; exact ho.alloc _, bl_alloc hb _⟩
        case measure => simp [intOf]; omega
    · obtain rfl : k = n := by omega
      have hfin : Hid ((xs.take k).filterMap openG = openL xs) := by rw [Hid, List.take_of_length_le (by rw [HL.out]; exact Nat.le_refl _)]; rfl
      have hq2 := ho.sl.1
      rw [hfin.out] at ho hq2
      have hq3 := Lib.hid hq2
      clear hq2
      go_wp2
      go_ret2
      exact retOwn2_mk Hz.out ho hb
set_option maxHeartbeats 2000000 in
theorem implOpenNumbers_any (xs : List Incident) (A : Option Addr) (n c : Nat) (w : World) (hn : (n : Int) ≤ 9223372036854775807) (hc : n ≤ c) (hs : Sl w A n xs) (hv : ∀ x, x ∈ xs → ∀ y, y ∈ x.Names → y.size ≤ maxLen) :
    Calls Tryz.prog 13 #[.slice A n c] w (RetOwn2 w 3 (openF xs)) := by
  have HV := Lib.hid hv
  have HL := Lib.hid hs.1
  clear hv
  go_enter Tryz.func13, Tryz.ntmps13
  have hk0 := bl_refl w
  go_wp2_with fail
  refine (areIncidents_any xs _ _ _ _ hn hc hs HV.out).mono ?_
  rintro e V1 ⟨rfl, hb1⟩
  have hB1 := bl_trans (a := w) (bl_refl _) hb1
  have hk1 := bl_trans hk0 hB1
  have z1 := Lib.hid hB1.size
  cases h0 : incsB xs
  · have Hz := Lib.hid (openF_no (xs := xs) (by rw [h0]; first | done | simp))
    clear h0
    go_wp2
    go_ret2
    exact retOwn2_mk Hz.out (Own.nil _ _ _) hk1
  have H0 := Lib.hid h0
  clear h0
  have Hz := Lib.hid (openF_yes H0.out)
  have hn8 : n ≤ 8 := by have := incsB_len H0.out; have := HL.out; omega
  go_wp2_with fail
  refine (openNumbers_any xs _ _ _ _ (by omega) (hs.below hk1)).mono ?_
  rintro e V2 ⟨A_r, c_r, rfl, ho_r, hb2⟩
  have hB2 := bl_trans (a := V1) (bl_refl _) hb2
  have hk2 := bl_trans hk1 hB2
  have z2 := Lib.hid hB2.size
  clear hk1
  go_wp2
  go_ret2
  exact retOwn2_mk Hz.out (ho_r.mono (by have := z1.out; have := z2.out; omega)) hk2

end Go.Proofs.YtpdblmcflniomaaGreatDoor

namespace Go.Proofs.YtpdblmcflniomaaGreatDoor
open Go.RowKit

theorem vi_lt {xs : List Incident} (hv : Vi xs) : ∀ i k, i < k → k < xs.length → (nth xs i).Number < (nth xs k).Number := by
  intro i k
  induction k with
  | zero => intro h; omega
  | succ k ih =>
    intro h1 h2
    have h3 := hv.num (k + 1) (by omega) h2
    rw [Nat.add_sub_cancel] at h3
    by_cases e : i = k
    · rw [e]; exact h3
    · have := ih (by omega) (by omega); omega
theorem pw_unique : ∀ {l m : List ByteArray}, l.Pairwise (fun a b => Op.bytesLess a.toList b.toList = true) → m.Pairwise (fun a b => Op.bytesLess a.toList b.toList = true) → (∀ t, t ∈ l ↔ t ∈ m) → l = m
  | [], [], _, _, _ => rfl
  | [], y :: m, _, _, h => absurd ((h y).2 List.mem_cons_self) (by simp)
  | x :: l, [], _, _, h => absurd ((h x).1 List.mem_cons_self) (by simp)
  | x :: l, y :: m, hl, hm, h => by
    have e : x = y := by
      rcases List.mem_cons.1 ((h x).1 List.mem_cons_self) with e | hx
      · exact e
      · rcases List.mem_cons.1 ((h y).2 List.mem_cons_self) with e | hy
        · exact e.symm
        · have h1 := List.rel_of_pairwise_cons hm hx
          have h2 := List.rel_of_pairwise_cons hl hy
          have h3 := bl_tr h1 h2
          rw [bl_irr] at h3; cases h3
    subst e
    refine congrArg (x :: ·) (pw_unique (List.pairwise_cons.1 hl).2 (List.pairwise_cons.1 hm).2 fun t => ?_)
    constructor
    · intro ht
      rcases List.mem_cons.1 ((h t).1 (List.mem_cons_of_mem _ ht)) with e | h4
      · subst e; have := List.rel_of_pairwise_cons hl ht; rw [bl_irr] at this; cases this
      · exact h4
    · intro ht
      rcases List.mem_cons.1 ((h t).2 (List.mem_cons_of_mem _ ht)) with e | h4
      · subst e; have := List.rel_of_pairwise_cons hm ht; rw [bl_irr] at this; cases this
      · exact h4
theorem sort_unique {l m : List ByteArray} (hl : sortB l = true) (hm : sortB m = true) (h : ∀ t, t ∈ l ↔ t ∈ m) : l = m := pw_unique (sort_pw.1 hl) (sort_pw.1 hm) h
theorem set_back {xs : List Incident} {a : Nat} {x : Incident} (h : a < xs.length) (hx : x = nth xs a) : (xs.set a x) = xs := by
  subst hx; rw [← nth_ge h]; exact List.set_getElem_self h
/-- where a name stands: the first, for it stands but once -/
theorem at_only {xs : List Incident} {s : ByteArray} {k : Nat} (hk : k < xs.length) (hs : s ∈ (nth xs k).Names) (hn : ∀ j, j < k → s ∉ (nth xs j).Names) : atB xs s = (k : Int) := by
  unfold atB
  refine indexF_hit hk (hasS_iff.2 hs) fun j hj => ?_
  cases h : hasS (nth xs j).Names s with
  | false => rfl
  | true => exact absurd (hasS_iff.1 h) (hn j hj)
theorem at_vi {xs : List Incident} {s : ByteArray} {k : Nat} (hv : Vi xs) (hk : k < xs.length) (hs : s ∈ (nth xs k).Names) : atB xs s = (k : Int) :=
  at_only hk hs fun j hj hm => hv.dis j k s hj hk hm hs
theorem open_only {xs : List Incident} {number : Int} {k : Nat} (hv : Vi xs) (hk : k < xs.length) (hn : (nth xs k).Number = number) (hc : (nth xs k).Closed = false) : openI xs number = (k : Int) := by
  unfold openI
  refine indexF_hit hk (by simp [isO, hn, hc]) fun j hj => ?_
  have := vi_lt hv j k hj hk
  simp only [isO, Bool.and_eq_false_iff]
  left
  simp; omega
theorem drop_ins {l : List ByteArray} {s : ByteArray} {q : Nat} (h : s ∉ l) : dropS (insQ l q s) s = l := by
  have h1 : ∀ m : List ByteArray, (∀ x, x ∈ m → x ≠ s) → m.filter (fun x => !(x.toList == s.toList)) = m := fun m hm => by
    refine List.filter_eq_self.2 fun x hx => ?_
    cases e : x.toList == s.toList with
    | false => rfl
    | true => exact absurd (bytes_inj (by simpa using e)) (hm x hx)
  unfold dropS insQ
  rw [List.filter_append, List.filter_append, h1 _ (fun x hx e => h (e ▸ List.mem_of_mem_take hx)), h1 _ (fun x hx e => h (e ▸ List.mem_of_mem_drop hx))]
  simp
theorem rl_ad {x : Incident} {s : ByteArray} (h : s ∉ x.Names) : rlX (adX x s) s = x := by
  show Incident.mk x.Number x.Node x.Closed (dropS (insQ x.Names (posS x.Names s) s) s) = x
  rw [drop_ins h]
/-- committed -/
theorem commit_law {l c : List Incident} {number : Int} {s : ByteArray} (h : cmF l number s = (c, true)) :
    ctF c s = (number, true) ∧ ctF l s = (0, false) ∧ rlF c number s = (l, true) ∧ incsB c = true ∧ cmF c number s = ([], false) := by
  cases hc : (incsB l && nameB s && decide (0 ≤ openI l number) && decide (atB l s < 0) && decide ((nth l (openI l number).toNat).Names.length < 12)) with
  | false => rw [cmF_no hc] at h; cases h
  | true =>
    simp only [Bool.and_eq_true, decide_eq_true_eq] at hc
    obtain ⟨⟨⟨⟨h1, h2⟩, h3⟩, h4⟩, h5⟩ := hc
    obtain ⟨k, hk⟩ := Int.eq_ofNat_of_zero_le h3
    rw [hk] at h5
    have h5' : (nth l k).Names.length < 12 := h5
    rw [cmF_yes h1 h2 hk h4 h5'] at h
    injection h with h6 _
    subst h6
    have hv := incs_iff.1 h1
    obtain ⟨ka, kb, kc⟩ := open_at hk
    have hno := at_none h4
    have hg : incsB (l.set k (adX (nth l k) s)) = true := by rw [commit_good h1 h2 hk hno]; exact decide_eq_true h5'
    have hvc := incs_iff.1 hg
    have hn : nth (l.set k (adX (nth l k) s)) k = adX (nth l k) s := by rw [nth_set ka, if_pos rfl]
    have hkl : k < (l.set k (adX (nth l k) s)).length := by rw [List.length_set]; exact ka
    have hat : atB (l.set k (adX (nth l k) s)) s = (k : Int) := at_vi hvc hkl (by rw [hn]; exact insQ_mem.2 (.inl rfl))
    have hop : openI (l.set k (adX (nth l k) s)) number = (k : Int) := open_only hvc hkl (by rw [hn]; exact kb) (by rw [hn]; exact kc)
    refine ⟨?_, ctF_no ?_, ?_, hg, cmF_no ?_⟩
    · rw [ctF_yes hg h2 hat, hn]; exact congrArg (·, true) kb
    · rw [decide_eq_false (by omega)]; simp
    · rw [rlF_yes hg h2 hop hat, hn, rl_ad (hno k ka), List.set_set, set_back ka rfl]
    · rw [hat, decide_eq_false (show ¬ ((k : Int) < 0) by omega)]; simp
/-- transferred -/
theorem rl_names {xs : List Incident} {b : Nat} {s : ByteArray} (hb : b < xs.length) : nth (rlL xs b s) b = rlX (nth xs b) s := by unfold rlL; rw [nth_set hb, if_pos rfl]
theorem ins_drop {l : List ByteArray} {s : ByteArray} (h : sortB l = true) (hs : s ∈ l) : insQ (dropS l s) (posS (dropS l s) s) s = l := by
  have h1 := insQ_sort (dropS_sort (s := s) h) (fun hm => (dropS_mem.1 hm).2 rfl)
  refine sort_unique h1 h fun t => ?_
  rw [insQ_mem, dropS_mem]
  constructor
  · rintro (rfl | ⟨h, _⟩)
    · exact hs
    · exact h
  · intro ht
    by_cases e : t = s
    · exact .inl e
    · exact .inr ⟨ht, e⟩
theorem ad_rl {x : Incident} {s : ByteArray} (h : sortB x.Names = true) (hs : s ∈ x.Names) : adX (rlX x s) s = x := by
  show Incident.mk x.Number x.Node x.Closed (insQ (dropS x.Names s) (posS (dropS x.Names s) s) s) = x
  rw [ins_drop h hs]
theorem transfer_law {u t : List Incident} {who : ByteArray} {tn : Int} (h : trF u who tn = (t, true)) :
    ∃ frm : Int, ctF u who = (frm, true) ∧ ctF t who = (tn, true) ∧ ¬ frm = tn ∧ trF t who frm = (u, true) := by
  cases hc : trC u who tn with
  | false => rw [trF_no hc] at h; cases h
  | true =>
    have hc' := hc
    unfold trC at hc'
    simp only [Bool.and_eq_true, decide_eq_true_eq, Bool.not_eq_true', decide_eq_false_iff_not] at hc'
    obtain ⟨⟨⟨⟨⟨h1, h2⟩, h3⟩, h4⟩, h5⟩, h6⟩ := hc'
    obtain ⟨a, ha⟩ := Int.eq_ofNat_of_zero_le h3
    obtain ⟨b, hb⟩ := Int.eq_ofNat_of_zero_le h4
    rw [ha, hb] at h5
    rw [ha] at h6
    have h6' : (nth u a).Names.length < 12 := h6
    have hab : b ≠ a := by omega
    rw [trF_yes h1 h2 ha hb hab h6'] at h
    injection h with h7 _
    subst h7
    have hv := incs_iff.1 h1
    obtain ⟨aa, ab, ac⟩ := open_at ha
    obtain ⟨ba, bm⟩ := at_some hb
    have bc : (nth u b).Closed = false := by
      cases e : (nth u b).Closed with
      | false => rfl
      | true =>
        have h0 := (incB_split (hv.one b ba)).2.2.1 e
        rw [List.eq_nil_of_length_eq_zero h0] at bm
        cases bm
    have hg : incsB (trL u who b a) = true := by rw [tr_good hv h2 aa ac ba bm hab]; exact decide_eq_true h6'
    have hvt := incs_iff.1 hg
    have hlen : (trL u who b a).length = u.length := by unfold trL; rw [List.length_set, rlL_len]
    have ea : nth (rlL u b who) a = nth u a := rlL_at aa hab
    have na : nth (trL u who b a) a = adX (nth u a) who := by unfold trL; rw [nth_set (by rw [rlL_len]; exact aa), if_pos rfl, ea]
    have nb : nth (trL u who b a) b = rlX (nth u b) who := by unfold trL; rw [nth_set (by rw [rlL_len]; exact ba), if_neg (fun h => hab h.symm), rl_names ba]
    have hna : who ∉ (nth u a).Names := fun hm => by
      rcases Nat.lt_or_ge a b with hlt | hge
      · exact hv.dis a b who hlt ba hm bm
      · exact hv.dis b a who (by omega) aa bm hm
    have hat : atB (trL u who b a) who = (a : Int) := at_vi hvt (by rw [hlen]; exact aa) (by rw [na]; exact insQ_mem.2 (.inl rfl))
    have hnum : (nth u b).Number ≠ tn := fun e => by
      rcases Nat.lt_or_ge a b with hlt | hge
      · have := vi_lt hv a b hlt ba; omega
      · have := vi_lt hv b a (by omega) aa; omega
    have hop : openI (trL u who b a) (nth u b).Number = (b : Int) := open_only hvt (by rw [hlen]; exact ba) (by rw [nb]; rfl) (by rw [nb]; exact bc)
    have hsb := (incB_split (hv.one b ba)).2.2.2.1
    have hlb : (nth (trL u who b a) b).Names.length < 12 := by
      have h8 := incB_len (hv.one b ba)
      have h9 : (adX (rlX (nth u b) who) who).Names.length = (rlX (nth u b) who).Names.length + 1 := insQ_len (posS_le _ _)
      rw [ad_rl hsb bm] at h9
      rw [nb]; omega
    refine ⟨(nth u b).Number, ctF_yes h1 h2 hb, ?_, hnum, ?_⟩
    · rw [ctF_yes hg h2 hat, na]; exact congrArg (·, true) ab
    · rw [trF_yes hg h2 hop hat (fun h => hab h.symm) hlb]
      refine congrArg (·, true) ?_
      have r1 : rlL (trL u who b a) a who = (rlL u b who) := by
        unfold rlL trL
        rw [nth_set (by rw [rlL_len]; exact aa), if_pos rfl, ea, rl_ad hna, List.set_set, set_back (by rw [rlL_len]; exact aa) ea.symm]
        rfl
      show (rlL (trL u who b a) a who).set b (adX (nth (rlL (trL u who b a) a who) b) who) = u
      rw [r1, rl_names ba, ad_rl hsb bm]
      unfold rlL
      rw [List.set_set, set_back ba rfl]
/-- joined -/
theorem join_law {v j : List Incident} {first second : Int} (h : joF v first second = (j, true)) :
    openF j = (openL j, true) ∧ first ∈ openL j ∧ second ∉ openL j ∧ incsB j = true ∧ ∀ x, x ∈ v → ∀ s, s ∈ x.Names → ctF j s = (if x.Number = second then first else x.Number, true) := by
  cases hc : jnC v (openI v first) (openI v second) with
  | false => rw [joF_no hc] at h; cases h
  | true =>
    unfold jnC at hc
    simp only [Bool.and_eq_true, decide_eq_true_eq, Bool.not_eq_true', decide_eq_false_iff_not] at hc
    obtain ⟨⟨⟨⟨h1, h3⟩, h4⟩, h5⟩, h6⟩ := hc
    obtain ⟨a, ha⟩ := Int.eq_ofNat_of_zero_le h3
    obtain ⟨b, hb⟩ := Int.eq_ofNat_of_zero_le h4
    rw [ha, hb] at h5 h6
    have h6' : (nth v a).Names.length + (nth v b).Names.length ≤ 12 := h6
    have hab : a ≠ b := by omega
    rw [joF_yes h1 ha hb hab h6'] at h
    injection h with h7 _
    subst h7
    have hv := incs_iff.1 h1
    obtain ⟨aa, ab, ac⟩ := open_at ha
    obtain ⟨ba, bb, bc⟩ := open_at hb
    have hg : incsB (jnL v a b) = true := by rw [join_good hv aa ac ba hab]; exact decide_eq_true h6'
    have hvj := incs_iff.1 hg
    have hlen : (jnL v a b).length = v.length := by unfold jnL; rw [List.length_set, clL_len]
    have na : nth (jnL v a b) a = adN (nth v a) (nth v b).Names := by unfold jnL; rw [nth_set (by rw [clL_len]; exact aa), if_pos rfl]
    have nb : nth (jnL v a b) b = clX (nth v b) := by unfold jnL; rw [nth_set (by rw [clL_len]; exact ba), if_neg hab]; unfold clL; rw [nth_set ba, if_pos rfl]
    have no : ∀ i, i < v.length → i ≠ a → i ≠ b → nth (jnL v a b) i = nth v i := fun i hi e1 e2 => by
      unfold jnL; rw [nth_set (by rw [clL_len]; exact hi), if_neg (fun h => e1 h.symm)]; unfold clL; rw [nth_set hi, if_neg (fun h => e2 h.symm)]
    have hp := adT_props (k := (nth v b).Names.length) hv aa ba hab
    rw [List.take_length] at hp
    obtain ⟨_, _, p3⟩ := hp
    refine ⟨openF_yes hg, ?_, ?_, hg, ?_⟩
    · unfold openL
      rw [List.mem_filterMap]
      exact ⟨nth (jnL v a b) a, nth_mem (by rw [hlen]; exact aa), by rw [na, openG_yes (by exact ac)]; exact congrArg some ab⟩
    · unfold openL
      rw [List.mem_filterMap]
      rintro ⟨x, hx, hxg⟩
      obtain ⟨i, hi, rfl⟩ := List.getElem_of_mem hx
      rw [nth_ge hi] at hxg
      have hi' : i < v.length := by rw [← hlen]; exact hi
      have hnum : (nth (jnL v a b) i).Number = second := by
        unfold openG at hxg; split at hxg
        · cases hxg
        · injection hxg
      have hcl : (nth (jnL v a b) i).Closed = false := by
        cases e : (nth (jnL v a b) i).Closed with
        | false => rfl
        | true => rw [openG_no e] at hxg; cases hxg
      have nbn : (nth (jnL v a b) b).Number = second := by rw [nb]; exact bb
      rcases Nat.lt_trichotomy i b with hlt | rfl | hgt
      · have := vi_lt hvj i b hlt (by rw [hlen]; exact ba); omega
      · rw [nb] at hcl; cases hcl
      · have := vi_lt hvj b i hgt hi; omega
    · intro x hx s hs
      obtain ⟨i, hi, rfl⟩ := List.getElem_of_mem hx
      rw [nth_ge hi] at hs ⊢
      have hnm : nameB s = true := allNm_iff.1 (incB_split (hv.one i hi)).2.2.2.2 s hs
      by_cases e2 : i = b
      · subst e2
        rw [if_pos bb]
        have hat : atB (jnL v a i) s = (a : Int) := at_vi hvj (by rw [hlen]; exact aa) (by rw [na]; exact (p3 s).2 (.inr hs))
        rw [ctF_yes hg hnm hat, na]; exact congrArg (·, true) ab
      · have hnn : (nth v i).Number ≠ second := fun e => by
          rcases Nat.lt_trichotomy i b with hlt | h | hgt
          · have := vi_lt hv i b hlt ba; omega
          · exact e2 h
          · have := vi_lt hv b i hgt hi; omega
        rw [if_neg hnn]
        by_cases e1 : i = a
        · subst e1
          have hat : atB (jnL v i b) s = (i : Int) := at_vi hvj (by rw [hlen]; exact aa) (by rw [na]; exact (p3 s).2 (.inl hs))
          rw [ctF_yes hg hnm hat, na]; rfl
        · have hat : atB (jnL v a b) s = (i : Int) := at_vi hvj (by rw [hlen]; exact hi) (by rw [no i hi e1 e2]; exact hs)
          rw [ctF_yes hg hnm hat, no i hi e1 e2]

end Go.Proofs.YtpdblmcflniomaaGreatDoor
