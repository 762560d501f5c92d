/-
  Several texts in one. No conditions.
-/
import Derived.Test.YtgjnjfaohpmhkaaQualF
import Derived.Test.YtgjnjfaohpmhkaaLibI
import Derived.Test.YtgjnjfaohpmhkaaLibS
import Derived.Test.YtgjnjfaohpmhkaaSkillB
import Derived.Test.YtgjnjfaohpmhkaaInts
import Derived.Test.YtgjnjfaohpmhkaaMem7
import Derived.Test.YtgjnjfaohpmhkaaSesA
import Derived.Test.YtgjnjfaohpmhkaaSkLr
namespace Go.Proofs.Ytgjnjfaohpmhkaa
open Go.RowKit

theorem rfPut_new (l : List ByteArray) (s : ByteArray) (A : Option Addr) (n c : Nat) (w : World) (hn : n ≤ 1048576) (hc : n ≤ c) (hcm : (c : Int) ≤ 9223372036854775807) (hs : Sl w A n l) (hlo : ∀ j, j < n → Op.bytesLess (nth l j).toList s.toList = true) :
    Calls Try.prog 65 #[.slice A n c, .string s] w (RetOwn w 9 (l ++ [s])) := by
  have h := rfPut_any l s A n c n w hn hc hcm hs (Nat.le_refl _) hlo (fun h => absurd h (Nat.lt_irrefl _))
  have e : l.take n ++ [s] ++ l.drop n = l ++ [s] := by rw [← hs.1]; simp
  rwa [e] at h
def okKd (kinds : List Int) (k : Nat) : Bool := inB (nth kinds k) 0 5 && !(decide (0 < k) && decide (nth kinds (k - 1) ≥ nth kinds k))
def risingB (kinds : List Int) : Bool := allB kinds.length (okKd kinds)
theorem okKd_0 {xs : List Int} {k : Nat} (h : inB (nth xs k) 0 5 = false) : okKd xs k = false := by simp only [okKd, h]; rfl
theorem okKd_1 {xs : List Int} {k : Nat} (h : 0 < k) (h' : nth xs (k - 1) ≥ nth xs k) : okKd xs k = false := by simp only [okKd, decide_eq_true h, decide_eq_true h']; simp
theorem okKd_y {xs : List Int} {k : Nat} (h : inB (nth xs k) 0 5 = true) (h' : ¬ 0 < k ∨ ¬ nth xs (k - 1) ≥ nth xs k) : okKd xs k = true := by
  rcases h' with h' | h' <;> simp only [okKd, h, decide_eq_false h'] <;> simp
theorem risingB_no {xs : List Int} {k : Nat} (hk : k < xs.length) (h : okKd xs k = false) : risingB xs = false := allB_false hk h
theorem risingB_all {xs : List Int} (h : ∀ j, j < xs.length → okKd xs j = true) : risingB xs = true := allB_true h
def qualP (xs : List Skill) (kinds : List Int) (day : Int) (p : ByteArray) : Bool := kinds.all (fun k => hasB xs p k day)
def addP (xs : List Skill) (kinds : List Int) (day : Int) (out : List ByteArray) (x : Skill) : List ByteArray := if qualP xs kinds day x.Person && !hasS out x.Person then out ++ [x.Person] else out
def qualL (xs : List Skill) (kinds : List Int) (day : Int) (ys : List Skill) : List ByteArray := ys.foldl (addP xs kinds day) []
theorem qualL_succ {xs : List Skill} {kinds : List Int} {day : Int} {ys : List Skill} {k : Nat} (hk : k < ys.length) : qualL xs kinds day (ys.take (k + 1)) = addP xs kinds day (qualL xs kinds day (ys.take k)) (nth ys k) := by
  unfold qualL; rw [take_succ hk, List.foldl_append]; rfl
theorem addP_yes {xs : List Skill} {kinds : List Int} {day : Int} {out : List ByteArray} {x : Skill} (h : qualP xs kinds day x.Person = true) (h' : hasS out x.Person = false) : addP xs kinds day out x = out ++ [x.Person] := by unfold addP; rw [h, h']; rfl
theorem addP_no {xs : List Skill} {kinds : List Int} {day : Int} {out : List ByteArray} {x : Skill} (h : qualP xs kinds day x.Person = false ∨ hasS out x.Person = true) : addP xs kinds day out x = out := by unfold addP; rcases h with h | h <;> rw [h] <;> simp
theorem addP_len (xs : List Skill) (kinds : List Int) (day : Int) (out : List ByteArray) (x : Skill) : (addP xs kinds day out x).length ≤ out.length + 1 := by
  unfold addP; split
  · simp
  · omega
theorem qualL_len (xs : List Skill) (kinds : List Int) (day : Int) (ys : List Skill) : (qualL xs kinds day ys).length ≤ ys.length := by
  have h : ∀ k, k ≤ ys.length → (qualL xs kinds day (ys.take k)).length ≤ k := by
    intro k
    induction k with
    | zero => intro _; simp [qualL]
    | succ k ih =>
      intro hk
      rw [qualL_succ (by omega)]
      have := addP_len xs kinds day (qualL xs kinds day (ys.take k)) (nth ys k)
      have := ih (by omega)
      omega
  have := h ys.length (Nat.le_refl _)
  rwa [List.take_length] at this
theorem person_le {xs : List Skill} (h : skillsB xs = true) {j : Nat} : ∀ {k : Nat}, j ≤ k → k < xs.length → Op.bytesLess (nth xs k).Person.toList (nth xs j).Person.toList = false
  | 0, hj, _ => by
    obtain rfl : j = 0 := by omega
    exact bl_irr _
  | k + 1, hj, hk => by
    by_cases e : j = k + 1
    · subst e; exact bl_irr _
    · have ih := person_le h (by omega : j ≤ k) (by omega)
      have h1 := skillsB_at h hk
      simp only [okSkill, Bool.and_eq_true, decide_eq_true (by omega : 0 < k + 1), Bool.true_and, Bool.not_not, Nat.add_sub_cancel] at h1
      have h2 := h1.2
      simp only [skLess, Bool.or_eq_true, Bool.and_eq_true] at h2
      cases h3 : Op.bytesLess (nth xs (k + 1)).Person.toList (nth xs j).Person.toList with
      | false => rfl
      | true =>
        rcases h2 with h2 | ⟨h2, _⟩
        · rw [bl_tr h2 h3] at ih; cases ih
        · rw [← eq_of_beq h2] at h3; rw [h3] at ih; cases ih
/-- what has been gathered: rising, and of the persons before k -/
def GoodO (xs : List Skill) (k : Nat) (out : List ByteArray) : Prop := Rises (fun p => p) out ∧ ∀ e, e ∈ out → ∃ j, j < k ∧ e = (nth xs j).Person
theorem GoodO.less {xs : List Skill} {k : Nat} {out : List ByteArray} (h : GoodO xs k out) (hs : skillsB xs = true) (hk : k < xs.length) (hn : hasS out (nth xs k).Person = false) : ∀ j, j < out.length → Op.bytesLess (nth out j).toList (nth xs k).Person.toList = true := by
  intro j hj
  obtain ⟨i, hi, he⟩ := h.2 _ (nth_mem hj)
  have h1 := person_le hs (by omega : i ≤ k) hk
  rw [← he] at h1
  cases h2 : Op.bytesLess (nth out j).toList (nth xs k).Person.toList with
  | true => rfl
  | false =>
    have e := bl_tot h2 h1
    have : hasS out (nth xs k).Person = true := by
      unfold hasS; rw [List.any_eq_true]; exact ⟨_, nth_mem hj, by rw [e]; simp⟩
    rw [hn] at this; cases this
theorem GoodO.hit {xs : List Skill} {k : Nat} {out : List ByteArray} {p : ByteArray} (h : GoodO xs k out) (hy : hasS out p = true) : ∃ q, q < out.length ∧ (∀ j, j < q → Op.bytesLess (nth out j).toList p.toList = true) ∧ ((nth out q).toList == p.toList) = true := by
  unfold hasS at hy
  rw [any_index] at hy
  have hr := indexF_range (fun x : ByteArray => x.toList == p.toList) out
  have h0 : 0 ≤ indexF (fun x : ByteArray => x.toList == p.toList) out := by simpa using hy
  obtain ⟨q, hq⟩ := Int.eq_ofNat_of_zero_le h0
  obtain ⟨h1, h2⟩ := indexF_at hq
  refine ⟨q, h1, fun j hj => ?_, h2⟩
  have h3 := h.1 j q hj h1
  rwa [eq_of_beq h2] at h3
theorem GoodO.add {xs : List Skill} {kinds : List Int} {day : Int} {k : Nat} {out : List ByteArray} (h : GoodO xs k out) (hs : skillsB xs = true) (hk : k < xs.length) : GoodO xs (k + 1) (addP xs kinds day out (nth xs k)) := by
  unfold addP
  split
  · rename_i hc
    simp only [Bool.and_eq_true, Bool.not_eq_true'] at hc
    have hl := h.less hs hk hc.2
    refine ⟨fun i j hij hj => ?_, fun e he => ?_⟩
    · rw [List.length_append, List.length_singleton] at hj
      have e1 : ∀ i, i < out.length → nth (out ++ [(nth xs k).Person]) i = nth out i := fun i hi => nth_get (by rw [List.getElem?_append_left hi, get_nth hi])
      by_cases e : j < out.length
      · rw [e1 i (by omega), e1 j e]; exact h.1 i j hij e
      · obtain rfl : j = out.length := by omega
        have e2 : nth (out ++ [(nth xs k).Person]) out.length = (nth xs k).Person := nth_get (by simp)
        rw [e1 i hij, e2]; exact hl i hij
    · rcases List.mem_append.1 he with he | he
      · obtain ⟨j, hj, e⟩ := h.2 e he
        exact ⟨j, by omega, e⟩
      · simp at he
        exact ⟨k, by omega, he⟩
  · exact ⟨h.1, fun e he => by obtain ⟨j, hj, e'⟩ := h.2 e he; exact ⟨j, by omega, e'⟩⟩
theorem good_start (xs : List Skill) : GoodO xs 0 [] := ⟨fun j k _ hk => absurd hk (by simp), fun e he => by cases he⟩
theorem all_not_any {α : Type} (ks : List α) (p : α → Bool) : (!ks.any (fun k => !p k)) = ks.all p := by
  induction ks with
  | nil => rfl
  | cons k ks ih => simp only [List.any_cons, List.all_cons, Bool.not_or, Bool.not_not, ih]
theorem all_take_succ {ks : List Int} {p : Int → Bool} {m : Nat} (hm : m < ks.length) : (ks.take (m + 1)).all p = ((ks.take m).all p && p (nth ks m)) := by
  rw [take_succ hm, List.all_append]; simp
def qforF (xs : List Skill) (kinds : List Int) (day : Int) : List ByteArray × Bool := if skillsB xs && inB kinds.length 1 6 && risingB kinds && inB day 0 20000 then (qualL xs kinds day xs, true) else ([], false)
theorem qforF_yes {xs : List Skill} {kinds : List Int} {day : Int} (h : (skillsB xs && inB kinds.length 1 6 && risingB kinds && inB day 0 20000) = true) : qforF xs kinds day = (qualL xs kinds day xs, true) := by unfold qforF; rw [if_pos h]
theorem qforF_no {xs : List Skill} {kinds : List Int} {day : Int} (h : (skillsB xs && inB kinds.length 1 6 && risingB kinds && inB day 0 20000) = false) : qforF xs kinds day = ([], false) := by unfold qforF; rw [if_neg (by rw [h]; exact Bool.false_ne_true)]
theorem qforF_len (xs : List Skill) (kinds : List Int) (day : Int) : (qforF xs kinds day).1.length ≤ 1048576 := by
  unfold qforF; split
  · rename_i h
    simp only [Bool.and_eq_true] at h
    have h1 := skillsB_len h.1.1.1
    have h2 := qualL_len xs kinds day xs
    simp only; omega
  · simp
set_option maxHeartbeats 2000000 in
theorem l1Rising_any (kinds : List Int) (B : Option Addr) (m d : Nat) (w : World) (hm : (m : Int) ≤ 9223372036854775807) (ht : Sl w B m kinds) :
    Calls Try.prog 62 #[.slice B m d, .int .i64 0, .int .i64 5] w fun e w' => e = .returned (.bool (risingB kinds)) ∧ w' = w := by
  have HK := Lib.hid ht.1
  go_enter Try.func62, Try.ntmps62
  go_wp2
  go_loop [11] (fun i => ∃ k : Nat, k ≤ m ∧ i = .int .i64 k ∧ Hid (∀ j, j < k → okKd kinds j = true)) (fun i => m - (intOf i).toNat)
  case atStart => exact ⟨0, Nat.zero_le _, rfl, fun j hj => absurd hj (by omega)⟩
  case round =>
    obtain ⟨k, hk, rfl, hg⟩ := hrel
    by_cases hlt : k < m
    · skip
      obtain ⟨b, o, rfl, _, c0⟩ := ht.int hlt
      have hkx : Hid (k < kinds.length) := by rw [Hid, HK.out]; exact hlt
      cases g0 : inB (nth kinds k) 0 5
      · have G0 := Lib.hid g0
        clear ht
        go_wp2_with (go_at_call 34; refine (l1In_any _ _ _ _).mono ?_; rintro e VV ⟨rfl, rfl⟩)
        go_ret
        exact ⟨ret_bool (risingB_no hkx.out (okKd_0 G0.out)).symm, rfl⟩
      have G0 := Lib.hid g0
      by_cases hk0 : 0 < k
      · obtain ⟨b', o', e', _, d0⟩ := ht.int (k := k - 1) (by omega)
        injection e' with e'
        injection e' with e1 e2
        subst e1 e2
        clear ht
        have hkd : decide ((k : Int) > 0) = true := by simpa using hk0
        have i2 : 0 ≤ (k : Int) - 1 := by omega
        have i4 : (k : Int) - 1 < m := by omega
        have i1 : IntKind.i64.wrap ((k : Int) - 1) = (k : Int) - 1 := IntWalk.i64_in _ (by omega)
        have i3 : ((k : Int) - 1).toNat = k - 1 := by omega
        by_cases go : nth kinds (k - 1) ≥ nth kinds k
        · have go2 : decide (nth kinds (k - 1) ≥ nth kinds k) = true := by simpa using go
          go_wp2_with (go_at_call 34; refine (l1In_any _ _ _ _).mono ?_; rintro e VV ⟨rfl, rfl⟩)
          go_ret
          exact ⟨ret_bool (risingB_no hkx.out (okKd_1 hk0 go)).symm, rfl⟩
        · have go2 : decide (nth kinds (k - 1) ≥ nth kinds k) = false := by simpa using go
          go_wp2_with (go_at_call 34; refine (l1In_any _ _ _ _).mono ?_; rintro e VV ⟨rfl, rfl⟩)
          go_round
          case rel => exact ⟨k + 1, by omega, by go_num, upto_succ hg (okKd_y G0.out (.inr (by omega)))⟩
          case measure => simp [intOf]; omega
      · have hkd : decide ((k : Int) > 0) = false := by simp; omega
        clear ht
        go_wp2_with (go_at_call 34; refine (l1In_any _ _ _ _).mono ?_; rintro e VV ⟨rfl, rfl⟩)
        go_round
        case rel => exact ⟨k + 1, by omega, by go_num, upto_succ hg (okKd_y G0.out (.inl hk0))⟩
        case measure => simp [intOf]; omega
    · obtain rfl : k = m := by omega
      go_wp2
      go_ret
      exact ⟨ret_bool (risingB_all (by rw [HK.out]; exact hg.out)).symm, rfl⟩

end Go.Proofs.Ytgjnjfaohpmhkaa

namespace Go.Proofs.Ytgjnjfaohpmhkaa
open Go.RowKit

theorem enters_qF : Enters Try.prog 59 := enters_of Try.func59 (by kernel_rfl) (by kernel_rfl)
theorem pred_qF (w : World) (a b : Addr) (C : Nat) (l : List Skill) (A : Option Addr) (n c : Nat) (person : ByteArray) (day : Int) (hn : (n : Int) ≤ 9223372036854775807) (ha : w.cell? a = some (.slice A n c)) (hl : Sl w A n l) (hb : w.cell? ⟨C, 0, none⟩ = some (.string person)) (hc : w.cell? b = some (.int .i64 day)) (ks : List Int) :
    Pred Try.prog w [] ks 59 (fun x : Int => Value.int .i64 x) #[.pointer (some a), .pointer (some ⟨C, 0, none⟩), .pointer (some b)] (fun k => !hasB l person k day) := by
  intro W x _ hb0
  have hbb := hb0.nil_below
  have ha' := cell_later hbb ha
  have hb' := cell_later hbb hb
  have hc' := cell_later hbb hc
  have hl' := hl.below hbb
  clear ha hb hc hl hbb hb0
  show Calls _ _ #[.int .i64 x, .pointer (some a), .pointer (some ⟨C, 0, none⟩), .pointer (some b)] W _
  go_enter Try.func59, Try.ntmps59
  go_wp2_with fail
  refine (isQualified_any l person x day _ _ _ _ hn hl').mono ?_
  rintro e V ⟨rfl, hV⟩
  go_wp2
  go_ret
  exact ⟨rfl, hV⟩
set_option maxRecDepth 100000 in
set_option maxHeartbeats 8000000 in
theorem specQualifiedFor_any (xs : List Skill) (kinds : List Int) (day : Int) (A B : Option Addr) (n c m d : Nat) (w : World) (hn : (n : Int) ≤ 9223372036854775807) (hm : (m : Int) ≤ 9223372036854775807) (hs : Sl w A n xs) (ht : Sl w B m kinds) (hv : ∀ x, x ∈ xs → x.Person.size ≤ maxLen) :
    Calls Try.prog 23 #[.slice A n c, .slice B m d, .int .i64 day] w (RetOwn2 w 9 (qforF xs kinds day)) := by
  have HV := Lib.hid hv
  have HL := Lib.hid hs.1
  have HK := Lib.hid ht.1
  clear hv
  go_enter Try.func23, Try.ntmps23
  have hk0 := bl_refl w
  go_wp2_with fail
  refine (drGood_any xs _ _ _ _ hn hs HV.out).mono ?_
  rintro e V1 ⟨rfl, hb1⟩
  have hB1 := bl_trans (a := w) (bl_refl _) hb1
  have hk1 := bl_trans hk0 hB1
  have z1 := Lib.hid hB1.size
  cases h0 : skillsB xs
  · have Hz := Lib.hid (qforF_no (xs := xs) (kinds := kinds) (day := day) (by rw [h0]; first | done | simp))
    clear h0
    go_wp2
    go_ret2
    exact retOwn2_mk Hz.out (Own.nil _ _ _) hk1
  have H0 := Lib.hid h0
  clear h0
  go_wp2_with fail
  refine (l1In_any (m : Int) 1 6 _).mono ?_
  rintro _ V1 ⟨rfl, rfl⟩
  cases h1 : inB (m : Int) 1 6
  · have Hz := Lib.hid (qforF_no (xs := xs) (kinds := kinds) (day := day) (by rw [HK.out]; rw [h1]; first | done | simp))
    clear h1
    go_wp2
    go_ret2
    exact retOwn2_mk Hz.out (Own.nil _ _ _) hk1
  have H1 := Lib.hid h1
  clear h1
  go_wp2_with fail
  refine (l1Rising_any kinds _ _ _ _ hm (ht.below hk1)).mono ?_
  rintro _ V1 ⟨rfl, rfl⟩
  cases h2 : risingB kinds
  · have Hz := Lib.hid (qforF_no (xs := xs) (kinds := kinds) (day := day) (by rw [h2]; first | done | simp))
    clear h2
    go_wp2
    go_ret2
    exact retOwn2_mk Hz.out (Own.nil _ _ _) hk1
  have H2 := Lib.hid h2
  clear h2
  go_wp2_with fail
  refine (drDay_any day _).mono ?_
  rintro _ V1 ⟨rfl, rfl⟩
  cases h3 : inB day 0 20000
  · have Hz := Lib.hid (qforF_no (xs := xs) (kinds := kinds) (day := day) (by rw [h3]; first | done | simp))
    clear h3
    go_wp2
    go_ret2
    exact retOwn2_mk Hz.out (Own.nil _ _ _) hk1
  have H3 := Lib.hid h3
  clear h3
  have hn2 : n ≤ 24 := by have := skillsB_len H0.out; have := HL.out; omega
  obtain ⟨m0, m1⟩ := inB_iff.1 H1.out
  have Hz := Lib.hid (qforF_yes (xs := xs) (kinds := kinds) (day := day) (by rw [H0.out, HK.out, H1.out, H2.out, H3.out]; rfl))
  go_wp2
  go_loopw [8, 35] (fun v i wr => ∃ (k q c' : Nat) (A' : Option Addr), k ≤ n ∧ i = .int .i64 k ∧ v = .slice A' q c' ∧ q ≤ k ∧ Own wr w.heap.size 9 (.slice A' q c') (qualL xs kinds day (xs.take k)) ∧ Hid (GoodO xs k (qualL xs kinds day (xs.take k))) ∧ Below w.heap.size w wr) (fun _ i _ => n - (intOf i).toNat)
  case atStart => exact ⟨0, 0, 0, none, Nat.zero_le _, rfl, rfl, Nat.le_refl _, Own.nil _ _ _, good_start xs, hk1⟩
  case round =>
    obtain ⟨k, q, c', A', hk, rfl, rfl, hq, ho, hg, hb⟩ := hrel
    by_cases hlt : k < n
    · obtain ⟨wo, rfl⟩ : ∃ wo : World, wo = wr := ⟨_, rfl⟩
      obtain ⟨b, o, rfl, hbz, c0, c1, c2⟩ := (hs.below hb).skill hlt
      have hkx : Hid (k < xs.length) := by rw [Hid, HL.out]; exact hlt
      have hs' := Lib.hid hs
      have ht' := Lib.hid ht
      clear hs ht
      go_wp2
      go_loopw [11, 41] (fun u i wr => ∃ (j : Nat) (t : Bool), j ≤ m ∧ i = .int .i64 j ∧ u = .bool t ∧ Hid (t = (kinds.take j).all (fun kd => hasB xs (nth xs k).Person kd day)) ∧ wr.cell? ⟨wo.heap.size, 0, none⟩ = some (.string (nth xs k).Person) ∧ Below wo.heap.size wo wr) (fun _ i _ => m - (intOf i).toNat)
      case atStart => exact ⟨0, true, Nat.zero_le _, rfl, rfl, rfl, by go_simp, bl_alloc (bl_refl _) _⟩
      case round =>
        obtain ⟨j, t, hj, rfl, rfl, hT, x0, hb2⟩ := hrel
        have hwz : wo.heap.size < wr.heap.size := World.block_lt_of_cell? wr _ x0
        clear c0 c1 c2
        by_cases hjm : j < m
        · obtain ⟨b', o', rfl, _, d0⟩ := (ht'.out.below (bl_trans hb hb2)).int hjm
          have hjx : Hid (j < kinds.length) := by rw [Hid, HK.out]; exact hjm
          cases t
          · have hT2 : Hid (false = (kinds.take (j + 1)).all (fun kd => hasB xs (nth xs k).Person kd day)) := by rw [Hid, all_take_succ hjx.out, ← hT.out]; rfl
            go_wp2
            go_roundw
            case rel => exact ⟨j + 1, false, by omega, by go_num, rfl, hT2.out, x0, hb2⟩
            case measure => simp [intOf]; omega
          · have hT2 : Hid (hasB xs (nth xs k).Person (nth kinds j) day = (kinds.take (j + 1)).all (fun kd => hasB xs (nth xs k).Person kd day)) := by rw [Hid, all_take_succ hjx.out, ← hT.out]; rfl
            go_wp2_with fail
            refine (drHas_any xs (nth xs k).Person (nth kinds j) day _ _ _ _ hn (hs'.out.below (bl_trans hb hb2))).mono ?_
            rintro e V ⟨rfl, hV⟩
            have x1 := cell_later hV x0
            clear x0 d0
            go_wp2
            go_roundw
            case rel => exact ⟨j + 1, hasB xs (nth xs k).Person (nth kinds j) day, by omega, by go_num, rfl, hT2.out, x1, bl_trans hb2 hV⟩
            case measure => simp [intOf]; omega
        · obtain rfl : j = m := by omega
          have hT2 : Hid (t = qualP xs kinds day (nth xs k).Person) := by rw [Hid, hT.out, List.take_of_length_le (by rw [HK.out]; exact Nat.le_refl _)]; rfl
          have hbV := bl_trans hb hb2
          have hoV := ho.below hb2
          clear ho
          cases t
          · have hp := Lib.hid (addP_no (xs := xs) (kinds := kinds) (day := day) (out := qualL xs kinds day (xs.take k)) (x := nth xs k) (.inl hT2.out.symm))
            go_wp2
            go_roundw
            case rel => exact ⟨k + 1, q, c', A', by omega, by go_num, rfl, by omega, by rw [qualL_succ hkx.out, hp.out]; exact hoV, by rw [Hid, qualL_succ hkx.out]; exact hg.out.add H0.out hkx.out, hbV⟩
            case measure => simp [intOf]; omega
          · have hql := Lib.hid hoV.sl.1
            obtain ⟨hqc, hcm⟩ := hoV.cap
            unfold maxLen at hcm
            cases hh : hasS (qualL xs kinds day (xs.take k)) (nth xs k).Person
            · have hp := Lib.hid (addP_yes (x := nth xs k) hT2.out.symm hh)
              have hlo := hg.out.less H0.out hkx.out hh
              rw [hql.out] at hlo
              have hll := Lib.hid hlo
              clear hlo hh
              go_wp2_with fail
              refine (rfPut_new (qualL xs kinds day (xs.take k)) (nth xs k).Person _ _ _ _ (by omega) hqc (by omega) hoV.sl hll.out).mono ?_
              rintro e V ⟨A2, c2, rfl, ho2, hV⟩
              have hl2 : (qualL xs kinds day (xs.take k) ++ [(nth xs k).Person]).length = q + 1 := by rw [List.length_append, hql.out]; rfl
              rw [hl2] at ho2 ⊢
              have ho3 := ho2.mono hbV.size
              have hk3 := bl_trans hbV hV
              clear ho2 hoV hl2 hV
              go_wp2
              go_roundw
              case rel => exact ⟨k + 1, q + 1, c2, A2, by omega, by go_num, rfl, by omega, by rw [qualL_succ hkx.out, hp.out]; exact ho3, by rw [Hid, qualL_succ hkx.out]; exact hg.out.add H0.out hkx.out, hk3⟩
              case measure => simp [intOf]; omega
            · have hp := Lib.hid (addP_no (xs := xs) (kinds := kinds) (day := day) (x := nth xs k) (.inr hh))
              obtain ⟨r, hr, hlo, he⟩ := hg.out.hit hh
              rw [hql.out] at hr
              have hll := Lib.hid hlo
              have hee := Lib.hid he
              clear hlo hh he
              go_wp2_with fail
              refine (rfPut_hit (qualL xs kinds day (xs.take k)) (nth xs k).Person _ _ _ r _ (by omega) hoV.sl hr hll.out hee.out).mono ?_
              rintro e wr ⟨rfl, rfl⟩
              go_wp2
              go_roundw
              case rel => exact ⟨k + 1, q, c', A', by omega, by go_num, rfl, by omega, by rw [qualL_succ hkx.out, hp.out]; exact hoV, by rw [Hid, qualL_succ hkx.out]; exact hg.out.add H0.out hkx.out, hbV⟩
              case measure => simp [intOf]; omega
    · obtain rfl : k = n := by omega
      have hfin : Hid (qualL xs kinds day (xs.take k) = qualL xs kinds day xs) := by rw [Hid, List.take_of_length_le (by rw [HL.out]; exact Nat.le_refl _)]
      rw [hfin.out] at ho
      go_wp2
      go_ret2
      exact retOwn2_mk Hz.out ho hb
set_option maxRecDepth 100000 in
set_option maxHeartbeats 8000000 in
theorem implQualifiedFor_any (xs : List Skill) (kinds : List Int) (day : Int) (A B : Option Addr) (n c m d : Nat) (w : World) (hn : (n : Int) ≤ 9223372036854775807) (hm : (m : Int) ≤ 9223372036854775807) (hs : Sl w A n xs) (ht : Sl w B m kinds) (hv : ∀ x, x ∈ xs → x.Person.size ≤ maxLen) :
    Calls Try.prog 22 #[.slice A n c, .slice B m d, .int .i64 day] w (RetOwn2 w 9 (qforF xs kinds day)) := by
  have HV := Lib.hid hv
  have HL := Lib.hid hs.1
  have HK := Lib.hid ht.1
  clear hv
  go_enter Try.func22, Try.ntmps22
  have hk0 := bl_refl w
  go_wp2_with fail
  refine (areSkills_any xs _ _ _ _ hn (hs.below (bl_trans hk0 (by repeat' (first | exact bl_refl _ | refine bl_alloc ?_ _ | refine bl_drew ?_ | refine bl_drewN ?_ _ | refine bl_set ?_ ?_ _ | (simp; done) | (simp; omega))))) HV.out).mono ?_
  rintro e V1 ⟨rfl, hb1⟩
  have hB1 := bl_trans (a := w) (by repeat' (first | exact bl_refl _ | refine bl_alloc ?_ _ | refine bl_drew ?_ | refine bl_drewN ?_ _ | refine bl_set ?_ ?_ _ | (simp; done) | (simp; omega))) hb1
  have hk1 := bl_trans hk0 hB1
  have z1 : Hid (w.heap.size + 2 ≤ V1.heap.size) := by have := hb1.size; simp only [World.size_alloc] at this; exact (by omega : _)
  have bl_0_1 : V1.cell? ⟨w.heap.size, 0, none⟩ = some (.slice A n c) := cell_later hb1 (by go_simp)
  have ll_1 : w.heap.size < V1.heap.size := World.block_lt_of_cell? _ _ bl_0_1
  have bd_0_1 : V1.cell? ⟨w.heap.size + 1, 0, none⟩ = some (.int .i64 day) := cell_later hb1 (by go_simp)
  have ld_1 : w.heap.size + 1 < V1.heap.size := World.block_lt_of_cell? _ _ bd_0_1
  cases h0 : skillsB xs
  · have Hz := Lib.hid (qforF_no (xs := xs) (kinds := kinds) (day := day) (by rw [h0]; first | done | simp))
    clear h0
    go_wp2
    go_ret2
    exact retOwn2_mk Hz.out (Own.nil _ _ _) hk1
  have H0 := Lib.hid h0
  clear h0
  go_wp2_with fail
  refine (inside_any (m : Int) 1 6 _).mono ?_
  rintro _ V1 ⟨rfl, rfl⟩
  cases h1 : inB (m : Int) 1 6
  · have Hz := Lib.hid (qforF_no (xs := xs) (kinds := kinds) (day := day) (by rw [HK.out]; rw [h1]; first | done | simp))
    clear h1
    go_wp2
    go_ret2
    exact retOwn2_mk Hz.out (Own.nil _ _ _) hk1
  have H1 := Lib.hid h1
  clear h1
  go_wp2_with fail
  refine (isDay_any day _).mono ?_
  rintro _ V1 ⟨rfl, rfl⟩
  cases h2 : inB day 0 20000
  · have Hz := Lib.hid (qforF_no (xs := xs) (kinds := kinds) (day := day) (by rw [h2]; first | done | simp))
    clear h2
    go_wp2
    go_ret2
    exact retOwn2_mk Hz.out (Own.nil _ _ _) hk1
  have H2 := Lib.hid h2
  clear h2
  have hn2 : n ≤ 24 := by have := skillsB_len H0.out; have := HL.out; omega
  obtain ⟨m0, m1⟩ := inB_iff.1 H1.out
  go_wp2
  go_loop [29] (fun i => ∃ k : Nat, k ≤ m ∧ i = .int .i64 k ∧ Hid (∀ j, j < k → okKd kinds j = true)) (fun i => m - (intOf i).toNat)
  case atStart => exact ⟨0, Nat.zero_le _, rfl, fun j hj => absurd hj (by omega)⟩
  case round =>
    obtain ⟨k, hk, rfl, hg⟩ := hrel
    by_cases hlt : k < m
    · have ht0 := Lib.hid ht
      have ht := ht.below hk1
      clear hs ht0
      obtain ⟨b, o, rfl, _, c0⟩ := ht.int hlt
      have hkx : Hid (k < kinds.length) := by rw [Hid, HK.out]; exact hlt
      cases g0 : inB (nth kinds k) 0 5
      · have G0 := Lib.hid g0
        clear ht
        go_wp2_with (go_at_call 56; refine (isKind_any _ _).mono ?_; rintro e VV ⟨rfl, rfl⟩)
        have Hz := Lib.hid (qforF_no (xs := xs) (kinds := kinds) (day := day) (by rw [risingB_no hkx.out (okKd_0 G0.out)]; simp))
        go_ret2
        exact retOwn2_mk Hz.out (Own.nil _ _ _) hk1
      have G0 := Lib.hid g0
      by_cases hk0 : 0 < k
      · obtain ⟨b', o', e', _, d0⟩ := ht.int (k := k - 1) (by omega)
        injection e' with e'
        injection e' with e1 e2
        subst e1 e2
        clear ht
        have hkd : decide ((k : Int) > 0) = true := by simpa using hk0
        have i2 : 0 ≤ (k : Int) - 1 := by omega
        have i4 : (k : Int) - 1 < m := by omega
        have i1 : IntKind.i64.wrap ((k : Int) - 1) = (k : Int) - 1 := IntWalk.i64_in _ (by omega)
        have i3 : ((k : Int) - 1).toNat = k - 1 := by omega
        by_cases go : nth kinds (k - 1) ≥ nth kinds k
        · have go2 : decide (nth kinds (k - 1) ≥ nth kinds k) = true := by simpa using go
          go_wp2_with (go_at_call 56; refine (isKind_any _ _).mono ?_; rintro e VV ⟨rfl, rfl⟩)
          have Hz := Lib.hid (qforF_no (xs := xs) (kinds := kinds) (day := day) (by rw [risingB_no hkx.out (okKd_1 hk0 go)]; simp))
          go_ret2
          exact retOwn2_mk Hz.out (Own.nil _ _ _) hk1
        · have go2 : decide (nth kinds (k - 1) ≥ nth kinds k) = false := by simpa using go
          go_wp2_with (go_at_call 56; refine (isKind_any _ _).mono ?_; rintro e VV ⟨rfl, rfl⟩)
          go_round
          case rel => exact ⟨k + 1, by omega, by go_num, upto_succ hg (okKd_y G0.out (.inr (by omega)))⟩
          case measure => simp [intOf]; omega
      · have hkd : decide ((k : Int) > 0) = false := by simp; omega
        clear ht
        go_wp2_with (go_at_call 56; refine (isKind_any _ _).mono ?_; rintro e VV ⟨rfl, rfl⟩)
        go_round
        case rel => exact ⟨k + 1, by omega, by go_num, upto_succ hg (okKd_y G0.out (.inl hk0))⟩
        case measure => simp [intOf]; omega
    · obtain rfl : k = m := by omega
      have hris : Hid (risingB kinds = true) := risingB_all (by rw [HK.out]; exact hg.out)
      have Hz := Lib.hid (qforF_yes (xs := xs) (kinds := kinds) (day := day) (by rw [H0.out, HK.out, H1.out, hris.out, H2.out]; rfl))
      have ht' := Lib.hid ht
      clear ht
      go_wp2
      go_loopw [10, 53] (fun v i wr => ∃ (k q c' : Nat) (A' : Option Addr), k ≤ n ∧ i = .int .i64 k ∧ v = .slice A' q c' ∧ q ≤ k ∧ Own wr V1.heap.size 9 (.slice A' q c') (qualL xs kinds day (xs.take k)) ∧ Below V1.heap.size V1 wr) (fun _ i _ => n - (intOf i).toNat)
      case atStart => exact ⟨0, 0, 0, none, Nat.zero_le _, rfl, rfl, Nat.le_refl _, Own.nil _ _ _, bl_refl _⟩
      case round =>
        obtain ⟨j, q, c', A', hj, rfl, rfl, hq, ho, hb⟩ := hrel
        have hbw := bl_trans hk1 hb
        by_cases hlt2 : j < n
        · obtain ⟨b, o, rfl, hbz, c0, c1, c2⟩ := (hs.below hbw).skill hlt2
          have hjx : Hid (j < xs.length) := by rw [Hid, HL.out]; exact hlt2
          have hs' := Lib.hid hs
          have l0 := cell_later hb bl_0_1
          have d0 := cell_later hb bd_0_1
          have hql := Lib.hid ho.sl.1
          obtain ⟨wo, rfl⟩ : ∃ wo : World, wo = wr := ⟨_, rfl⟩
          clear hs
          go_wp2_with fail
          refine (containsS_any (qualL xs kinds day (xs.take j)) (nth xs j).Person _ _ _ _ (by omega) (ho.sl.below (bl_alloc (bl_refl _) _))).mono ?_
          rintro e V3 ⟨rfl, rfl⟩
          cases hh : hasS (qualL xs kinds day (xs.take j)) (nth xs j).Person
          · have Hh := Lib.hid hh
            clear hh
            go_wp2_with fail
            refine (containsFunc_int kinds _ _ _ _ _ (fun kd => !hasB xs (nth xs j).Person kd day) _ (by omega) (ht'.out.below (bl_alloc hbw _)) enters_qF _ (pred_qF _ _ _ _ xs _ _ _ (nth xs j).Person day hn (cell_later (bl_alloc (bl_refl wo) _) l0) (hs'.out.below (bl_alloc hbw _)) (by go_simp) (cell_later (bl_alloc (bl_refl wo) _) d0) kinds)).mono ?_
            rintro e V4 ⟨rfl, hV4⟩
            have hB4 := bl_trans (bl_alloc (bl_refl wo) (.cells #[.string (nth xs j).Person, .int .i64 (nth xs j).Kind, .int .i64 (nth xs j).Until] 44)) hV4
            have hb4 := bl_trans hb hB4
            have ho4 := ho.below hB4
            have p0 : V4.cell? ⟨wo.heap.size, 0, none⟩ = some (.string (nth xs j).Person) := cell_later hV4 (by go_simp)
            have hwz : wo.heap.size < V4.heap.size := World.block_lt_of_cell? V4 _ p0
            have HA : Hid ((!kinds.any (fun kd => !hasB xs (nth xs j).Person kd day)) = qualP xs kinds day (nth xs j).Person) := all_not_any _ _
            clear ho c0 c1 c2 l0 d0
            cases ha : kinds.any (fun kd => !hasB xs (nth xs j).Person kd day)
            · have hp := Lib.hid (addP_yes (x := nth xs j) (by rw [← HA.out, ha]; rfl) Hh.out)
              clear ha
              go_wp2_with ((at_builtin; refine wpList_app1g rfl (.tmp 68) (.tmp 71) _ _ rfl el_str (nth xs j).Person rfl ho4 hb4 rfl (by simp) (by omega) ?_; intro A2 c2 w2 ho2 hb2 hg2))
              go_roundw
              case rel => exact ⟨j + 1, q + 1, c2, A2, by omega, by go_num, rfl, by omega, by rw [qualL_succ hjx.out, hp.out]; exact ho2, hb2⟩
              case measure => simp [intOf]; omega
            · have hp := Lib.hid (addP_no (xs := xs) (kinds := kinds) (day := day) (out := qualL xs kinds day (xs.take j)) (x := nth xs j) (.inl (by rw [← HA.out, ha]; rfl)))
              clear ha
              go_wp2
              go_roundw
              case rel => exact ⟨j + 1, q, c', A', by omega, by go_num, rfl, by omega, by rw [qualL_succ hjx.out, hp.out]; exact ho4, hb4⟩
              case measure => simp [intOf]; omega
          · have hp := Lib.hid (addP_no (xs := xs) (kinds := kinds) (day := day) (x := nth xs j) (.inr hh))
            clear hh
            go_wp2
            go_roundw
            case rel => exact ⟨j + 1, q, c', A', by omega, by go_num, rfl, by omega, by rw [qualL_succ hjx.out, hp.out]; exact ho.alloc _, bl_alloc hb _⟩
            case measure => simp [intOf]; omega
        · obtain rfl : j = n := by omega
          have hfin : Hid (qualL xs kinds day (xs.take j) = qualL xs kinds day xs) := by rw [Hid, List.take_of_length_le (by rw [HL.out]; exact Nat.le_refl _)]
          rw [hfin.out] at ho
          go_wp2
          go_ret2
          exact retOwn2_mk Hz.out (ho.mono hk1.size) hbw

end Go.Proofs.Ytgjnjfaohpmhkaa

namespace Go.Proofs.Ytgjnjfaohpmhkaa
open Go.RowKit

def cntB (kind day : Int) (x : Skill) : Bool := x.Kind == kind && decide (x.Until ≥ day)
def cnt (xs : List Skill) (kind day : Int) : Int := ((xs.filter (cntB kind day)).length : Int)
theorem cnt_yes {xs : List Skill} {kind day : Int} {k : Nat} (hk : k < xs.length) (h : cntB kind day (nth xs k) = true) : cnt (xs.take (k + 1)) kind day = cnt (xs.take k) kind day + 1 := by
  unfold cnt; rw [take_succ hk, List.filter_append]; simp [h]
theorem cnt_no {xs : List Skill} {kind day : Int} {k : Nat} (hk : k < xs.length) (h : cntB kind day (nth xs k) = false) : cnt (xs.take (k + 1)) kind day = cnt (xs.take k) kind day := by
  unfold cnt; rw [take_succ hk, List.filter_append]; simp [h]
theorem cnt_in (xs : List Skill) (kind day : Int) (k : Nat) : 0 ≤ cnt (xs.take k) kind day ∧ cnt (xs.take k) kind day ≤ k := by
  unfold cnt
  have h := List.length_filter_le (cntB kind day) (xs.take k)
  rw [List.length_take] at h
  omega
def cntL (xs : List Skill) (day : Int) : List Int := (List.range 6).map (fun j : Nat => cnt xs j day)
theorem cntL_nth {xs : List Skill} {day : Int} {j : Nat} (hj : j < 6) : nth (cntL xs day) j = cnt xs j day := nth_get (by simp [cntL, hj])
theorem cntL_len (xs : List Skill) (day : Int) : (cntL xs day).length = 6 := by simp [cntL]
theorem cntL_hit {xs : List Skill} {day : Int} {k j : Nat} (hk : k < xs.length) (hj : (nth xs k).Kind = (j : Int)) (h6 : j < 6) (h : (nth xs k).Until ≥ day) : (cntL (xs.take k) day).set j (nth (cntL (xs.take k) day) j + 1) = cntL (xs.take (k + 1)) day := by
  apply List.ext_getElem?
  intro i
  rw [List.getElem?_set]
  by_cases e : j = i
  · subst e
    rw [if_pos rfl, cntL_len, if_pos h6, cntL_nth h6]
    have hb : cntB (j : Int) day (nth xs k) = true := by simp [cntB, hj, h]
    simp [cntL, h6, cnt_yes hk hb]
  · rw [if_neg e]
    by_cases hi : i < 6
    · have hb : cntB (i : Int) day (nth xs k) = false := by
        have : ¬ ((j : Int) = (i : Int)) := by omega
        simp [cntB, hj, this]
      simp [cntL, hi, cnt_no hk hb]
    · simp [cntL, hi]
theorem cntL_miss {xs : List Skill} {day : Int} {k : Nat} (hk : k < xs.length) (h : ¬ (nth xs k).Until ≥ day) : cntL (xs.take (k + 1)) day = cntL (xs.take k) day := by
  unfold cntL
  apply List.map_congr_left
  intro i _
  exact cnt_no hk (by simp [cntB]; intro _; omega)
set_option maxHeartbeats 2000000 in
theorem drCount_any (xs : List Skill) (kind day : Int) (A : Option Addr) (n c : Nat) (w : World) (hn : n ≤ 1048576) (hs : Sl w A n xs) :
    Calls Try.prog 85 #[.slice A n c, .int .i64 kind, .int .i64 day] w fun e w' => e = .returned (.int .i64 (cnt xs kind day)) ∧ Below w.heap.size w w' := by
  have HL := Lib.hid hs.1
  go_enter Try.func85, Try.ntmps85
  go_wp2
  go_loopw [7, 12] (fun u i wr => ∃ (k : Nat) (q : Int), k ≤ n ∧ i = .int .i64 k ∧ u = .int .i64 q ∧ 0 ≤ q ∧ q ≤ (k : Int) ∧ Hid (q = cnt (xs.take k) kind day) ∧ Below w.heap.size w wr) (fun _ i _ => n - (intOf i).toNat)
  case atStart => exact ⟨0, 0, Nat.zero_le _, rfl, rfl, by omega, by omega, rfl, bl_refl _⟩
  case round =>
    obtain ⟨k, q, hk, rfl, rfl, hq0, hq1, hq, hb⟩ := hrel
    by_cases hlt : k < n
    · obtain ⟨b, o, rfl, hbz, c0, c1, c2⟩ := (hs.below hb).skill hlt
      have hkx : Hid (k < xs.length) := by rw [Hid, HL.out]; exact hlt
      clear hs
      cases e0 : (nth xs k).Kind == kind
      · have q_ : Hid (cntB kind day (nth xs k) = false) := by rw [Hid, cntB, e0]; simp
        go_wp2
        go_roundw
        case rel => exact ⟨k + 1, q, by omega, by go_num, rfl, by omega, by omega, by rw [Hid, cnt_no hkx.out q_.out]; exact hq.out, bl_alloc hb _⟩
        case measure => simp [intOf]; omega
      cases e1 : decide ((nth xs k).Until ≥ day)
      · have q_ : Hid (cntB kind day (nth xs k) = false) := by rw [Hid, cntB, e0, e1]; simp
        go_wp2
        go_roundw
        case rel => exact ⟨k + 1, q, by omega, by go_num, rfl, by omega, by omega, by rw [Hid, cnt_no hkx.out q_.out]; exact hq.out, bl_alloc hb _⟩
        case measure => simp [intOf]; omega
      have q_ : Hid (cntB kind day (nth xs k) = true) := by rw [Hid, cntB, e0, e1]; rfl
      go_wp2
      go_roundw
      case rel => exact ⟨k + 1, q + 1, by omega, by go_num, rfl, by omega, by omega, by rw [Hid, cnt_yes hkx.out q_.out, ← hq.out], bl_alloc hb _⟩
      case measure => simp [intOf]; omega
    · obtain rfl : k = n := by omega
      have hfin : Hid (q = cnt xs kind day) := by rw [Hid, hq.out, List.take_of_length_le (by rw [HL.out]; exact Nat.le_refl _)]
      go_wp2
      go_ret
      exact ⟨ret_i64 hfin.out, hb⟩
set_option maxHeartbeats 2000000 in
theorem drCounts_any (xs : List Skill) (day : Int) (A : Option Addr) (n c : Nat) (w : World) (hn : n ≤ 1048576) (hs : Sl w A n xs) :
    Calls Try.prog 70 #[.slice A n c, .int .i64 day] w (RetOwn w 3 (cntL xs day)) := by
  go_enter Try.func70, Try.ntmps70
  go_wp2
  go_loopw [5, 6] (fun v i wr => ∃ (k c' : Nat) (A' : Option Addr), k ≤ 6 ∧ i = .int .i64 k ∧ v = .slice A' k c' ∧ Own wr w.heap.size 3 (.slice A' k c') ((List.range k).map (fun j : Nat => cnt xs j day)) ∧ Below w.heap.size w wr) (fun _ i _ => 6 - (intOf i).toNat)
  case atStart => exact ⟨0, 0, none, Nat.zero_le _, rfl, rfl, Own.nil _ _ _, bl_refl _⟩
  case round =>
    obtain ⟨k, c', A', hk, rfl, rfl, ho, hb⟩ := hrel
    by_cases hlt : k < 6
    · have hd : decide ((k : Int) < 6) = true := by simp; omega
      go_wp2_with fail
      refine (drCount_any xs (k : Int) day _ _ _ _ hn (hs.below hb)).mono ?_
      rintro e V ⟨rfl, hV⟩
      have hoV := ho.below hV
      have hbV := bl_trans hb hV
      clear ho hs
      go_wp2_with ((at_builtin; refine wpList_app1g rfl (.tmp 11) (.tmp 16) _ _ rfl el_int (cnt xs (k : Int) day) rfl hoV hbV rfl (by simp) (by omega) ?_; intro A2 c2 w2 ho2 hb2 hg2))
      go_roundw
      case rel => exact ⟨k + 1, c2, A2, by omega, by go_num, rfl, by rw [List.range_succ, List.map_append]; exact ho2, hb2⟩
      case measure => simp [intOf]; omega
    · obtain rfl : k = 6 := by omega
      go_wp2
      go_ret
      exact retOwn_mk (cntL_len xs day) ho hb
set_option maxHeartbeats 2000000 in
theorem countsOn_any (xs : List Skill) (day : Int) (A : Option Addr) (n c : Nat) (w : World) (hn : n ≤ 1048576) (hs : Sl w A n xs) (hg : skillsB xs = true) :
    Calls Try.prog 69 #[.slice A n c, .int .i64 day] w (RetOwn w 3 (cntL xs day)) := by
  have HL := Lib.hid hs.1
  have HG := Lib.hid hg
  clear hg
  have hmk : ∀ W, (Instr.makeSlice 38 (.int .i64 6) (.int .i64 6)).run Try.prog W = .ok (.slice (some ⟨W.heap.size, 0, none⟩) 6 6) (W.alloc (.cells #[.int .i64 0, .int .i64 0, .int .i64 0, .int .i64 0, .int .i64 0, .int .i64 0] 3)) := fun W => by kernel_rfl
  go_enter Try.func69, Try.ntmps69
  go_wp2
  clear hmk
  go_loopw [11] (fun i wr => ∃ (k : Nat) (L : List Int), k ≤ n ∧ i = .int .i64 k ∧ Own wr w.heap.size 3 (.slice (some ⟨w.heap.size, 0, none⟩) 6 6) L ∧ Hid (L = cntL (xs.take k) day) ∧ Below w.heap.size w wr) (fun i _ => n - (intOf i).toNat)
  case atStart =>
    have h := Own.made w 3 (0 : Int) (z := #[.int .i64 0]) rfl 6 (by unfold maxLen; omega)
    have e : madeCells #[Value.int .i64 0] (6 * Flat.sz Int) = #[.int .i64 0, .int .i64 0, .int .i64 0, .int .i64 0, .int .i64 0, .int .i64 0] := by kernel_rfl
    rw [e] at h
    exact ⟨0, List.replicate 6 0, Nat.zero_le _, rfl, h, rfl, bl_alloc (bl_refl _) _⟩
  case round =>
    obtain ⟨k, L, hk, rfl, ho, hL, hb⟩ := hrel
    by_cases hlt : k < n
    · obtain ⟨b, o, rfl, hbz, c0, c1, c2⟩ := (hs.below hb).skill hlt
      have hkx : Hid (k < xs.length) := by rw [Hid, HL.out]; exact hlt
      obtain ⟨⟨u0, u1⟩, _, _⟩ := kind_at HG.out hkx.out
      obtain ⟨j, hj⟩ := Int.eq_ofNat_of_zero_le u0
      rw [hj] at c1 u1
      have hj6 : j < 6 := by omega
      have HJ := Lib.hid hj
      have hwz : w.heap.size < wr.heap.size := (ho.lt _ rfl).2
      obtain ⟨v, hv⟩ : ∃ v, v = nth L j := ⟨_, rfl⟩
      have hvb : 0 ≤ v ∧ v ≤ (k : Int) := by rw [hv, hL.out, cntL_nth hj6]; exact cnt_in xs j day k
      obtain ⟨v0, v1⟩ := hvb
      have d0 := ho.int (k := j) hj6
      have f0 := ho.frozenAt j
      rw [← hv] at d0
      have HV := Lib.hid hv
      clear hs hj hv u0
      by_cases hd : (nth xs k).Until ≥ day
      · have hd2 : decide ((nth xs k).Until ≥ day) = true := by simpa using hd
        go_wp2
        go_roundw
        case rel =>
          refine ⟨k + 1, L.set j (v + 1), by omega, by go_num, ?_, ?_, ?_⟩
          · first | exact (ho.putint hj6 (v + 1)).alloc _ | exact (ho.alloc _).putint hj6 (v + 1)
          · rw [Hid, HV.out, hL.out]; exact cntL_hit hkx.out HJ.out hj6 hd
          · repeat' (first | exact hb | refine bl_alloc ?_ _ | refine bl_set ?_ (Nat.le_refl _) _)
        case measure => simp [intOf]; omega
      · have hd2 : decide ((nth xs k).Until ≥ day) = false := by simpa using hd
        go_wp2
        go_roundw
        case rel => exact ⟨k + 1, L, by omega, by go_num, ho.alloc _, by rw [Hid, cntL_miss hkx.out hd]; exact hL.out, bl_alloc hb _⟩
        case measure => simp [intOf]; omega
    · obtain rfl : k = n := by omega
      have hfin : Hid (L = cntL xs day) := by rw [Hid, hL.out, List.take_of_length_le (by rw [HL.out]; exact Nat.le_refl _)]
      go_wp2
      go_ret
      exact retOwn_mk (cntL_len xs day) (by rw [← hfin.out]; exact ho) hb

end Go.Proofs.Ytgjnjfaohpmhkaa

namespace Go.Proofs.Ytgjnjfaohpmhkaa
open Go.RowKit

def cntF (xs : List Skill) (day : Int) : List Int × Bool := if skillsB xs && inB day 0 20000 then (cntL xs day, true) else ([], false)
theorem cntF_yes {xs : List Skill} {day : Int} (h : (skillsB xs && inB day 0 20000) = true) : cntF xs day = (cntL xs day, true) := by unfold cntF; rw [if_pos h]
theorem cntF_no {xs : List Skill} {day : Int} (h : (skillsB xs && inB day 0 20000) = false) : cntF xs day = ([], false) := by unfold cntF; rw [if_neg (by rw [h]; exact Bool.false_ne_true)]
theorem cntF_len (xs : List Skill) (day : Int) : (cntF xs day).1.length ≤ 1048576 := by
  unfold cntF; split
  · simp only [cntL_len]; omega
  · simp
set_option maxHeartbeats 4000000 in
theorem specCountsOn_any (xs : List Skill) (day : Int) (A : Option Addr) (n c : Nat) (w : World) (hn : (n : Int) ≤ 9223372036854775807) (hs : Sl w A n xs) (hv : ∀ x, x ∈ xs → x.Person.size ≤ maxLen) :
    Calls Try.prog 30 #[.slice A n c, .int .i64 day] w (RetOwn2 w 3 (cntF xs day)) := by
  have HV := Lib.hid hv
  have HL := Lib.hid hs.1
  clear hv
  go_enter Try.func30, Try.ntmps30
  have hk0 := bl_refl w
  go_wp2_with fail
  refine (drGood_any xs _ _ _ _ hn hs HV.out).mono ?_
  rintro e V1 ⟨rfl, hb1⟩
  have hB1 := bl_trans (a := w) (bl_refl _) hb1
  have hk1 := bl_trans hk0 hB1
  have z1 := Lib.hid hB1.size
  cases h0 : skillsB xs
  · have Hz := Lib.hid (cntF_no (xs := xs) (day := day) (by rw [h0]; first | done | simp))
    clear h0
    go_wp2
    go_ret2
    exact retOwn2_mk Hz.out (Own.nil _ _ _) hk1
  have H0 := Lib.hid h0
  clear h0
  go_wp2_with fail
  refine (drDay_any day _).mono ?_
  rintro _ V1 ⟨rfl, rfl⟩
  cases h1 : inB day 0 20000
  · have Hz := Lib.hid (cntF_no (xs := xs) (day := day) (by rw [h1]; first | done | simp))
    clear h1
    go_wp2
    go_ret2
    exact retOwn2_mk Hz.out (Own.nil _ _ _) hk1
  have H1 := Lib.hid h1
  clear h1
  have Hz := Lib.hid (cntF_yes (xs := xs) (day := day) (by rw [H0.out, H1.out]; rfl))
  have hn2 : n ≤ 24 := by have := skillsB_len H0.out; have := HL.out; omega
  go_wp2_with fail
  refine (drCounts_any xs day _ _ _ _ (by omega) (hs.below hk1)).mono ?_
  rintro e V2 ⟨A_r, c_r, rfl, ho_r, hb2⟩
  have hB2 := bl_trans (a := V1) (bl_refl _) hb2
  have hk2 := bl_trans hk1 hB2
  have z2 := Lib.hid hB2.size
  clear hk1
  have hl6 := Lib.hid (cntL_len xs day)
  go_wp2
  go_ret2
  exact retOwn2_mk Hz.out (ho_r.mono (by have := z1.out; have := z2.out; omega)) hk2
set_option maxHeartbeats 4000000 in
theorem implCountsOn_any (xs : List Skill) (day : Int) (A : Option Addr) (n c : Nat) (w : World) (hn : (n : Int) ≤ 9223372036854775807) (hs : Sl w A n xs) (hv : ∀ x, x ∈ xs → x.Person.size ≤ maxLen) :
    Calls Try.prog 29 #[.slice A n c, .int .i64 day] w (RetOwn2 w 3 (cntF xs day)) := by
  have HV := Lib.hid hv
  have HL := Lib.hid hs.1
  clear hv
  go_enter Try.func29, Try.ntmps29
  have hk0 := bl_refl w
  go_wp2_with fail
  refine (areSkills_any xs _ _ _ _ hn hs HV.out).mono ?_
  rintro e V1 ⟨rfl, hb1⟩
  have hB1 := bl_trans (a := w) (bl_refl _) hb1
  have hk1 := bl_trans hk0 hB1
  have z1 := Lib.hid hB1.size
  cases h0 : skillsB xs
  · have Hz := Lib.hid (cntF_no (xs := xs) (day := day) (by rw [h0]; first | done | simp))
    clear h0
    go_wp2
    go_ret2
    exact retOwn2_mk Hz.out (Own.nil _ _ _) hk1
  have H0 := Lib.hid h0
  clear h0
  go_wp2_with fail
  refine (isDay_any day _).mono ?_
  rintro _ V1 ⟨rfl, rfl⟩
  cases h1 : inB day 0 20000
  · have Hz := Lib.hid (cntF_no (xs := xs) (day := day) (by rw [h1]; first | done | simp))
    clear h1
    go_wp2
    go_ret2
    exact retOwn2_mk Hz.out (Own.nil _ _ _) hk1
  have H1 := Lib.hid h1
  clear h1
  have Hz := Lib.hid (cntF_yes (xs := xs) (day := day) (by rw [H0.out, H1.out]; rfl))
  have hn2 : n ≤ 24 := by have := skillsB_len H0.out; have := HL.out; omega
  go_wp2_with fail
  refine (countsOn_any xs day _ _ _ _ (by omega) (hs.below hk1) H0.out).mono ?_
  rintro e V2 ⟨A_r, c_r, rfl, ho_r, hb2⟩
  have hB2 := bl_trans (a := V1) (bl_refl _) hb2
  have hk2 := bl_trans hk1 hB2
  have z2 := Lib.hid hB2.size
  clear hk1
  have hl6 := Lib.hid (cntL_len xs day)
  go_wp2
  go_ret2
  exact retOwn2_mk Hz.out (ho_r.mono (by have := z1.out; have := z2.out; omega)) hk2

end Go.Proofs.Ytgjnjfaohpmhkaa

namespace Go.Proofs.Ytgjnjfaohpmhkaa
open Go.RowKit

theorem ret_bb {a a' b b' : Bool} (h : a = a') (h' : b = b') : Ending.returned (.tuple #[.bool a, .bool b]) = .returned (.tuple #[.bool a', .bool b']) := by rw [h, h']
theorem ret_ib {a a' : Int} {b b' : Bool} (h : a = a') (h' : b = b') : Ending.returned (.tuple #[.int .i64 a, .bool b]) = .returned (.tuple #[.int .i64 a', .bool b']) := by rw [h, h']
def qualF (xs : List Skill) (person : ByteArray) (kind day : Int) : Bool × Bool := if skillsB xs && nameB person && inB kind 0 5 && inB day 0 20000 then (hasB xs person kind day, true) else (false, false)
theorem qualF_yes {xs : List Skill} {person : ByteArray} {kind day : Int} (h : (skillsB xs && nameB person && inB kind 0 5 && inB day 0 20000) = true) : qualF xs person kind day = (hasB xs person kind day, true) := by unfold qualF; rw [if_pos h]
theorem qualF_no {xs : List Skill} {person : ByteArray} {kind day : Int} (h : (skillsB xs && nameB person && inB kind 0 5 && inB day 0 20000) = false) : qualF xs person kind day = (false, false) := by unfold qualF; rw [if_neg (by rw [h]; exact Bool.false_ne_true)]
set_option maxHeartbeats 4000000 in
theorem specIsQualified_any (xs : List Skill) (person : ByteArray) (kind day : Int) (A : Option Addr) (n c : Nat) (w : World) (hz : person.size ≤ maxLen) (hn : (n : Int) ≤ 9223372036854775807) (hs : Sl w A n xs) (hv : ∀ x, x ∈ xs → x.Person.size ≤ maxLen) :
    Calls Try.prog 26 #[.slice A n c, .string person, .int .i64 kind, .int .i64 day] w fun e w' => e = .returned (.tuple #[.bool (qualF xs person kind day).1, .bool (qualF xs person kind day).2]) ∧ Below w.heap.size w w' := by
  have HV := Lib.hid hv
  have HL := Lib.hid hs.1
  clear hv
  go_enter Try.func26, Try.ntmps26
  have hk0 := bl_refl w
  go_wp2_with fail
  refine (drGood_any xs _ _ _ _ hn hs HV.out).mono ?_
  rintro e V1 ⟨rfl, hb1⟩
  have hB1 := bl_trans (a := w) (bl_refl _) hb1
  have hk1 := bl_trans hk0 hB1
  have z1 := Lib.hid hB1.size
  cases h0 : skillsB xs
  · have Hz := Lib.hid (qualF_no (xs := xs) (person := person) (kind := kind) (day := day) (by rw [h0]; first | done | simp))
    clear h0
    go_wp2
    go_ret2
    exact ⟨ret_bb (by rw [Hz.out]) (by rw [Hz.out]), hk1⟩
  have H0 := Lib.hid h0
  clear h0
  go_wp2_with fail
  refine (apName_any person _ hz).mono ?_
  rintro e V2 ⟨rfl, hb2⟩
  have hB2 := bl_trans (a := V1) (bl_refl _) hb2
  have hk2 := bl_trans hk1 hB2
  have z2 := Lib.hid hB2.size
  clear hk1
  cases h1 : nameB person
  · have Hz := Lib.hid (qualF_no (xs := xs) (person := person) (kind := kind) (day := day) (by rw [h1]; first | done | simp))
    clear h1
    go_wp2
    go_ret2
    exact ⟨ret_bb (by rw [Hz.out]) (by rw [Hz.out]), hk2⟩
  have H1 := Lib.hid h1
  clear h1
  go_wp2_with fail
  refine (drKind_any kind _).mono ?_
  rintro _ V2 ⟨rfl, rfl⟩
  cases h2 : inB kind 0 5
  · have Hz := Lib.hid (qualF_no (xs := xs) (person := person) (kind := kind) (day := day) (by rw [h2]; first | done | simp))
    clear h2
    go_wp2
    go_ret2
    exact ⟨ret_bb (by rw [Hz.out]) (by rw [Hz.out]), hk2⟩
  have H2 := Lib.hid h2
  clear h2
  go_wp2_with fail
  refine (drDay_any day _).mono ?_
  rintro _ V2 ⟨rfl, rfl⟩
  cases h3 : inB day 0 20000
  · have Hz := Lib.hid (qualF_no (xs := xs) (person := person) (kind := kind) (day := day) (by rw [h3]; first | done | simp))
    clear h3
    go_wp2
    go_ret2
    exact ⟨ret_bb (by rw [Hz.out]) (by rw [Hz.out]), hk2⟩
  have H3 := Lib.hid h3
  clear h3
  have Hz := Lib.hid (qualF_yes (xs := xs) (person := person) (kind := kind) (day := day) (by rw [H0.out, H1.out, H2.out, H3.out]; rfl))
  go_wp2_with fail
  refine (drHas_any xs person kind day _ _ _ _ hn (hs.below hk2)).mono ?_
  rintro e V3 ⟨rfl, hb3⟩
  have hB3 := bl_trans (a := V2) (bl_refl _) hb3
  have hk3 := bl_trans hk2 hB3
  have z3 := Lib.hid hB3.size
  clear hk2
  go_wp2
  go_ret2
  exact ⟨ret_bb (by rw [Hz.out]) (by rw [Hz.out]), hk3⟩
set_option maxHeartbeats 4000000 in
theorem implIsQualified_any (xs : List Skill) (person : ByteArray) (kind day : Int) (A : Option Addr) (n c : Nat) (w : World) (hz : person.size ≤ maxLen) (hn : (n : Int) ≤ 9223372036854775807) (hs : Sl w A n xs) (hv : ∀ x, x ∈ xs → x.Person.size ≤ maxLen) :
    Calls Try.prog 25 #[.slice A n c, .string person, .int .i64 kind, .int .i64 day] w fun e w' => e = .returned (.tuple #[.bool (qualF xs person kind day).1, .bool (qualF xs person kind day).2]) ∧ Below w.heap.size w w' := by
  have HV := Lib.hid hv
  have HL := Lib.hid hs.1
  clear hv
  go_enter Try.func25, Try.ntmps25
  have hk0 := bl_refl w
  go_wp2_with fail
  refine (areSkills_any xs _ _ _ _ hn hs HV.out).mono ?_
  rintro e V1 ⟨rfl, hb1⟩
  have hB1 := bl_trans (a := w) (bl_refl _) hb1
  have hk1 := bl_trans hk0 hB1
  have z1 := Lib.hid hB1.size
  cases h0 : skillsB xs
  · have Hz := Lib.hid (qualF_no (xs := xs) (person := person) (kind := kind) (day := day) (by rw [h0]; first | done | simp))
    clear h0
    go_wp2
    go_ret2
    exact ⟨ret_bb (by rw [Hz.out]) (by rw [Hz.out]), hk1⟩
  have H0 := Lib.hid h0
  clear h0
  go_wp2_with fail
  refine (isName_any person _ hz).mono ?_
  rintro e V2 ⟨rfl, hb2⟩
  have hB2 := bl_trans (a := V1) (bl_refl _) hb2
  have hk2 := bl_trans hk1 hB2
  have z2 := Lib.hid hB2.size
  clear hk1
  cases h1 : nameB person
  · have Hz := Lib.hid (qualF_no (xs := xs) (person := person) (kind := kind) (day := day) (by rw [h1]; first | done | simp))
    clear h1
    go_wp2
    go_ret2
    exact ⟨ret_bb (by rw [Hz.out]) (by rw [Hz.out]), hk2⟩
  have H1 := Lib.hid h1
  clear h1
  go_wp2_with fail
  refine (isKind_any kind _).mono ?_
  rintro _ V2 ⟨rfl, rfl⟩
  cases h2 : inB kind 0 5
  · have Hz := Lib.hid (qualF_no (xs := xs) (person := person) (kind := kind) (day := day) (by rw [h2]; first | done | simp))
    clear h2
    go_wp2
    go_ret2
    exact ⟨ret_bb (by rw [Hz.out]) (by rw [Hz.out]), hk2⟩
  have H2 := Lib.hid h2
  clear h2
  go_wp2_with fail
  refine (isDay_any day _).mono ?_
  rintro _ V2 ⟨rfl, rfl⟩
  cases h3 : inB day 0 20000
  · have Hz := Lib.hid (qualF_no (xs := xs) (person := person) (kind := kind) (day := day) (by rw [h3]; first | done | simp))
    clear h3
    go_wp2
    go_ret2
    exact ⟨ret_bb (by rw [Hz.out]) (by rw [Hz.out]), hk2⟩
  have H3 := Lib.hid h3
  clear h3
  have Hz := Lib.hid (qualF_yes (xs := xs) (person := person) (kind := kind) (day := day) (by rw [H0.out, H1.out, H2.out, H3.out]; rfl))
  go_wp2_with fail
  refine (isQualified_any xs person kind day _ _ _ _ hn (hs.below hk2)).mono ?_
  rintro e V3 ⟨rfl, hb3⟩
  have hB3 := bl_trans (a := V2) (bl_refl _) hb3
  have hk3 := bl_trans hk2 hB3
  have z3 := Lib.hid hB3.size
  clear hk2
  go_wp2
  go_ret2
  exact ⟨ret_bb (by rw [Hz.out]) (by rw [Hz.out]), hk3⟩

end Go.Proofs.Ytgjnjfaohpmhkaa

namespace Go.Proofs.Ytgjnjfaohpmhkaa
open Go.RowKit

theorem hasS_memK {l : List ByteArray} {s : ByteArray} : hasS l s = true ↔ s ∈ l := by
  unfold hasS
  rw [List.any_eq_true]
  constructor
  · rintro ⟨x, hx, h⟩
    have e : x = s := bytes_inj (by simpa using h)
    rw [← e]; exact hx
  · intro h
    exact ⟨s, h, by simp⟩
/-- what is true of each session -/
theorem session_at {l : List Skill} {day ahead : Int} {m : Nat} (hm : 0 < m) {c : List Int} (hc : c ∈ ssU l day ahead m 6) :
    1 ≤ c.length ∧ c.length ≤ m ∧ ∀ j, j < c.length → nth c j ∈ dueU l day ahead l.length ∧ (nth l (nth c j).toNat).Kind = (nth l (nth c 0).toNat).Kind ∧ (0 < j → (nth l (nth c (j - 1)).toNat).Until ≤ (nth l (nth c j).toNat).Until) := by
  unfold ssU at hc
  obtain ⟨k, -, hk⟩ := List.mem_flatMap.1 hc
  obtain ⟨h1, h2, q, h3⟩ := (chunk_props hm _).1 c hk
  have hsub : c.Sublist ((dueS l day ahead).filter (kindK l (k : Int))) := by
    rw [h3]; exact (List.take_sublist _ _).trans (List.drop_sublist _ _)
  have hsrt : SrtK (keyU l) c := List.Pairwise.sublist (hsub.trans List.filter_sublist) (sortK_srt (dueU_nodup _ _ _ _))
  have hmem : ∀ j, j < c.length → nth c j ∈ dueU l day ahead l.length ∧ (nth l (nth c j).toNat).Kind = (k : Int) := fun j hj => by
    have h := List.mem_filter.1 (hsub.mem (nth_mem hj))
    exact ⟨dueS_mem.1 h.1, by have := h.2; unfold kindK at this; simpa using this⟩
  refine ⟨h1, h2, fun j hj => ⟨(hmem j hj).1, by rw [(hmem j hj).2, (hmem 0 (by omega)).2], fun h0 => ?_⟩⟩
  exact srt_key hsrt (i := j - 1) (j := j) (by omega) hj
theorem due_place {l : List Skill} {day ahead : Int} {i : Int} (h : i ∈ dueU l day ahead l.length) : 0 ≤ i ∧ i < l.length := by
  obtain ⟨j, hj, -, rfl⟩ := dueU_mem.1 h
  omega
theorem ssU_all {l : List Skill} {day ahead : Int} {m : Nat} (hm : 0 < m) (hk : skillsB l = true) : sumInts (ssU l day ahead m 6) = (dueU l day ahead l.length).length := by
  rw [sumInts_flat, ss_flat l day ahead hm, ← dueS_len]
  have hall : ∀ x, x ∈ dueS l day ahead → ∃ k : Nat, k < 6 ∧ (nth l x.toNat).Kind = (k : Int) := fun x hx => by
    obtain ⟨h0, h1⟩ := due_place (dueS_mem.1 hx)
    obtain ⟨⟨a, b⟩, -⟩ := kind_at hk (k := x.toNat) (by omega)
    exact ⟨(nth l x.toNat).Kind.toNat, by omega, by omega⟩
  have gen : ∀ (L : List Int), (∀ x, x ∈ L → ∃ k : Nat, k < 6 ∧ (nth l x.toNat).Kind = (k : Int)) → ((List.range 6).flatMap (fun j : Nat => L.filter (kindK l (j : Int)))).length = L.length := by
    intro L
    induction L with
    | nil => intro _; rfl
    | cons x L ih =>
      intro h
      have ih' := ih (fun y hy => h y (List.mem_cons_of_mem _ hy))
      obtain ⟨k, hk6, hkx⟩ := h x List.mem_cons_self
      simp only [show List.range 6 = [0, 1, 2, 3, 4, 5] from rfl, List.flatMap_cons, List.flatMap_nil, List.length_append, List.length_nil, List.filter_cons, kindK, hkx] at ih' ⊢
      have h6 : k = 0 ∨ k = 1 ∨ k = 2 ∨ k = 3 ∨ k = 4 ∨ k = 5 := by omega
      rcases h6 with rfl | rfl | rfl | rfl | rfl | rfl <;> simp only [List.length_cons] <;> simp <;> simp at ih' <;> omega
  exact gen _ hall
theorem session_law {l : List Skill} {day ahead seats : Int} {R : List (List Int)} (h : ssF l day ahead seats = (R, true)) :
    dueF l day ahead = (dueU l day ahead l.length, true) ∧ (∃ m : Nat, (m : Int) = seats ∧ 1 ≤ m ∧ m ≤ 10 ∧ ∀ i, i < R.length → 1 ≤ (nth R i).length ∧ (nth R i).length ≤ m) ∧ sumInts R = (dueU l day ahead l.length).length ∧ l.length ≤ 24 ∧
    (∀ i, i < R.length → ∀ j, j < (nth R i).length → nth (nth R i) j ∈ dueU l day ahead l.length ∧ (nth l (nth (nth R i) j).toNat).Kind = (nth l (nth (nth R i) 0).toNat).Kind ∧ (0 < j → (nth l (nth (nth R i) (j - 1)).toNat).Until ≤ (nth l (nth (nth R i) j).toNat).Until)) := by
  unfold ssF at h
  split at h
  · rename_i hb
    unfold ssB at hb
    simp only [Bool.and_eq_true] at hb
    obtain ⟨s0, s1⟩ := inB_iff.1 hb.2
    injection h with h _
    have hm : 0 < seats.toNat := by omega
    have hk : skillsB l = true := by
      have := hb.1; unfold askB at this; simp only [Bool.and_eq_true] at this; exact this.1.1
    refine ⟨dueF_yes hb.1, ⟨seats.toNat, by omega, by omega, by omega, fun i hi => ?_⟩, ?_, (askB_parts hb.1).1, fun i hi => ?_⟩
    · rw [← h] at hi ⊢
      have := session_at hm (nth_mem hi)
      exact ⟨this.1, this.2.1⟩
    · rw [← h]; exact ssU_all hm hk
    · rw [← h] at hi ⊢
      exact (session_at hm (nth_mem hi)).2.2
  · cases h
theorem sumInts_take {R : List (List Int)} {i : Nat} (h : i < R.length) : sumInts (R.take (i + 1)) = sumInts (R.take i) + (nth R i).length := by
  unfold sumInts; rw [take_succ h, List.map_append, List.sum_append]; simp
theorem sumInts_le (R : List (List Int)) (i : Nat) : sumInts (R.take i) ≤ sumInts R := by
  unfold sumInts; rw [List.map_take]; exact sum_take_leI _ _
/-- the persons who are gathered -/
theorem foldl_addP {xs : List Skill} {kinds : List Int} {day : Int} : ∀ (ys : List Skill) (out : List ByteArray), out.Nodup → (∀ e, e ∈ out → qualP xs kinds day e = true) →
    (ys.foldl (addP xs kinds day) out).Nodup ∧ ∀ e, e ∈ ys.foldl (addP xs kinds day) out ↔ e ∈ out ∨ (qualP xs kinds day e = true ∧ ∃ y, y ∈ ys ∧ y.Person = e)
  | [], out, h1, _ => ⟨h1, fun e => by simp⟩
  | y :: ys, out, h1, h2 => by
    rw [List.foldl_cons]
    by_cases hq : qualP xs kinds day y.Person = true
    · cases hh : hasS out y.Person
      · have hn : y.Person ∉ out := fun hm => by rw [hasS_memK.2 hm] at hh; cases hh
        rw [addP_yes hq hh]
        obtain ⟨r1, r2⟩ := foldl_addP ys (out ++ [y.Person]) (by
            rw [List.nodup_append]
            exact ⟨h1, by simp, fun a ha b hb e => hn (by rw [List.mem_singleton.1 hb] at e; rw [← e]; exact ha)⟩) (fun e he => by
            rcases List.mem_append.1 he with he | he
            · exact h2 e he
            · rw [List.mem_singleton.1 he]; exact hq)
        refine ⟨r1, fun e => ?_⟩
        rw [r2, List.mem_append, List.mem_singleton]
        constructor
        · rintro ((h | h) | ⟨h, z, hz, hz2⟩)
          · exact .inl h
          · exact .inr ⟨by rw [h]; exact hq, y, List.mem_cons_self, h.symm⟩
          · exact .inr ⟨h, z, List.mem_cons_of_mem _ hz, hz2⟩
        · rintro (h | ⟨h, z, hz, hz2⟩)
          · exact .inl (.inl h)
          · rcases List.mem_cons.1 hz with rfl | hz
            · exact .inl (.inr hz2.symm)
            · exact .inr ⟨h, z, hz, hz2⟩
      · have hn : y.Person ∈ out := hasS_memK.1 hh
        rw [addP_no (.inr hh)]
        obtain ⟨r1, r2⟩ := foldl_addP ys out h1 h2
        refine ⟨r1, fun e => ?_⟩
        rw [r2]
        constructor
        · rintro (h | ⟨h, z, hz, hz2⟩)
          · exact .inl h
          · exact .inr ⟨h, z, List.mem_cons_of_mem _ hz, hz2⟩
        · rintro (h | ⟨h, z, hz, hz2⟩)
          · exact .inl h
          · rcases List.mem_cons.1 hz with rfl | hz
            · exact .inl (by rw [← hz2]; exact hn)
            · exact .inr ⟨h, z, hz, hz2⟩
    · have hq' : qualP xs kinds day y.Person = false := by simpa using hq
      rw [addP_no (.inl hq')]
      obtain ⟨r1, r2⟩ := foldl_addP ys out h1 h2
      refine ⟨r1, fun e => ?_⟩
      rw [r2]
      constructor
      · rintro (h | ⟨h, z, hz, hz2⟩)
        · exact .inl h
        · exact .inr ⟨h, z, List.mem_cons_of_mem _ hz, hz2⟩
      · rintro (h | ⟨h, z, hz, hz2⟩)
        · exact .inl h
        · rcases List.mem_cons.1 hz with rfl | hz
          · rw [hz2] at hq'; rw [hq'] at h; cases h
          · exact .inr ⟨h, z, hz, hz2⟩
theorem qualL_mem {xs : List Skill} {kinds : List Int} {day : Int} : (qualL xs kinds day xs).Nodup ∧ ∀ e, e ∈ qualL xs kinds day xs ↔ qualP xs kinds day e = true ∧ ∃ y, y ∈ xs ∧ y.Person = e := by
  obtain ⟨h1, h2⟩ := foldl_addP (xs := xs) (kinds := kinds) (day := day) xs [] List.nodup_nil (fun e h => by cases h)
  exact ⟨h1, fun e => by unfold qualL; rw [h2]; simp⟩
theorem qual_parts {u : List Skill} {kinds : List Int} {day : Int} {Q : List ByteArray} (h : qforF u kinds day = (Q, true)) : skillsB u = true ∧ (kinds.length ≤ 6 ∧ risingB kinds = true) ∧ inB day 0 20000 = true ∧ Q = qualL u kinds day u := by
  unfold qforF at h
  split at h
  · rename_i hb
    simp only [Bool.and_eq_true] at hb
    injection h with h _
    have := inB_iff.1 hb.1.1.2
    exact ⟨hb.1.1.1, ⟨by omega, hb.1.2⟩, hb.2, h.symm⟩
  · cases h
theorem rising_in {kinds : List Int} (h : risingB kinds = true) {k : Nat} (hk : k < kinds.length) : inB (nth kinds k) 0 5 = true := by
  unfold risingB at h
  have := allB_iff.1 h k hk
  unfold okKd at this
  simp only [Bool.and_eq_true] at this
  exact this.1
/-- persons with all kinds are qualified for each -/
theorem qualified_law {u : List Skill} {kinds : List Int} {day : Int} {Q : List ByteArray} (h : qforF u kinds day = (Q, true)) :
    u.length ≤ 24 ∧ kinds.length ≤ 6 ∧ (∀ i, i < u.length → hasS Q (nth u i).Person = kinds.all (fun k => hasB u (nth u i).Person k day)) ∧
    (∀ i, i < u.length → ∀ j, j < kinds.length → qualF u (nth u i).Person (nth kinds j) day = (hasB u (nth u i).Person (nth kinds j) day, true)) := by
  obtain ⟨h1, ⟨h2, h3⟩, h4, rfl⟩ := qual_parts h
  refine ⟨skillsB_len h1, h2, fun i hi => ?_, fun i hi j hj => ?_⟩
  · have hm := (qualL_mem (xs := u) (kinds := kinds) (day := day)).2 (nth u i).Person
    rw [Bool.eq_iff_iff, hasS_memK, hm]
    exact ⟨fun h => h.1, fun h => ⟨h, nth u i, nth_mem hi, rfl⟩⟩
  · have hs := skill_at h1 hi
    unfold skillB at hs
    simp only [Bool.and_eq_true] at hs
    exact qualF_yes (by rw [h1, hs.1.1, rising_in h3 hj, h4]; rfl)
/-- counts are those of persons -/
theorem counts_law {v : List Skill} {day : Int} {C : List Int} (h : cntF v day = (C, true)) : C.length = 6 ∧ v.length ≤ 24 ∧ ∀ j : Nat, j < 6 → qforF v [(j : Int)] day = (qualL v [(j : Int)] day v, true) ∧ ((qualL v [(j : Int)] day v).length : Int) = nth C j := by
  unfold cntF at h
  split at h
  · rename_i hb
    simp only [Bool.and_eq_true] at hb
    injection h with h _
    subst h
    refine ⟨cntL_len _ _, skillsB_len hb.1, fun j hj => ⟨qforF_yes ?_, ?_⟩⟩
    · have hr : risingB [(j : Int)] = true := risingB_all fun k hk => by
        have hk0 : k = 0 := by simpa using hk
        subst hk0
        refine okKd_y ?_ (.inl (by omega))
        show inB ((j : Int)) 0 5 = true
        exact inB_iff.2 ⟨by omega, by omega⟩
      rw [hb.1, hb.2, hr]
      rfl
    · rw [cntL_nth hj]
      unfold cnt
      obtain ⟨n1, n2⟩ := qualL_mem (xs := v) (kinds := [(j : Int)]) (day := day)
      have hq : ∀ e, qualP v [(j : Int)] day e = true ↔ ∃ x, x ∈ v.filter (cntB (j : Int) day) ∧ x.Person = e := fun e => by
        unfold qualP hasB
        simp only [List.all_cons, List.all_nil, Bool.and_true, List.any_eq_true, List.mem_filter]
        constructor
        · rintro ⟨x, hx, hp⟩
          unfold hasP at hp
          simp only [Bool.and_eq_true] at hp
          exact ⟨x, ⟨hx, by unfold cntB; rw [hp.1.2, hp.2]; rfl⟩, bytes_inj (by simpa using hp.1.1)⟩
        · rintro ⟨x, ⟨hx, hp⟩, rfl⟩
          unfold cntB at hp
          simp only [Bool.and_eq_true] at hp
          exact ⟨x, hx, by unfold hasP; rw [hp.1, hp.2]; simp⟩
      have hnd : ((v.filter (cntB (j : Int) day)).map (fun x => x.Person)).Nodup := by
        have hv : v.Pairwise (fun x y => skLess x y = true) := List.pairwise_iff_getElem.2 fun a b ha hb2 hab => by
          have := skills_srt hb.1 b a hab hb2
          rwa [nth_get (List.getElem?_eq_getElem ha), nth_get (List.getElem?_eq_getElem hb2)] at this
        have hv2 : (v.filter (cntB (j : Int) day)).Pairwise (fun x y => skLess x y = true ∧ x.Kind = y.Kind) := by
          rw [List.pairwise_filter]
          refine hv.imp (fun {x y} hxy hx hy => ⟨hxy, ?_⟩)
          unfold cntB at hx hy
          simp only [Bool.and_eq_true] at hx hy
          have e1 : x.Kind = (j : Int) := by simpa using hx.1
          have e2 : y.Kind = (j : Int) := by simpa using hy.1
          rw [e1, e2]
        rw [List.Nodup, List.pairwise_map]
        refine hv2.imp (fun {x y} hxy e => ?_)
        have := sk_irr (x := x) (y := y) (by rw [e]) hxy.2
        rw [hxy.1] at this
        cases this
      have hp : (qualL v [(j : Int)] day v).Perm ((v.filter (cntB (j : Int) day)).map (fun x => x.Person)) := by
        rw [List.perm_ext_iff_of_nodup n1 hnd]
        intro e
        rw [n2, hq, List.mem_map]
        constructor
        · exact fun h => h.1
        · rintro ⟨x, hx, e2⟩
          exact ⟨⟨x, hx, e2⟩, x, (List.mem_filter.1 hx).1, e2⟩
      rw [hp.length_eq, List.length_map]
  · cases h
end Go.Proofs.Ytgjnjfaohpmhkaa

namespace Go.Proofs.Ytgjnjfaohpmhkaa
open Go.RowKit

theorem ints_in {R : List (List Int)} (h : (R.length : Int) + sumInts R ≤ 1048576) : ∀ x, x ∈ R → x.length ≤ 1048576 := fun x hx => by
  obtain ⟨i, hi, e⟩ := List.getElem_of_mem hx
  have h1 := sumInts_take hi
  have h2 := sumInts_le R (i + 1)
  rw [nth_get (List.getElem?_eq_getElem hi), e] at h1
  omega
/-- the law on sessions, as the walk asks it -/
structure SesLaw (l : List Skill) (dy ah st : Int) (R : List (List Int)) (D : List Int) (dk : Bool) : Prop where
  dk : dk = true
  all : sumInts R = D.length
  at_ : ∀ {i : Nat}, i < R.length → 1 ≤ (nth R i).length ∧ ((nth R i).length : Int) ≤ st ∧ ∃ zN : Nat, zN < l.length ∧ nth (nth R i) 0 = (zN : Int) ∧
    ∀ j, j < (nth R i).length → ∃ vN : Nat, vN < l.length ∧ (vN : Int) = nth (nth R i) j ∧ (∃ kd, (nth l vN).Kind = kd ∧ (nth l zN).Kind = kd ∧ D.any (fun x => x == (vN : Int)) = true ∧
      ∀ j', j = j' + 1 → ∃ pN : Nat, pN < l.length ∧ (pN : Int) = nth (nth R i) j' ∧ (nth l pN).Until ≤ (nth l vN).Until)
theorem ses_law {l : List Skill} {dy ah st : Int} {R : List (List Int)} {D : List Int} {dk : Bool} (h : ssF l dy ah st = (R, true)) (hD : dueF l dy ah = (D, dk)) : SesLaw l dy ah st R D dk := by
  obtain ⟨h1, ⟨m, hm, hm1, hm2, h2⟩, h3, h4, h5⟩ := session_law h
  rw [hD] at h1
  injection h1 with e1 e2
  subst e1 e2
  have place : ∀ i, i < R.length → ∀ j, j < (nth R i).length → ∃ vN : Nat, vN < l.length ∧ (vN : Int) = nth (nth R i) j := fun i hi j hj => by
    obtain ⟨a, b⟩ := due_place (h5 i hi j hj).1
    exact ⟨(nth (nth R i) j).toNat, by omega, by omega⟩
  refine ⟨rfl, h3, fun {i} hi => ?_⟩
  obtain ⟨a, b⟩ := h2 i hi
  obtain ⟨zN, hz1, hz2⟩ := place i hi 0 (by omega)
  refine ⟨a, by omega, zN, hz1, hz2.symm, fun j hj => ?_⟩
  obtain ⟨vN, hv1, hv2⟩ := place i hi j hj
  obtain ⟨x1, x2, x3⟩ := h5 i hi j hj
  rw [← hv2, ← hz2, Int.toNat_natCast, Int.toNat_natCast] at x2
  refine ⟨vN, hv1, hv2, _, rfl, x2.symm, ?_, fun j' hj' => ?_⟩
  · rw [List.any_eq_true]; exact ⟨(vN : Int), by rw [hv2]; exact x1, by simp⟩
  · obtain ⟨pN, hp1, hp2⟩ := place i hi j' (by omega)
    have := x3 (by omega)
    rw [show j - 1 = j' by omega, ← hp2, ← hv2, Int.toNat_natCast, Int.toNat_natCast] at this
    exact ⟨pN, hp1, hp2, this⟩
end Go.Proofs.Ytgjnjfaohpmhkaa
