/-
  Loads that are other ones than a load. No conditions.
-/
import Derived.Test.YtokcgjjnljflaaaLoadsA
namespace Go.Proofs.Ytokcgjjnljflaaa
open Go.RowKit

def okOt (s : ByteArray) (xs : List Load) (k : Nat) : Bool := loadB (nth xs k).Appliance (nth xs k).Things && !((nth xs k).Appliance.toList == s.toList) && !((xs.take k).any (fun y => y.Appliance.toList == (nth xs k).Appliance.toList))
def othersB (s : ByteArray) (xs : List Load) : Bool := allB xs.length (okOt s xs) && decide ((xs.length : Int) ≤ 6)
theorem okOt_0 {s : ByteArray} {xs : List Load} {k : Nat} (h : loadB (nth xs k).Appliance (nth xs k).Things = false) : okOt s xs k = false := by simp only [okOt, h]; rfl
theorem okOt_1 {s : ByteArray} {xs : List Load} {k : Nat} (h : ((nth xs k).Appliance.toList == s.toList) = true) : okOt s xs k = false := by simp only [okOt, h]; simp
theorem okOt_2 {s : ByteArray} {xs : List Load} {k : Nat} (h : (xs.take k).any (fun y => y.Appliance.toList == (nth xs k).Appliance.toList) = true) : okOt s xs k = false := by simp only [okOt, h]; simp
theorem okOt_y {s : ByteArray} {xs : List Load} {k : Nat} (h : loadB (nth xs k).Appliance (nth xs k).Things = true) (h1 : ((nth xs k).Appliance.toList == s.toList) = false) (h' : (xs.take k).any (fun y => y.Appliance.toList == (nth xs k).Appliance.toList) = false) : okOt s xs k = true := by simp only [okOt, h, h1, h']; rfl
theorem othersB_no {s : ByteArray} {xs : List Load} {k : Nat} (hk : k < xs.length) (h : okOt s xs k = false) : othersB s xs = false := by simp [othersB, allB_false hk h]
theorem othersB_all {s : ByteArray} {xs : List Load} (h : ∀ j, j < xs.length → okOt s xs j = true) : othersB s xs = decide ((xs.length : Int) ≤ 6) := by simp [othersB, allB_true h]
theorem othersB_len {s : ByteArray} {xs : List Load} (h : othersB s xs = true) : (xs.length : Int) ≤ 6 := by simp [othersB] at h; exact h.2
theorem othersB_at {s : ByteArray} {xs : List Load} (h : othersB s xs = true) {k : Nat} (hk : k < xs.length) : okOt s xs k = true := by
  cases h1 : okOt s xs k with
  | true => rfl
  | false => rw [othersB_no hk h1] at h; cases h
theorem okOt_load {s : ByteArray} {xs : List Load} {k : Nat} (h : okOt s xs k = true) : loadB (nth xs k).Appliance (nth xs k).Things = true := by simp only [okOt, Bool.and_eq_true] at h; exact h.1.1
theorem beq_sym (a b : List UInt8) : (a == b) = (b == a) := by
  cases h : a == b with
  | true => rw [beq_iff_eq.1 h]; simp
  | false =>
    cases h' : b == a with
    | false => rfl
    | true => rw [beq_iff_eq.1 h'] at h; simp at h
theorem okLd_cons {x : Load} {xs : List Load} {k : Nat} : okLd (x :: xs) (k + 1) = okOt x.Appliance xs k := by
  have e : nth (x :: xs) (k + 1) = nth xs k := by unfold nth; simp
  unfold okLd okOt
  rw [e, List.take_succ_cons, List.any_cons, Bool.not_or, beq_sym x.Appliance.toList, Bool.and_assoc]
/-- the reference's test of all loads is the program's of one and the others -/
theorem loadsB_cons (x : Load) (xs : List Load) : (loadsB 7 (x :: xs)) = (loadB x.Appliance x.Things && othersB x.Appliance xs) := by
  have e0 : okLd (x :: xs) 0 = loadB x.Appliance x.Things := by
    have e : nth (x :: xs) 0 = x := by unfold nth; simp
    unfold okLd; rw [e]; simp
  have el : decide (((x :: xs).length : Int) ≤ 7) = decide ((xs.length : Int) ≤ 6) := by
    rw [List.length_cons]
    exact decide_eq_decide.2 (by omega)
  cases h0 : loadB x.Appliance x.Things with
  | false => rw [Bool.false_and]; exact loadsB_no (k := 0) (by simp) (by rw [e0]; exact h0)
  | true =>
    rw [Bool.true_and]
    by_cases hall : ∀ j, j < xs.length → okOt x.Appliance xs j = true
    · rw [othersB_all hall, loadsB_all (fun j hj => ?_), el]
      cases j with
      | zero => rw [e0]; exact h0
      | succ j => rw [okLd_cons]; exact hall j (by simpa using hj)
    · obtain ⟨j, hj⟩ := Classical.not_forall.1 hall
      obtain ⟨hj, hk⟩ := Classical.not_imp.1 hj
      have hk := Bool.eq_false_iff.2 hk
      rw [othersB_no hj hk]
      exact loadsB_no (k := j + 1) (by simpa using hj) (by rw [okLd_cons]; exact hk)
theorem enters_aO : Enters Try.prog 66 := enters_of Try.func66 (by kernel_rfl) (by kernel_rfl)
theorem pred_aO (w : World) (B : Nat) (s : ByteArray) (ha : w.cell? ⟨B, 0, none⟩ = some (.string s)) (xs : List Load) : PredLoad Try.prog w xs 66 #[.pointer (some ⟨B, 0, none⟩)] (fun y => y.Appliance.toList == s.toList) := by
  intro W x A' c' _ hb _ _
  have ha' := cell_later hb ha
  have hz : B < W.heap.size := World.block_lt_of_cell? W _ ha'
  clear ha
  show Calls _ _ #[.agg #[.string x.Appliance, .slice A' x.Things.length c'], .pointer (some ⟨B, 0, none⟩)] W _
  go_enter Try.func66, Try.ntmps66
  go_wp2
  go_ret
  exact ⟨rfl, bl_alloc (bl_refl _) _⟩
set_option maxHeartbeats 4000000 in
theorem areOthers_any (s : ByteArray) (T : Option Addr) (tn tc : Nat) (xs : List Load) (A : Option Addr) (n c : Nat) (w : World) (hn : (n : Int) ≤ 9223372036854775807) (hc : n ≤ c) (hcm : (c : Int) ≤ 9223372036854775807) (hs : Sl w A n xs) (hv : ∀ x, x ∈ xs → x.Appliance.size ≤ maxLen ∧ ∀ y, y ∈ x.Things → y.Name.size ≤ maxLen) :
    Calls Try.prog 40 #[.agg #[.string s, .slice T tn tc], .slice A n c] w fun e w' => e = .returned (.bool (othersB s xs)) ∧ Below w.heap.size w w' := by
  have HL := Lib.hid hs.1
  have HV := Lib.hid hv
  clear hv
  go_enter Try.func40, Try.ntmps40
  go_wp2
  go_loopw [9] (fun i wr => ∃ (k : Nat), k ≤ n ∧ i = .int .i64 k ∧ Hid (∀ j, j < k → okOt s xs j = true) ∧ wr.cell? ⟨w.heap.size, 0, none⟩ = some (.string s) ∧ Below w.heap.size w wr) (fun i _ => n - (intOf i).toNat)
  case atStart => exact ⟨0, Nat.zero_le _, rfl, fun j hj => absurd hj (by omega), by go_simp, bl_alloc (bl_refl _) _⟩
  case round =>
    obtain ⟨k, hk, rfl, hg, p0, hb⟩ := hrel
    by_cases hlt : k < n
    · obtain ⟨b, o, A', c', rfl, hbz, c0, c1, hi, hil⟩ := (hs.below hb).load hlt
      have hil2 : ((nth xs k).Things.length : Int) ≤ 9223372036854775807 := by unfold maxLen at hil; omega
      have hkx : Hid (k < xs.length) := by rw [Hid, HL.out]; exact hlt
      have hm2 := Lib.hid (nth_mem hkx.out)
      have hs' := Lib.hid (hs.take (by omega : k ≤ n))
      have hpz : w.heap.size < wr.heap.size := World.block_lt_of_cell? _ _ p0
      clear hs hil
      go_wp2_with fail
      refine (isLd_any (nth xs k).Appliance (nth xs k).Things A' _ c' _ (HV.out _ hm2.out).1 hil2 (hi.below (bl_alloc (bl_refl _) _)) (HV.out _ hm2.out).2).mono ?_
      rintro e V ⟨rfl, hV⟩
      have hB := bl_trans (bl_alloc (bl_refl wr) (.cells #[.string (nth xs k).Appliance, .slice A' (nth xs k).Things.length c'] 28)) hV
      have hbV := bl_trans hb hB
      have x0 : V.cell? ⟨wr.heap.size, 0, none⟩ = some (.string (nth xs k).Appliance) := cell_later hV (by go_simp)
      have p1 := cell_later hB p0
      clear hi c0 c1 p0
      cases h1 : loadB (nth xs k).Appliance (nth xs k).Things
      · have Hz := Lib.hid (othersB_no (s := s) hkx.out (okOt_0 h1))
        clear h1
        go_wp2
        go_ret
        exact ⟨ret_bool Hz.out.symm, hbV⟩
      have h1' := Lib.hid h1
      have hkc : (k : Int) ≤ c := by omega
      have hkc2 : k ≤ c := by omega
      have hk0 : (0 : Int) ≤ k := by omega
      clear h1
      cases h2 : (nth xs k).Appliance.toList == s.toList
      rotate_left
      · have Hz := Lib.hid (othersB_no (s := s) hkx.out (okOt_1 h2))
        go_wp2
        go_ret
        exact ⟨ret_bool Hz.out.symm, hbV⟩
      have h2' := Lib.hid h2
      go_wp2_with fail
      refine (containsFunc_load (xs.take k) _ k _ _ _ (fun y => y.Appliance.toList == (nth xs k).Appliance.toList) _ (by omega) (hs'.out.below hbV) enters_aO (pred_aO _ _ _ x0 _)).mono ?_
      rintro e V2 ⟨rfl, hV2⟩
      have hbV2 := bl_trans hbV hV2
      have p2 := cell_later hV2 p1
      clear x0 p1 h2
      cases h3 : (xs.take k).any (fun y => y.Appliance.toList == (nth xs k).Appliance.toList)
      · have hq2 : Hid (okOt s xs k = true) := okOt_y h1'.out h2'.out h3
        clear h3
        go_wp2
        go_roundw
        case rel => exact ⟨k + 1, by omega, by go_num, upto_succ hg hq2.out, p2, hbV2⟩
        case measure => simp [intOf]; omega
      · have Hz := Lib.hid (othersB_no (s := s) hkx.out (okOt_2 h3))
        clear h3
        go_wp2
        go_ret
        exact ⟨ret_bool Hz.out.symm, hbV2⟩
    · obtain rfl : k = n := by omega
      have Hz : Hid (othersB s xs = decide ((k : Int) ≤ 6)) := by rw [Hid, othersB_all (by rw [HL.out]; exact hg.out), HL.out]
      go_wp2
      go_ret
      exact ⟨ret_bool (by rw [Hz.out]), hb⟩

end Go.Proofs.Ytokcgjjnljflaaa
