/-
  CountsOn: both texts answer cntF. No conditions.
-/
import Derived.Test.YtiekmpbdlncgdaaCntK
namespace Go.Proofs.Ytiekmpbdlncgdaa
open Go.RowKit

def cntF (xs : List Skill) (day : Int) : List Int × Bool := if skillsB xs && inB day 0 20000 then (cntL xs day, true) else ([], false)
theorem cntF_yes {xs : List Skill} {day : Int} (h : (skillsB xs && inB day 0 20000) = true) : cntF xs day = (cntL xs day, true) := by unfold cntF; rw [if_pos h]
theorem cntF_no {xs : List Skill} {day : Int} (h : (skillsB xs && inB day 0 20000) = false) : cntF xs day = ([], false) := by unfold cntF; rw [if_neg (by rw [h]; exact Bool.false_ne_true)]
theorem cntF_len (xs : List Skill) (day : Int) : (cntF xs day).1.length ≤ 1048576 := by
  unfold cntF; split
  · simp only [cntL_len]; omega
  · simp
set_option maxHeartbeats 4000000 in
theorem specCountsOn_any (xs : List Skill) (day : Int) (A : Option Addr) (n c : Nat) (w : World) (hn : (n : Int) ≤ 9223372036854775807) (hs : Sl w A n xs) (hv : ∀ x, x ∈ xs → x.Person.size ≤ maxLen) :
    Calls Try.prog 30 #[.slice A n c, .int .i64 day] w (RetOwn2 w 3 (cntF xs day)) := by
  have HV := Lib.hid hv
  have HL := Lib.hid hs.1
  clear hv
  go_enter Try.func30, Try.ntmps30
  have hk0 := bl_refl w
  go_wp2_with fail
  refine (drGood_any xs _ _ _ _ hn hs HV.out).mono ?_
  rintro e V1 ⟨rfl, hb1⟩
  have hB1 := bl_trans (a := w) (bl_refl _) hb1
  have hk1 := bl_trans hk0 hB1
  have z1 := Lib.hid hB1.size
  cases h0 : skillsB xs
  · have Hz := Lib.hid (cntF_no (xs := xs) (day := day) (by rw [h0]; first | done | simp))
    clear h0
    go_wp2
    go_ret2
    exact retOwn2_mk Hz.out (Own.nil _ _ _) hk1
  have H0 := Lib.hid h0
  clear h0
  go_wp2_with fail
  refine (drDay_any day _).mono ?_
  rintro _ V1 ⟨rfl, rfl⟩
  cases h1 : inB day 0 20000
  · have Hz := Lib.hid (cntF_no (xs := xs) (day := day) (by rw [h1]; first | done | simp))
    clear h1
    go_wp2
    go_ret2
    exact retOwn2_mk Hz.out (Own.nil _ _ _) hk1
  have H1 := Lib.hid h1
  clear h1
  have Hz := Lib.hid (cntF_yes (xs := xs) (day := day) (by rw [H0.out, H1.out]; rfl))
  have hn2 : n ≤ 24 := by have := skillsB_len H0.out; have := HL.out; omega
  go_wp2_with fail
  refine (drCounts_any xs day _ _ _ _ (by omega) (hs.below hk1)).mono ?_
  rintro e V2 ⟨A_r, c_r, rfl, ho_r, hb2⟩
  have hB2 := bl_trans (a := V1) (bl_refl _) hb2
  have hk2 := bl_trans hk1 hB2
  have z2 := Lib.hid hB2.size
  clear hk1
  have hl6 := Lib.hid (cntL_len xs day)
  go_wp2
  go_ret2
  exact retOwn2_mk Hz.out (ho_r.mono (by have := z1.out; have := z2.out; omega)) hk2
set_option maxHeartbeats 4000000 in
theorem implCountsOn_any (xs : List Skill) (day : Int) (A : Option Addr) (n c : Nat) (w : World) (hn : (n : Int) ≤ 9223372036854775807) (hs : Sl w A n xs) (hv : ∀ x, x ∈ xs → x.Person.size ≤ maxLen) :
    Calls Try.prog 31 #[.slice A n c, .int .i64 day] w (RetOwn2 w 3 (cntF xs day)) := by
  have HV := Lib.hid hv
  have HL := Lib.hid hs.1
  clear hv
  go_enter Try.func31, Try.ntmps31
  have hk0 := bl_refl w
  go_wp2_with fail
  refine (areSkills_any xs _ _ _ _ hn hs HV.out).mono ?_
  rintro e V1 ⟨rfl, hb1⟩
  have hB1 := bl_trans (a := w) (bl_refl _) hb1
  have hk1 := bl_trans hk0 hB1
  have z1 := Lib.hid hB1.size
  cases h0 : skillsB xs
  · have Hz := Lib.hid (cntF_no (xs := xs) (day := day) (by rw [h0]; first | done | simp))
    clear h0
    go_wp2
    go_ret2
    exact retOwn2_mk Hz.out (Own.nil _ _ _) hk1
  have H0 := Lib.hid h0
  clear h0
  go_wp2_with fail
  refine (isDay_any day _).mono ?_
  rintro _ V1 ⟨rfl, rfl⟩
  cases h1 : inB day 0 20000
  · have Hz := Lib.hid (cntF_no (xs := xs) (day := day) (by rw [h1]; first | done | simp))
    clear h1
    go_wp2
    go_ret2
    exact retOwn2_mk Hz.out (Own.nil _ _ _) hk1
  have H1 := Lib.hid h1
  clear h1
  have Hz := Lib.hid (cntF_yes (xs := xs) (day := day) (by rw [H0.out, H1.out]; rfl))
  have hn2 : n ≤ 24 := by have := skillsB_len H0.out; have := HL.out; omega
  go_wp2_with fail
  refine (countsOn_any xs day _ _ _ _ (by omega) (hs.below hk1) H0.out).mono ?_
  rintro e V2 ⟨A_r, c_r, rfl, ho_r, hb2⟩
  have hB2 := bl_trans (a := V1) (bl_refl _) hb2
  have hk2 := bl_trans hk1 hB2
  have z2 := Lib.hid hB2.size
  clear hk1
  have hl6 := Lib.hid (cntL_len xs day)
  go_wp2
  go_ret2
  exact retOwn2_mk Hz.out (ho_r.mono (by have := z1.out; have := z2.out; omega)) hk2

end Go.Proofs.Ytiekmpbdlncgdaa
