/-
  DueSkills: both texts answer dueF. No conditions.
-/
import Derived.Test.YtgjnjfaohpmhkaaDueK
namespace Go.Proofs.Ytgjnjfaohpmhkaa
open Go.RowKit

def askB (xs : List Skill) (day ahead : Int) : Bool := skillsB xs && inB day 0 20000 && inB ahead 0 1000
theorem askB_parts {xs : List Skill} {day ahead : Int} (h : askB xs day ahead = true) : xs.length ≤ 24 ∧ (0 ≤ day ∧ day ≤ 20000) ∧ (0 ≤ ahead ∧ ahead ≤ 1000) := by
  unfold askB at h
  simp only [Bool.and_eq_true] at h
  exact ⟨skillsB_len h.1.1, inB_iff.1 h.1.2, inB_iff.1 h.2⟩
def dueF (xs : List Skill) (day ahead : Int) : List Int × Bool := if askB xs day ahead then (dueU xs day ahead xs.length, true) else ([], false)
theorem dueF_yes {xs : List Skill} {day ahead : Int} (h : askB xs day ahead = true) : dueF xs day ahead = (dueU xs day ahead xs.length, true) := by unfold dueF; rw [if_pos h]
theorem dueF_no {xs : List Skill} {day ahead : Int} (h : askB xs day ahead = false) : dueF xs day ahead = ([], false) := by unfold dueF; rw [if_neg (by rw [h]; exact Bool.false_ne_true)]
theorem dueF_len (xs : List Skill) (day ahead : Int) : (dueF xs day ahead).1.length ≤ 1048576 := by
  unfold dueF; split
  · rename_i h
    have h1 := (askB_parts h).1
    have h2 := dueU_len xs day ahead xs.length
    simp only; omega
  · simp
set_option maxHeartbeats 4000000 in
theorem drAsked_any (xs : List Skill) (day ahead : Int) (A : Option Addr) (n c : Nat) (w : World) (hn : (n : Int) ≤ 9223372036854775807) (hs : Sl w A n xs) (hv : ∀ x, x ∈ xs → x.Person.size ≤ maxLen) :
    Calls Try.prog 33 #[.slice A n c, .int .i64 day, .int .i64 ahead] w fun e w' => e = .returned (.bool (askB xs day ahead)) ∧ Below w.heap.size w w' := by
  have HV := Lib.hid hv
  have HL := Lib.hid hs.1
  clear hv
  go_enter Try.func33, Try.ntmps33
  have hk0 := bl_refl w
  go_wp2_with fail
  refine (drGood_any xs _ _ _ _ hn hs HV.out).mono ?_
  rintro e V1 ⟨rfl, hb1⟩
  have hB1 := bl_trans (a := w) (bl_refl _) hb1
  have hk1 := bl_trans hk0 hB1
  have z1 := Lib.hid hB1.size
  cases h0 : skillsB xs
  · have q : Hid (askB xs day ahead = false) := by rw [Hid, askB, h0]; simp
    clear h0
    go_wp2
    go_ret
    exact ⟨ret_bool q.out.symm, hk1⟩
  have H0 := Lib.hid h0
  clear h0
  go_wp2_with fail
  refine (drDay_any day _).mono ?_
  rintro _ V1 ⟨rfl, rfl⟩
  cases h1 : inB day 0 20000
  · have q : Hid (askB xs day ahead = false) := by rw [Hid, askB, H0.out, h1]; simp
    clear h1
    go_wp2
    go_ret
    exact ⟨ret_bool q.out.symm, hk1⟩
  have H1 := Lib.hid h1
  clear h1
  go_wp2_with fail
  refine (l1In_any ahead 0 1000 _).mono ?_
  rintro _ V1 ⟨rfl, rfl⟩
  have q : Hid (askB xs day ahead = inB ahead 0 1000) := by rw [Hid, askB, H0.out, H1.out]; rfl
  go_wp2
  go_ret
  exact ⟨ret_bool q.out.symm, hk1⟩
set_option maxHeartbeats 4000000 in
theorem specDueSkills_any (xs : List Skill) (day ahead : Int) (A : Option Addr) (n c : Nat) (w : World) (hn : (n : Int) ≤ 9223372036854775807) (hs : Sl w A n xs) (hv : ∀ x, x ∈ xs → x.Person.size ≤ maxLen) :
    Calls Try.prog 17 #[.slice A n c, .int .i64 day, .int .i64 ahead] w (RetOwn2 w 3 (dueF xs day ahead)) := by
  have HV := Lib.hid hv
  have HL := Lib.hid hs.1
  clear hv
  go_enter Try.func17, Try.ntmps17
  have hk0 := bl_refl w
  go_wp2_with fail
  refine (drAsked_any xs day ahead _ _ _ _ hn hs HV.out).mono ?_
  rintro e V1 ⟨rfl, hb1⟩
  have hB1 := bl_trans (a := w) (bl_refl _) hb1
  have hk1 := bl_trans hk0 hB1
  have z1 := Lib.hid hB1.size
  cases h0 : askB xs day ahead
  · have Hz := Lib.hid (dueF_no (xs := xs) (day := day) (ahead := ahead) (by rw [h0]; first | done | simp))
    clear h0
    go_wp2
    go_ret2
    exact retOwn2_mk Hz.out (Own.nil _ _ _) hk1
  have H0 := Lib.hid h0
  clear h0
  have HK := H0
  have Hz := Lib.hid (dueF_yes (xs := xs) (day := day) (ahead := ahead) HK.out)
  obtain ⟨hl, hd, ha⟩ := askB_parts HK.out
  have hn2 : n ≤ 24 := by have := HL.out; omega
  go_wp2_with fail
  refine (drDue_any xs day ahead _ _ _ _ (by omega) hd.1 hd.2 ha.1 ha.2 (hs.below hk1)).mono ?_
  rintro e V2 ⟨A_r, c_r, rfl, ho_r, hb2⟩
  have hB2 := bl_trans (a := V1) (bl_refl _) hb2
  have hk2 := bl_trans hk1 hB2
  have z2 := Lib.hid hB2.size
  clear hk1
  go_wp2
  go_ret2
  exact retOwn2_mk (by rw [Hz.out, HL.out]) (ho_r.mono (by have := z1.out; have := z2.out; omega)) hk2
set_option maxHeartbeats 4000000 in
theorem implDueSkills_any (xs : List Skill) (day ahead : Int) (A : Option Addr) (n c : Nat) (w : World) (hn : (n : Int) ≤ 9223372036854775807) (hs : Sl w A n xs) (hv : ∀ x, x ∈ xs → x.Person.size ≤ maxLen) :
    Calls Try.prog 16 #[.slice A n c, .int .i64 day, .int .i64 ahead] w (RetOwn2 w 3 (dueF xs day ahead)) := by
  have HV := Lib.hid hv
  have HL := Lib.hid hs.1
  clear hv
  go_enter Try.func16, Try.ntmps16
  have hk0 := bl_refl w
  go_wp2_with fail
  refine (areSkills_any xs _ _ _ _ hn hs HV.out).mono ?_
  rintro e V1 ⟨rfl, hb1⟩
  have hB1 := bl_trans (a := w) (bl_refl _) hb1
  have hk1 := bl_trans hk0 hB1
  have z1 := Lib.hid hB1.size
  cases h0 : skillsB xs
  · have Hz := Lib.hid (dueF_no (xs := xs) (day := day) (ahead := ahead) (by rw [askB, h0]; first | done | simp))
    clear h0
    go_wp2
    go_ret2
    exact retOwn2_mk Hz.out (Own.nil _ _ _) hk1
  have H0 := Lib.hid h0
  clear h0
  go_wp2_with fail
  refine (isDay_any day _).mono ?_
  rintro _ V1 ⟨rfl, rfl⟩
  cases h1 : inB day 0 20000
  · have Hz := Lib.hid (dueF_no (xs := xs) (day := day) (ahead := ahead) (by rw [askB, h1]; first | done | simp))
    clear h1
    go_wp2
    go_ret2
    exact retOwn2_mk Hz.out (Own.nil _ _ _) hk1
  have H1 := Lib.hid h1
  clear h1
  go_wp2_with fail
  refine (inside_any ahead 0 1000 _).mono ?_
  rintro _ V1 ⟨rfl, rfl⟩
  cases h2 : inB ahead 0 1000
  · have Hz := Lib.hid (dueF_no (xs := xs) (day := day) (ahead := ahead) (by rw [askB, h2]; first | done | simp))
    clear h2
    go_wp2
    go_ret2
    exact retOwn2_mk Hz.out (Own.nil _ _ _) hk1
  have H2 := Lib.hid h2
  clear h2
  have HK : Hid (askB xs day ahead = true) := by rw [Hid, askB, H0.out, H1.out, H2.out]; rfl
  have Hz := Lib.hid (dueF_yes (xs := xs) (day := day) (ahead := ahead) HK.out)
  obtain ⟨hl, hd, ha⟩ := askB_parts HK.out
  have hn2 : n ≤ 24 := by have := HL.out; omega
  go_wp2_with fail
  refine (dueSkills_any xs day ahead _ _ _ _ (by omega) hd.1 hd.2 ha.1 ha.2 (hs.below hk1)).mono ?_
  rintro e V2 ⟨A_r, c_r, rfl, ho_r, hb2⟩
  have hB2 := bl_trans (a := V1) (bl_refl _) hb2
  have hk2 := bl_trans hk1 hB2
  have z2 := Lib.hid hB2.size
  clear hk1
  go_wp2
  go_ret2
  exact retOwn2_mk (by rw [Hz.out, HL.out]) (ho_r.mono (by have := z1.out; have := z2.out; omega)) hk2

end Go.Proofs.Ytgjnjfaohpmhkaa
