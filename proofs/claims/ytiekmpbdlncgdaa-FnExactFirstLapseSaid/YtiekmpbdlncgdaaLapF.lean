/-
  FirstLapse: both texts answer lapF. No conditions.
-/
import Derived.Test.YtiekmpbdlncgdaaCntK
namespace Go.Proofs.Ytiekmpbdlncgdaa
open Go.RowKit

theorem ret_bb {a a' b b' : Bool} (h : a = a') (h' : b = b') : Ending.returned (.tuple #[.bool a, .bool b]) = .returned (.tuple #[.bool a', .bool b']) := by rw [h, h']
theorem ret_ib {a a' : Int} {b b' : Bool} (h : a = a') (h' : b = b') : Ending.returned (.tuple #[.int .i64 a, .bool b]) = .returned (.tuple #[.int .i64 a', .bool b']) := by rw [h, h']
/-- the first day from d on, of f days, on which c is below need -/
def lapse (c : Int → Int) (need : Int) : Nat → Int → Option Int
  | 0, _ => none
  | f + 1, d => if c d < need then some d else lapse c need f (d + 1)
theorem lapse_hit {c : Int → Int} {need d : Int} (hd : d ≤ 20000) (h : c d < need) : lapse c need (20001 - d).toNat d = some d := by
  obtain ⟨f, hf⟩ : ∃ f, (20001 - d).toNat = f + 1 := ⟨(20000 - d).toNat, by omega⟩
  rw [hf, lapse, if_pos h]
theorem lapse_step {c : Int → Int} {need d : Int} (hd : d ≤ 20000) (h : ¬ c d < need) : lapse c need (20001 - d).toNat d = lapse c need (20001 - (d + 1)).toNat (d + 1) := by
  obtain ⟨f, hf⟩ : ∃ f, (20001 - d).toNat = f + 1 := ⟨(20000 - d).toNat, by omega⟩
  have hf2 : (20001 - (d + 1)).toNat = f := by omega
  rw [hf, hf2, lapse, if_neg h]
theorem lapse_end {c : Int → Int} {need : Int} : lapse c need (20001 - 20001 : Int).toNat 20001 = none := rfl
def pairO : Option Int → Int × Bool
  | some d => (d, true)
  | none => (0, false)
def lapF (xs : List Skill) (kind need frm : Int) : Int × Bool := if skillsB xs && inB kind 0 5 && inB need 1 20 && inB frm 0 20000 then pairO (lapse (cnt xs kind) need (20001 - frm).toNat frm) else (0, false)
theorem lapF_yes {xs : List Skill} {kind need frm : Int} (h : (skillsB xs && inB kind 0 5 && inB need 1 20 && inB frm 0 20000) = true) : lapF xs kind need frm = pairO (lapse (cnt xs kind) need (20001 - frm).toNat frm) := by unfold lapF; rw [if_pos h]
theorem lapF_no {xs : List Skill} {kind need frm : Int} (h : (skillsB xs && inB kind 0 5 && inB need 1 20 && inB frm 0 20000) = false) : lapF xs kind need frm = (0, false) := by unfold lapF; rw [if_neg (by rw [h]; exact Bool.false_ne_true)]
set_option maxHeartbeats 4000000 in
theorem specFirstLapse_any (xs : List Skill) (kind need frm : Int) (A : Option Addr) (n c : Nat) (w : World) (hn : (n : Int) ≤ 9223372036854775807) (hs : Sl w A n xs) (hv : ∀ x, x ∈ xs → x.Person.size ≤ maxLen) :
    Calls Try.prog 20 #[.slice A n c, .int .i64 kind, .int .i64 need, .int .i64 frm] w fun e w' => e = .returned (.tuple #[.int .i64 (lapF xs kind need frm).1, .bool (lapF xs kind need frm).2]) ∧ Below w.heap.size w w' := by
  have HV := Lib.hid hv
  have HL := Lib.hid hs.1
  clear hv
  go_enter Try.func20, Try.ntmps20
  have hk0 := bl_refl w
  go_wp2_with fail
  refine (drGood_any xs _ _ _ _ hn hs HV.out).mono ?_
  rintro e V1 ⟨rfl, hb1⟩
  have hB1 := bl_trans (a := w) (bl_refl _) hb1
  have hk1 := bl_trans hk0 hB1
  have z1 := Lib.hid hB1.size
  cases h0 : skillsB xs
  · have Hz := Lib.hid (lapF_no (xs := xs) (kind := kind) (need := need) (frm := frm) (by rw [h0]; first | done | simp))
    clear h0
    go_wp2
    go_ret2
    exact ⟨ret_ib (by rw [Hz.out]) (by rw [Hz.out]), hk1⟩
  have H0 := Lib.hid h0
  clear h0
  go_wp2_with fail
  refine (drKind_any kind _).mono ?_
  rintro _ V1 ⟨rfl, rfl⟩
  cases h1 : inB kind 0 5
  · have Hz := Lib.hid (lapF_no (xs := xs) (kind := kind) (need := need) (frm := frm) (by rw [h1]; first | done | simp))
    clear h1
    go_wp2
    go_ret2
    exact ⟨ret_ib (by rw [Hz.out]) (by rw [Hz.out]), hk1⟩
  have H1 := Lib.hid h1
  clear h1
  go_wp2_with fail
  refine (l1In_any need 1 20 _).mono ?_
  rintro _ V1 ⟨rfl, rfl⟩
  cases h2 : inB need 1 20
  · have Hz := Lib.hid (lapF_no (xs := xs) (kind := kind) (need := need) (frm := frm) (by rw [h2]; first | done | simp))
    clear h2
    go_wp2
    go_ret2
    exact ⟨ret_ib (by rw [Hz.out]) (by rw [Hz.out]), hk1⟩
  have H2 := Lib.hid h2
  clear h2
  go_wp2_with fail
  refine (drDay_any frm _).mono ?_
  rintro _ V1 ⟨rfl, rfl⟩
  cases h3 : inB frm 0 20000
  · have Hz := Lib.hid (lapF_no (xs := xs) (kind := kind) (need := need) (frm := frm) (by rw [h3]; first | done | simp))
    clear h3
    go_wp2
    go_ret2
    exact ⟨ret_ib (by rw [Hz.out]) (by rw [Hz.out]), hk1⟩
  have H3 := Lib.hid h3
  clear h3
  have Hz := Lib.hid (lapF_yes (xs := xs) (kind := kind) (need := need) (frm := frm) (by rw [H0.out, H1.out, H2.out, H3.out]; rfl))
  have hn2 : n ≤ 24 := by have := skillsB_len H0.out; have := HL.out; omega
  obtain ⟨f0, f1⟩ := inB_iff.1 H3.out
  obtain ⟨n0, n1⟩ := inB_iff.1 H2.out
  go_wp2
  go_loopw [10] (fun u wr => ∃ d : Int, 0 ≤ d ∧ d ≤ 20001 ∧ u = .int .i64 d ∧ Hid (lapse (cnt xs kind) need (20001 - frm).toNat frm = lapse (cnt xs kind) need (20001 - d).toNat d) ∧ Below w.heap.size w wr) (fun u _ => (20001 - intOf u).toNat)
  case atStart => exact ⟨frm, by omega, by omega, rfl, rfl, hk1⟩
  case round =>
    obtain ⟨d, hd0, hd1, rfl, hg, hb⟩ := hrel
    by_cases hlt : d ≤ 20000
    · have hz1 : True := trivial
      clear hz1
      go_wp2_with fail
      refine (drCount_any xs kind d _ _ _ _ (by omega) (hs.below hb)).mono ?_
      rintro e V ⟨rfl, hV⟩
      have hbV := bl_trans hb hV
      clear hs
      by_cases hc : cnt xs kind d < need
      · have hp := Lib.hid (lapse_hit (c := cnt xs kind) hlt hc)
        go_wp2
        go_ret2
        exact ⟨ret_ib (by rw [Hz.out, hg.out, hp.out]; rfl) (by rw [Hz.out, hg.out, hp.out]; rfl), hbV⟩
      · have hp := Lib.hid (lapse_step (c := cnt xs kind) hlt hc)
        go_wp2
        go_roundw
        case rel => exact ⟨d + 1, by omega, by omega, rfl, hg.out.trans hp.out, hbV⟩
        case measure => simp [intOf]; omega
    · obtain rfl : d = 20001 := by omega
      have hp := Lib.hid (lapse_end (c := cnt xs kind) (need := need))
      go_wp2
      go_ret2
      exact ⟨ret_ib (by rw [Hz.out, hg.out, hp.out]; rfl) (by rw [Hz.out, hg.out, hp.out]; rfl), hb⟩
set_option maxHeartbeats 4000000 in
theorem implFirstLapse_any (xs : List Skill) (kind need frm : Int) (A : Option Addr) (n c : Nat) (w : World) (hn : (n : Int) ≤ 9223372036854775807) (hs : Sl w A n xs) (hv : ∀ x, x ∈ xs → x.Person.size ≤ maxLen) :
    Calls Try.prog 21 #[.slice A n c, .int .i64 kind, .int .i64 need, .int .i64 frm] w fun e w' => e = .returned (.tuple #[.int .i64 (lapF xs kind need frm).1, .bool (lapF xs kind need frm).2]) ∧ Below w.heap.size w w' := by
  have HV := Lib.hid hv
  have HL := Lib.hid hs.1
  clear hv
  go_enter Try.func21, Try.ntmps21
  have hk0 := bl_refl w
  go_wp2_with fail
  refine (areSkills_any xs _ _ _ _ hn hs HV.out).mono ?_
  rintro e V1 ⟨rfl, hb1⟩
  have hB1 := bl_trans (a := w) (bl_refl _) hb1
  have hk1 := bl_trans hk0 hB1
  have z1 := Lib.hid hB1.size
  cases h0 : skillsB xs
  · have Hz := Lib.hid (lapF_no (xs := xs) (kind := kind) (need := need) (frm := frm) (by rw [h0]; first | done | simp))
    clear h0
    go_wp2
    go_ret2
    exact ⟨ret_ib (by rw [Hz.out]) (by rw [Hz.out]), hk1⟩
  have H0 := Lib.hid h0
  clear h0
  go_wp2_with fail
  refine (isKind_any kind _).mono ?_
  rintro _ V1 ⟨rfl, rfl⟩
  cases h1 : inB kind 0 5
  · have Hz := Lib.hid (lapF_no (xs := xs) (kind := kind) (need := need) (frm := frm) (by rw [h1]; first | done | simp))
    clear h1
    go_wp2
    go_ret2
    exact ⟨ret_ib (by rw [Hz.out]) (by rw [Hz.out]), hk1⟩
  have H1 := Lib.hid h1
  clear h1
  go_wp2_with fail
  refine (inside_any need 1 20 _).mono ?_
  rintro _ V1 ⟨rfl, rfl⟩
  cases h2 : inB need 1 20
  · have Hz := Lib.hid (lapF_no (xs := xs) (kind := kind) (need := need) (frm := frm) (by rw [h2]; first | done | simp))
    clear h2
    go_wp2
    go_ret2
    exact ⟨ret_ib (by rw [Hz.out]) (by rw [Hz.out]), hk1⟩
  have H2 := Lib.hid h2
  clear h2
  go_wp2_with fail
  refine (isDay_any frm _).mono ?_
  rintro _ V1 ⟨rfl, rfl⟩
  cases h3 : inB frm 0 20000
  · have Hz := Lib.hid (lapF_no (xs := xs) (kind := kind) (need := need) (frm := frm) (by rw [h3]; first | done | simp))
    clear h3
    go_wp2
    go_ret2
    exact ⟨ret_ib (by rw [Hz.out]) (by rw [Hz.out]), hk1⟩
  have H3 := Lib.hid h3
  clear h3
  have Hz := Lib.hid (lapF_yes (xs := xs) (kind := kind) (need := need) (frm := frm) (by rw [H0.out, H1.out, H2.out, H3.out]; rfl))
  have hn2 : n ≤ 24 := by have := skillsB_len H0.out; have := HL.out; omega
  obtain ⟨f0, f1⟩ := inB_iff.1 H3.out
  obtain ⟨n0, n1⟩ := inB_iff.1 H2.out
  obtain ⟨u0, u1⟩ := inB_iff.1 H1.out
  obtain ⟨j, rfl⟩ := Int.eq_ofNat_of_zero_le u0
  have hj6 : j < 6 := by omega
  go_wp2
  go_loopw [10] (fun u wr => ∃ d : Int, 0 ≤ d ∧ d ≤ 20001 ∧ u = .int .i64 d ∧ Hid (lapse (cnt xs (j : Int)) need (20001 - frm).toNat frm = lapse (cnt xs (j : Int)) need (20001 - d).toNat d) ∧ Below w.heap.size w wr) (fun u _ => (20001 - intOf u).toNat)
  case atStart => exact ⟨frm, by omega, by omega, rfl, rfl, hk1⟩
  case round =>
    obtain ⟨d, hd0, hd1, rfl, hg, hb⟩ := hrel
    by_cases hlt : d ≤ 20000
    · have hz1 : True := trivial
      clear hz1
      go_wp2_with fail
      refine (countsOn_any xs d _ _ _ _ (by omega) (hs.below hb) H0.out).mono ?_
      rintro e V ⟨A_r, c_r, rfl, ho_r, hV⟩
      have hl6 : (cntL xs d).length = 6 := cntL_len xs d
      rw [hl6] at ho_r ⊢
      obtain ⟨g, rfl⟩ := ho_r.form (by omega)
      have d0 := ho_r.int (k := j) hj6
      rw [cntL_nth hj6] at d0
      have hbV := bl_trans hb hV
      clear hs
      by_cases hc : cnt xs (j : Int) d < need
      · have hp := Lib.hid (lapse_hit (c := cnt xs (j : Int)) hlt hc)
        go_wp2
        go_ret2
        exact ⟨ret_ib (by rw [Hz.out, hg.out, hp.out]; rfl) (by rw [Hz.out, hg.out, hp.out]; rfl), hbV⟩
      · have hp := Lib.hid (lapse_step (c := cnt xs (j : Int)) hlt hc)
        go_wp2
        go_roundw
        case rel => exact ⟨d + 1, by omega, by omega, rfl, hg.out.trans hp.out, hbV⟩
        case measure => simp [intOf]; omega
    · obtain rfl : d = 20001 := by omega
      have hp := Lib.hid (lapse_end (c := cnt xs (j : Int)) (need := need))
      go_wp2
      go_ret2
      exact ⟨ret_ib (by rw [Hz.out, hg.out, hp.out]; rfl) (by rw [Hz.out, hg.out, hp.out]; rfl), hb⟩

end Go.Proofs.Ytiekmpbdlncgdaa
