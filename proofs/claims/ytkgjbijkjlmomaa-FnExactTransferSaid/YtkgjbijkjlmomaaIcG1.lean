/-
  Transfer: the program's answer. No conditions.
-/
import Derived.Test.YtkgjbijkjlmomaaIcF
import Derived.Test.YtkgjbijkjlmomaaIcG0
import Derived.Test.YtkgjbijkjlmomaaIcO
namespace Go.Proofs.Ytkgjbijkjlmomaa
open Go.RowKit

set_option maxRecDepth 100000 in
set_option maxHeartbeats 4000000 in
theorem implTransfer_any (xs : List Incident) (nm : ByteArray) (number : Int) (A : Option Addr) (n c : Nat) (w : World) (hz : nm.size ≤ maxLen) (hn : n ≤ 1048576) (hc : n ≤ c) (hs : Sl w A n xs) (hv : ∀ x, x ∈ xs → ∀ y, y ∈ x.Names → y.size ≤ maxLen) (hin : ∀ x, x ∈ xs → x.Names.length ≤ 1048576) :
    Calls Try.prog 24 #[.slice A n c, .string nm, .int .i64 number] w (RetOwnX2 incidentN w 56 9 (trF xs nm number)) := by
  have HV := Lib.hid hv
  have HIN := Lib.hid hin
  have HL := Lib.hid hs.1
  have hn' : (n : Int) ≤ 9223372036854775807 := by omega
  clear hv hin
  go_enter Try.func24, Try.ntmps24
  have hk0 := bl_refl w
  go_wp2_with fail
  refine (openAt_any xs number _ _ _ _ hn' hs).mono ?_
  rintro e V1 ⟨rfl, hb1⟩
  have hB1 := bl_trans (a := w) (bl_refl _) hb1
  have hk1 := bl_trans hk0 hB1
  have z1 := Lib.hid hB1.size
  have hge := indexF_range (isO number) xs
  obtain ⟨i, hi⟩ : ∃ i, i = openI xs number := ⟨_, rfl⟩
  have hge2 : -1 ≤ i ∧ i < xs.length := by rw [hi]; exact hge
  rw [← hi]
  have hi' := Lib.hid hi
  clear hi hge
  go_wp2_with fail
  refine (areIncidents_any xs _ _ _ _ hn' hc (hs.below hk1) HV.out).mono ?_
  rintro e V2 ⟨rfl, hb2⟩
  have hB2 := bl_trans (a := V1) (bl_refl _) hb2
  have hk2 := bl_trans hk1 hB2
  have z2 := Lib.hid hB2.size
  clear hk1
  cases h0 : incsB xs
  · have Hz := Lib.hid (trF_no (xs := xs) (number := number) (s := nm) (by unfold trC; rw [h0]; simp))
    clear h0
    go_wp2
    go_ret2
    exact retOwnX2_nil (by decide) Hz.out hk2
  have H0 := Lib.hid h0
  clear h0
  by_cases h8 : i < 0
  · have hd : decide (i < 0) = true := by simpa using h8
    have Hz := Lib.hid (trF_no (xs := xs) (number := number) (s := nm) (by unfold trC; rw [← hi'.out, decide_eq_false (by omega : ¬ 0 ≤ i)]; simp))
    go_wp2
    go_ret2
    exact retOwnX2_nil (by decide) Hz.out hk2
  have hd : decide (i < 0) = false := by simpa using h8
  obtain ⟨j, rfl⟩ := Int.eq_ofNat_of_zero_le (by omega : 0 ≤ i)
  have hjx : j < xs.length := by omega
  have hjn : j < n := by have := HL.out; omega
  clear hge2 h8
  go_wp2_with fail
  refine (isName_any nm _ hz).mono ?_
  rintro e V3 ⟨rfl, hb3⟩
  have hB3 := bl_trans (a := V2) (bl_refl _) hb3
  have hk3 := bl_trans hk2 hB3
  have z3 := Lib.hid hB3.size
  clear hk2
  cases h1 : nameB nm
  · have Hz := Lib.hid (trF_no (xs := xs) (number := number) (s := nm) (by unfold trC; rw [h1]; simp))
    clear h1
    go_wp2
    go_ret2
    exact retOwnX2_nil (by decide) Hz.out hk3
  have H1 := Lib.hid h1
  clear h1
  obtain ⟨b, o, A', c', rfl, hbz, c0, c1, c2, c3, _, hil⟩ := (hs.below hk3).incident hjn
  have hv := incs_iff.1 H0.out
  have h12 : (nth xs j).Names.length ≤ 12 := vi_names hv _ (nth_mem hjx)
  have HSN : Hid (sortB (nth xs j).Names = true) := (incB_split (hv.one j hjx)).2.2.2.1
  have HVI := Lib.hid hv
  clear c0 c1 c2 hil hv
  go_wp2_with fail
  refine (committedAt_any xs nm _ _ _ _ hn' (hs.below hk3)).mono ?_
  rintro e V4 ⟨rfl, hb4⟩
  have c4 := cell_later hb4 c3
  have hbz4 := World.block_lt_of_cell? _ _ c4
  clear c3 hbz
  have hB4 := bl_trans (a := V3) (bl_refl _) hb4
  have hk4 := bl_trans hk3 hB4
  have z4 := Lib.hid hB4.size
  clear hk3
  have c3 := c4
  have hbz := hbz4
  clear c4 hbz4
  obtain ⟨q, hq⟩ : ∃ q, q = atB xs nm := ⟨_, rfl⟩
  rw [← hq]
  have HQ := Lib.hid hq
  have hqr : q < xs.length := by rw [hq]; exact (indexF_range (fun y : Incident => hasS y.Names nm) xs).2
  clear hq
  by_cases h9 : q < 0
  · have hd2 : decide (q < 0) = true := by simpa using h9
    have Hz := Lib.hid (trF_no (xs := xs) (number := number) (s := nm) (by unfold trC; rw [← HQ.out, decide_eq_false (by omega : ¬ 0 ≤ q)]; simp))
    clear h9 c3
    go_wp2
    go_ret2
    exact retOwnX2_nil (by decide) Hz.out hk4
  have hd2 : decide (q < 0) = false := by simpa using h9
  obtain ⟨bq, rfl⟩ := Int.eq_ofNat_of_zero_le (by omega : 0 ≤ q)
  have hbx : bq < xs.length := by omega
  clear h9 hqr
  go_wp2_with fail
  refine (committedAt_any xs nm _ _ _ _ hn' (hs.below hk4)).mono ?_
  rintro e V5 ⟨rfl, hb5⟩
  have c4 := cell_later hb5 c3
  have hbz4 := World.block_lt_of_cell? _ _ c4
  clear c3 hbz
  have hB5 := bl_trans (a := V4) (bl_refl _) hb5
  have hk5 := bl_trans hk4 hB5
  have z5 := Lib.hid hB5.size
  clear hk4
  have c3 := c4
  have hbz := hbz4
  clear c4 hbz4
  rw [← HQ.out]
  by_cases h7 : bq = j
  · have hd4 : ((bq : Int) == (j : Int)) = true := by simp [h7]
    have Hz := Lib.hid (trF_no (xs := xs) (number := number) (s := nm) (by unfold trC; rw [← HQ.out, ← hi'.out, decide_eq_true (by omega : (bq : Int) = (j : Int))]; simp))
    clear h7 c3
    go_wp2
    go_ret2
    exact retOwnX2_nil (by decide) Hz.out hk5
  have hd4 : ((bq : Int) == (j : Int)) = false := by simp; omega
  by_cases h6 : (nth xs j).Names.length = 12
  · have hd3 : (((nth xs j).Names.length : Int) == 12) = true := by simp [h6]
    have Hz := Lib.hid (trF_no (xs := xs) (number := number) (s := nm) (by unfold trC; rw [← hi'.out]; show (_ && decide ((nth xs j).Names.length < 12)) = false; rw [decide_eq_false (show ¬ (nth xs j).Names.length < 12 by omega)]; simp))
    clear h6 h7 h12
    go_wp2
    go_ret2
    exact retOwnX2_nil (by decide) Hz.out hk5
  have hd3 : (((nth xs j).Names.length : Int) == 12) = false := by simp; omega
  have Hz := Lib.hid (trF_yes H0.out H1.out hi'.out.symm HQ.out.symm h7 (by omega : (nth xs j).Names.length < 12))
  have H7 := Lib.hid h7
  have hxn : xs.length ≤ 1048576 := by rw [HL.out]; exact hn
  clear h7 h6
  go_wp2_with fail
  refine (copyIncidents_any xs _ _ _ _ hn (hs.below hk5) HIN.out).mono ?_
  rintro e V6 ⟨A_c, c_c, F_c, rfl, ho_c, hb6⟩
  clear c3 hbz
  have hB6 := bl_trans (a := V5) (bl_refl _) hb6
  have hk6 := bl_trans hk5 hB6
  have z6 := Lib.hid hB6.size
  clear hk5
  obtain ⟨ps, hp, _, hop⟩ := ho_c
  obtain ⟨g, rfl⟩ := hop.out.form (by omega : 0 < xs.length)
  have HOP := Lib.hid (hop.mono (b := w.heap.size) (by have := z1.out; have := z2.out; have := z3.out; have := z4.out; have := z5.out; have := z6.out; omega))
  have hjc : xs.length ≤ c_c := hop.out.cap.1
  clear hop
  go_wp2_with fail
  refine (committedAt_any xs nm _ _ _ _ hn' (hs.below hk6)).mono ?_
  rintro e V7 ⟨rfl, hb7⟩
  have HOQ := Lib.hid (HOP.out.below hb7)
  have hB7 := bl_trans (a := V6) (bl_refl _) hb7
  have hk7 := bl_trans hk6 hB7
  have z7 := Lib.hid hB7.size
  clear hk6
  rw [← HQ.out]
  have hbI : (bq : Int) < xs.length := by omega
  have hb0 : (0 : Int) ≤ bq := by omega
  have hjI : (j : Int) < xs.length := by omega
  have hj0 : (0 : Int) ≤ j := by omega
  have hnb : (nth xs bq).Names.length ≤ 1048575 := by have := vi_names HVI.out _ (nth_mem hbx); omega
  have HW := Lib.hid hk7
  clear hs
  go_wp2_with fail
  refine (removeAt_any xs bq nm ps g c_c w.heap.size _ HOQ.out hp hbx hnb).mono ?_
  rintro e V8 ⟨p8, rfl, hop8, hp8, hf8⟩
  have hk8 := below_only HW.out hf8 (fun y hy => HOQ.out.lies y hy) (by have := z1.out; have := z2.out; have := z3.out; have := z4.out; have := z5.out; have := z6.out; have := z7.out; omega)
  have hyl : (rlL xs bq nm).length = xs.length := rlL_len _ _ _
  have hyj : nth (rlL xs bq nm) j = nth xs j := rlL_at hjx H7.out
  have hp8' : incidentN.plain p8 = rlL xs bq nm := hp8
  have hop8' : OwnP incidentN V8 w.heap.size 56 9 (.slice (some ⟨g, 0, none⟩) (rlL xs bq nm).length c_c) p8 := by rw [hyl]; exact hop8
  have HC : Hid (Calls Try.prog 57 #[.pointer (some ⟨g, j * 4, none⟩), .string nm] V8 fun e w' => ∃ ps', e = .returned (.tuple #[]) ∧ OwnP incidentN w' w.heap.size 56 9 (.slice (some ⟨g, 0, none⟩) xs.length c_c) ps' ∧ incidentN.plain ps' = trL xs nm bq j ∧ OnlyF (incidentN.foot (.slice (some ⟨g, 0, none⟩) xs.length c_c) p8) V8 w') := by
    have h := addAt_any (rlL xs bq nm) j nm p8 g c_c w.heap.size V8 hop8' hp8' (by rw [hyl]; exact hjx) (by rw [hyj]; omega) (by rw [hyj]; exact HSN.out) (by have := hk8.size; omega)
    rw [hyl] at h
    exact h
  have HF := Lib.hid hop8.lies
  have HK8 := Lib.hid hk8
  clear hf8 hyl hyj hp8 hp8' hop8' hop8 hk8
  go_wp2_with fail
  refine HC.out.mono ?_
  rintro e V9 ⟨p9, rfl, hop9, hp9, hf9⟩
  have hk9 := below_only HK8.out hf9 HF.out (Nat.le_refl _)
  have HO9 := Lib.hid hop9
  clear hf9 hop9
  go_wp2
  go_ret2
  exact retOwnX2_mk Hz.out hp9 HO9.out hk9

end Go.Proofs.Ytkgjbijkjlmomaa
