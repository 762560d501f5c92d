/-
  Transfer: the reference's answer. No conditions.
-/
import Derived.Test.YtkgjbijkjlmomaaIcR2
import Derived.Test.YtkgjbijkjlmomaaIcB
import Derived.Test.YtkgjbijkjlmomaaIcG0
import Derived.Test.YtkgjbijkjlmomaaIcO
import Derived.Test.YtkgjbijkjlmomaaIcG4
namespace Go.Proofs.Ytkgjbijkjlmomaa
open Go.RowKit

set_option maxRecDepth 100000 in
set_option maxHeartbeats 4000000 in
theorem specTransfer_any (xs : List Incident) (nm : ByteArray) (number : Int) (A : Option Addr) (n c : Nat) (w : World) (hz : nm.size ≤ maxLen) (hn : n ≤ 1048576) (hc : n ≤ c) (hs : Sl w A n xs) (hv : ∀ x, x ∈ xs → ∀ y, y ∈ x.Names → y.size ≤ maxLen) (hin : ∀ x, x ∈ xs → x.Names.length ≤ 1048576) :
    Calls Try.prog 23 #[.slice A n c, .string nm, .int .i64 number] w (RetOwnX2 incidentN w 56 9 (trF xs nm number)) := by
  have HV := Lib.hid hv
  have HIN := Lib.hid hin
  have HL := Lib.hid hs.1
  have hn' : (n : Int) ≤ 9223372036854775807 := by omega
  clear hv hin
  go_enter Try.func23, Try.ntmps23
  have hk0 := bl_refl w
  go_wp2_with fail
  refine (ixAsked_any xs number nm _ _ _ _ hz hn hc hs HV.out).mono ?_
  rintro e V1 ⟨rfl, hb1⟩
  have hB1 := bl_trans (a := w) (bl_refl _) hb1
  have hk1 := bl_trans hk0 hB1
  have z1 := Lib.hid hB1.size
  cases h0 : askB xs number nm
  · have Hz := Lib.hid (trF_no (xs := xs) (number := number) (s := nm) (by simp only [askB] at h0; unfold trC; cases e1 : incsB xs <;> cases e2 : nameB nm <;> cases e3 : decide (0 ≤ openI xs number) <;> simp_all))
    clear h0
    go_wp2
    go_ret2
    exact retOwnX2_nil (by decide) Hz.out hk1
  have H0 := Lib.hid (askB_yes h0)
  clear h0
  go_wp2_with fail
  refine (ixOf_any xs nm _ _ _ _ hn' (hs.below hk1)).mono ?_
  rintro e V2 ⟨rfl, hb2⟩
  have hB2 := bl_trans (a := V1) (bl_refl _) hb2
  have hk2 := bl_trans hk1 hB2
  have z2 := Lib.hid hB2.size
  clear hk1
  obtain ⟨q, hq⟩ : ∃ q, q = atB xs nm := ⟨_, rfl⟩
  rw [← hq]
  have HQ := Lib.hid hq
  have hqr : q < xs.length := by rw [hq]; exact (indexF_range (fun y : Incident => hasS y.Names nm) xs).2
  clear hq
  by_cases h9 : q < 0
  · have hd2 : decide (q < 0) = true := by simpa using h9
    have Hz := Lib.hid (trF_no (xs := xs) (number := number) (s := nm) (by unfold trC; rw [← HQ.out, decide_eq_false (by omega : ¬ 0 ≤ q)]; simp))
    clear h9
    go_wp2
    go_ret2
    exact retOwnX2_nil (by decide) Hz.out hk2
  have hd2 : decide (q < 0) = false := by simpa using h9
  obtain ⟨bq, rfl⟩ := Int.eq_ofNat_of_zero_le (by omega : 0 ≤ q)
  have hbx : bq < xs.length := by omega
  have hbn : bq < n := by have := HL.out; omega
  clear h9 hqr
  go_wp2_with fail
  refine (ixOf_any xs nm _ _ _ _ hn' (hs.below hk2)).mono ?_
  rintro e V3 ⟨rfl, hb3⟩
  have hB3 := bl_trans (a := V2) (bl_refl _) hb3
  have hk3 := bl_trans hk2 hB3
  have z3 := Lib.hid hB3.size
  clear hk2
  rw [← HQ.out]
  have hge := indexF_range (isO number) xs
  have hge0 : 0 ≤ openI xs number := H0.out.2.1
  go_wp2_with fail
  refine (ixFind_any xs number _ _ _ _ hn' (hs.below hk3)).mono ?_
  rintro e V4 ⟨rfl, hb4⟩
  have hB4 := bl_trans (a := V3) (bl_refl _) hb4
  have hk4 := bl_trans hk3 hB4
  have z4 := Lib.hid hB4.size
  clear hk3
  obtain ⟨i, hi⟩ : ∃ i, i = openI xs number := ⟨_, rfl⟩
  have hge2 : i < xs.length := by rw [hi]; exact hge.2
  rw [← hi] at hge0 ⊢
  have hi' := Lib.hid hi
  clear hi hge
  obtain ⟨j, rfl⟩ := Int.eq_ofNat_of_zero_le hge0
  have hjn : j < n := by have := HL.out; omega
  have hjx : j < xs.length := by omega
  clear hge2 hge0
  by_cases h7 : bq = j
  · have hd4 : ((bq : Int) == (j : Int)) = true := by simp [h7]
    have Hz := Lib.hid (trF_no (xs := xs) (number := number) (s := nm) (by unfold trC; rw [← HQ.out, ← hi'.out, decide_eq_true (by omega : (bq : Int) = (j : Int))]; simp))
    clear h7
    go_wp2
    go_ret2
    exact retOwnX2_nil (by decide) Hz.out hk4
  have hd4 : ((bq : Int) == (j : Int)) = false := by simp; omega
  have H7 := Lib.hid h7
  clear h7
  have hv := incs_iff.1 H0.out.1
  have hsb := (at_some HQ.out.symm).2
  have hoa := open_at hi'.out.symm
  have HGd := Lib.hid (tr_good hv H0.out.2.2 hjx hoa.2.2 hbx hsb H7.out)
  have hno : nm ∉ (nth (rlL xs bq nm) j).Names := (rlL_vi hv hbx hsb).2 j (by rw [rlL_len]; exact hjx)
  have HNO := Lib.hid hno
  have hin2 : ∀ x, x ∈ rlL xs bq nm → x.Names.length ≤ 1048576 := fun x hx => by
    have := set_names (vi_names hv) (Nat.le_trans (List.length_filter_le _ _) (vi_names hv _ (nth_mem hbx)) : (rlX (nth xs bq) nm).Names.length ≤ 12) x hx
    omega
  have HIN2 := Lib.hid hin2
  clear hv hsb hoa hno hin2
  go_wp2_with fail
  refine (ixOf_any xs nm _ _ _ _ hn' (hs.below hk4)).mono ?_
  rintro e V5 ⟨rfl, hb5⟩
  have hB5 := bl_trans (a := V4) (bl_refl _) hb5
  have hk5 := bl_trans hk4 hB5
  have z5 := Lib.hid hB5.size
  clear hk4
  rw [← HQ.out]
  go_wp2_with fail
  refine (ixDrop_any xs bq nm _ _ _ _ hn (hs.below hk5) HIN.out hbn).mono ?_
  rintro e V6 ⟨A_c, c_c, F_c, rfl, ho_c, hb6⟩
  have hB6 := bl_trans (a := V5) (bl_refl _) hb6
  have hk6 := bl_trans hk5 hB6
  have z6 := Lib.hid hB6.size
  clear hk5
  obtain ⟨ps, hp, _, hop⟩ := ho_c
  have hsl : Sl V6 A_c (xs.set bq (rlX (nth xs bq) nm)).length (rlL xs bq nm) := by have h := hop.sl; rw [hp] at h; exact h
  rw [List.length_set] at hsl
  have HSL := Lib.hid hsl
  have hcc := hop.out.cap.1
  rw [List.length_set] at hcc
  clear hop hsl
  go_wp2_with fail
  refine (ixFind_any xs number _ _ _ _ hn' (hs.below hk6)).mono ?_
  rintro e V7 ⟨rfl, hb7⟩
  have HSL2 := Lib.hid (HSL.out.below hb7)
  have hB7 := bl_trans (a := V6) (bl_refl _) hb7
  have hk7 := bl_trans hk6 hB7
  have z7 := Lib.hid hB7.size
  clear hk6
  rw [← hi'.out]
  have hxn : xs.length ≤ 1048576 := by rw [HL.out]; exact hn
  clear hs
  go_wp2_with fail
  refine (ixAdd_any (rlL xs bq nm) j nm _ _ _ _ hxn HSL2.out HIN2.out hjx HNO.out).mono ?_
  rintro e V8 ⟨A_d, c_d, F_d, rfl, ho_d, hb8⟩
  have hB8 := bl_trans (a := V7) (bl_refl _) hb8
  have hk8 := bl_trans hk7 hB8
  have z8 := Lib.hid hB8.size
  clear hk7
  obtain ⟨ps2, hp2, _, hop2⟩ := ho_d
  have HOP := Lib.hid (hop2.mono (b := w.heap.size) (by have := z1.out; have := z2.out; have := z3.out; have := z4.out; have := z5.out; have := z6.out; have := z7.out; have := z8.out; omega))
  have hsl := hop2.sl
  rw [hp2] at hsl
  have hcc2 := hop2.out.cap.1
  have hll : ((rlL xs bq nm).set j (adX (nth (rlL xs bq nm) j) nm)).length = xs.length := by rw [List.length_set, rlL_len]
  have hll2 : (rlL xs bq nm).length = xs.length := rlL_len _ _ _
  rw [hll] at hsl hcc2
  rw [Hid, hll] at HOP
  try rw [hll]
  clear hop2
  have HVT : Hid (∀ x, x ∈ trL xs nm bq j → ∀ y, y ∈ x.Names → y.size ≤ maxLen) := hv_ad (fun x hx => by
    rcases List.mem_or_eq_of_mem_set hx with hx | rfl
    · exact HV.out x hx
    · intro y hy; exact HV.out _ (nth_mem hbx) y (dropS_mem.1 hy).1) hz (by rw [rlL_len]; exact hjx)
  go_wp2_with fail
  refine (ixIf_any (trL xs nm bq j) _ _ _ _ _ (by omega) hcc2 hsl HVT.out HGd.out).mono ?_
  rintro e V9 ⟨rfl, hb9⟩
  have hbk := bl_trans hk8 hb9
  have HO9 := Lib.hid (OwnP.below HOP hb9)
  clear hsl hcc hcc2 hb9 hll hll2
  cases h8 : decide ((nth xs j).Names.length < 12)
  · have Hz := Lib.hid (trF_no (xs := xs) (number := number) (s := nm) (by unfold trC; rw [hi'.out.symm]; show (_ && decide ((nth xs j).Names.length < 12)) = false; rw [h8]; simp))
    clear h8 HO9
    go_wp2
    go_ret2
    exact retOwnX2_nil (by decide) Hz.out hbk
  have Hz := Lib.hid (trF_yes H0.out.1 H0.out.2.2 hi'.out.symm HQ.out.symm H7.out (of_decide_eq_true h8))
  clear h8
  go_wp2
  go_ret2
  exact retOwnX2_mk Hz.out hp2 HO9.out hbk

end Go.Proofs.Ytkgjbijkjlmomaa
