/-
  Commit: the reference's answer. No conditions.
-/
import Derived.Test.YtkgjbijkjlmomaaIcE0
import Derived.Test.YtkgjbijkjlmomaaIcB
import Derived.Test.YtkgjbijkjlmomaaIcLen
import Derived.Test.YtkgjbijkjlmomaaIcO
namespace Go.Proofs.Ytkgjbijkjlmomaa
open Go.RowKit

set_option maxRecDepth 100000 in
set_option maxHeartbeats 4000000 in
theorem specCommit_any (xs : List Incident) (number : Int) (nm : ByteArray) (A : Option Addr) (n c : Nat) (w : World) (hz : nm.size ≤ maxLen) (hn : n ≤ 1048576) (hc : n ≤ c) (hs : Sl w A n xs) (hv : ∀ x, x ∈ xs → ∀ y, y ∈ x.Names → y.size ≤ maxLen) (hin : ∀ x, x ∈ xs → x.Names.length ≤ 1048576) :
    Calls Try.prog 21 #[.slice A n c, .int .i64 number, .string nm] w (RetOwnX2 incidentN w 56 9 (cmF xs number nm)) := by
  have HV := Lib.hid hv
  have HIN := Lib.hid hin
  have HL := Lib.hid hs.1
  have hn' : (n : Int) ≤ 9223372036854775807 := by omega
  clear hv hin
  go_enter Try.func21, Try.ntmps21
  have hk0 := bl_refl w
  go_wp2_with fail
  refine (ixAsked_any xs number nm _ _ _ _ hz hn hc hs HV.out).mono ?_
  rintro e V1 ⟨rfl, hb1⟩
  have hB1 := bl_trans (a := w) (bl_refl _) hb1
  have hk1 := bl_trans hk0 hB1
  have z1 := Lib.hid hB1.size
  cases h0 : askB xs number nm
  · have Hz := Lib.hid (cmF_no (xs := xs) (number := number) (s := nm) (by simp only [askB] at h0; cases e1 : incsB xs <;> cases e2 : nameB nm <;> cases e3 : decide (0 ≤ openI xs number) <;> simp_all))
    clear h0
    go_wp2
    go_ret2
    exact retOwnX2_nil (by decide) Hz.out hk1
  have H0 := Lib.hid (askB_yes h0)
  clear h0
  go_wp2_with fail
  refine (ixOf_any xs nm _ _ _ _ hn' (hs.below hk1)).mono ?_
  rintro e V2 ⟨rfl, hb2⟩
  have hB2 := bl_trans (a := V1) (bl_refl _) hb2
  have hk2 := bl_trans hk1 hB2
  have z2 := Lib.hid hB2.size
  clear hk1
  obtain ⟨q, hq⟩ : ∃ q, q = atB xs nm := ⟨_, rfl⟩
  rw [← hq]
  by_cases h9 : q < 0
  rotate_left
  · have hd2 : decide (q ≥ 0) = true := by simp; omega
    have Hz := Lib.hid (cmF_no (xs := xs) (number := number) (s := nm) (by rw [← hq, decide_eq_false h9]; simp))
    clear hq h9
    go_wp2
    go_ret2
    exact retOwnX2_nil (by decide) Hz.out hk2
  have hd2 : decide (q ≥ 0) = false := by simp; omega
  have HA : Hid (atB xs nm < 0) := by rw [Hid, ← hq]; exact h9
  clear hq h9
  have hge := indexF_range (isO number) xs
  have hge0 : 0 ≤ openI xs number := H0.out.2.1
  go_wp2_with fail
  refine (ixFind_any xs number _ _ _ _ hn' (hs.below hk2)).mono ?_
  rintro e V3 ⟨rfl, hb3⟩
  have hB3 := bl_trans (a := V2) (bl_refl _) hb3
  have hk3 := bl_trans hk2 hB3
  have z3 := Lib.hid hB3.size
  clear hk2
  obtain ⟨i, hi⟩ : ∃ i, i = openI xs number := ⟨_, rfl⟩
  have hge2 : i < xs.length := by rw [hi]; exact hge.2
  rw [← hi] at hge0 ⊢
  have hi' := Lib.hid hi
  clear hi hge
  obtain ⟨j, rfl⟩ := Int.eq_ofNat_of_zero_le hge0
  have hjn : j < n := by have := HL.out; omega
  have hjx : j < xs.length := by omega
  clear hge2 hge0
  have HGd := Lib.hid (commit_good H0.out.1 H0.out.2.2 hi'.out.symm (at_none HA.out))
  have hno : nm ∉ (nth xs j).Names := at_none HA.out j hjx
  have HX := Lib.hid hjx
  clear hjx
  go_wp2_with fail
  refine (ixAdd_any xs j nm _ _ _ _ hn (hs.below hk3) HIN.out hjn hno).mono ?_
  rintro e V4 ⟨A_c, c_c, F_c, rfl, ho_c, hb4⟩
  have hB4 := bl_trans (a := V3) (bl_refl _) hb4
  have hk4 := bl_trans hk3 hB4
  have z4 := Lib.hid hB4.size
  clear hk3
  obtain ⟨ps, hp, _, hop⟩ := ho_c
  have HOP := Lib.hid (hop.mono (b := w.heap.size) (by have := z1.out; have := z2.out; have := z3.out; have := z4.out; omega))
  have hsl := hop.sl
  rw [hp] at hsl
  have hcc := hop.out.cap.1
  have hlx : xs.length ≤ 1048576 := by rw [HL.out]; exact hn
  rw [List.length_set] at hsl hcc
  clear hop hs hno
  go_wp2_with fail
  refine (ixIf_any (xs.set j (adX (nth xs j) nm)) _ _ _ _ _ (by omega) hcc hsl (hv_ad HV.out hz HX.out) HGd.out).mono ?_
  rintro e V9 ⟨rfl, hb9⟩
  have hbk := bl_trans hk4 hb9
  have HO9 := Lib.hid (HOP.out.below hb9)
  clear hsl hcc hb9
  try rw [Hid, List.length_set] at HO9
  cases h8 : decide ((nth xs j).Names.length < 12)
  · have Hz := Lib.hid (cmF_no (xs := xs) (number := number) (s := nm) (by rw [hi'.out.symm]; show (_ && decide ((nth xs j).Names.length < 12)) = false; rw [h8]; simp))
    clear h8 HO9 hlx
    go_wp2
    go_ret2
    exact retOwnX2_nil (by decide) Hz.out hbk
  have Hz := Lib.hid (cmF_yes H0.out.1 H0.out.2.2 hi'.out.symm HA.out (of_decide_eq_true h8))
  clear h8 hlx
  go_wp2
  go_ret2
  exact retOwnX2_mk Hz.out hp HO9 hbk

end Go.Proofs.Ytkgjbijkjlmomaa
