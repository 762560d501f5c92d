/-
  Several texts in one. No conditions.
-/
import Derived.Test.YtpdblmcflniomaaGreatDoorIv21
import Derived.Test.YtpdblmcflniomaaGreatDoorIv23
import Derived.Test.YtpdblmcflniomaaGreatDoorIv16
import Derived.Test.YtpdblmcflniomaaGreatDoorIv20
import Derived.Test.YtpdblmcflniomaaGreatDoorIv17
import Derived.StillTailTactics
import Derived.Test.YtpdblmcflniomaaGreatDoorIv15
namespace Go.Proofs.YtpdblmcflniomaaGreatDoor
open Go.RowKit

set_option maxRecDepth 100000 in
set_option maxHeartbeats 4000000 in
theorem specCommit_any (xs : List Incident) (number : Int) (nm : ByteArray) (A : Option Addr) (n c : Nat) (w : World) (hz : nm.size ≤ maxLen) (hn : n ≤ 1048576) (hc : n ≤ c) (hs : Sl w A n xs) (hv : ∀ x, x ∈ xs → ∀ y, y ∈ x.Names → y.size ≤ maxLen) (hin : ∀ x, x ∈ xs → x.Names.length ≤ 1048576) :
    Calls Tryz.prog 73 #[.slice A n c, .int .i64 number, .string nm] w (RetOwnX2 incidentN w 32 9 (cmF xs number nm)) := by
  have HV := Lib.hid hv
  have HIN := Lib.hid hin
  have HL := Lib.hid hs.1
  have hn' : (n : Int) ≤ 9223372036854775807 := by omega
  clear hv hin
  go_enter Tryz.func73, Tryz.ntmps73
  have hk0 := bl_refl w
  go_wp2_with fail
  refine (ixAsked_any xs number nm _ _ _ _ hz hn hc hs HV.out).mono ?_
  rintro e V1 ⟨rfl, hb1⟩
  have hB1 := bl_trans (a := w) (bl_refl _) hb1
  have hk1 := bl_trans hk0 hB1
  have z1 := Lib.hid hB1.size
  cases h0 : askB xs number nm
  · have Hz := Lib.hid (cmF_no (xs := xs) (number := number) (s := nm) (by simp only [askB] at h0; cases e1 : incsB xs <;> cases e2 : nameB nm <;> cases e3 : decide (0 ≤ openI xs number) <;> simp_all))
    clear h0
    go_wp2
    go_ret2
    exact retOwnX2_nil (by decide) Hz.out hk1
  have H0 := Lib.hid (askB_yes h0)
  clear h0
  go_wp2_with fail
  refine (ixOf_any xs nm _ _ _ _ hn' (hs.below hk1)).mono ?_
  rintro e V2 ⟨rfl, hb2⟩
  have hB2 := bl_trans (a := V1) (bl_refl _) hb2
  have hk2 := bl_trans hk1 hB2
  have z2 := Lib.hid hB2.size
  clear hk1
  obtain ⟨q, hq⟩ : ∃ q, q = atB xs nm := ⟨_, rfl⟩
  rw [← hq]
  by_cases h9 : q < 0
  rotate_left
  · have hd2 : decide (q ≥ 0) = true := by simp; omega
    have Hz := Lib.hid (cmF_no (xs := xs) (number := number) (s := nm) (by rw [← hq, decide_eq_false h9]; simp))
    clear hq h9
    go_wp2
    go_ret2
    exact retOwnX2_nil (by decide) Hz.out hk2
  have hd2 : decide (q ≥ 0) = false := by simp; omega
  have HA : Hid (atB xs nm < 0) := by rw [Hid, ← hq]; exact h9
  clear hq h9
  have hge := indexF_range (isO number) xs
  have hge0 : 0 ≤ openI xs number := H0.out.2.1
  go_wp2_with fail
  refine (ixFind_any xs number _ _ _ _ hn' (hs.below hk2)).mono ?_
  rintro e V3 ⟨rfl, hb3⟩
  have hB3 := bl_trans (a := V2) (bl_refl _) hb3
  have hk3 := bl_trans hk2 hB3
  have z3 := Lib.hid hB3.size
  clear hk2
  obtain ⟨i, hi⟩ : ∃ i, i = openI xs number := ⟨_, rfl⟩
  have hge2 : i < xs.length := by rw [hi]; exact hge.2
  rw [← hi] at hge0 ⊢
  have hi' := Lib.hid hi
  clear hi hge
  obtain ⟨j, rfl⟩ := Int.eq_ofNat_of_zero_le hge0
  have hjn : j < n := by have := HL.out; omega
  have hjx : j < xs.length := by omega
  clear hge2 hge0
  have HGd := Lib.hid (commit_good H0.out.1 H0.out.2.2 hi'.out.symm (at_none HA.out))
  have hno : nm ∉ (nth xs j).Names := at_none HA.out j hjx
  have HX := Lib.hid hjx
  clear hjx
  go_wp2_with fail
  refine (ixAdd_any xs j nm _ _ _ _ hn (hs.below hk3) HIN.out hjn hno).mono ?_
  rintro e V4 ⟨A_c, c_c, F_c, rfl, ho_c, hb4⟩
  have hB4 := bl_trans (a := V3) (bl_refl _) hb4
  have hk4 := bl_trans hk3 hB4
  have z4 := Lib.hid hB4.size
  clear hk3
  obtain ⟨ps, hp, _, hop⟩ := ho_c
  have HOP := Lib.hid (hop.mono (b := w.heap.size) (by have := z1.out; have := z2.out; have := z3.out; have := z4.out; omega))
  have hsl := hop.sl
  rw [hp] at hsl
  have hcc := hop.out.cap.1
  have hlx : xs.length ≤ 1048576 := by rw [HL.out]; exact hn
  rw [List.length_set] at hsl hcc
  clear hop hs hno
  go_wp2_with fail
  refine (ixIf_any (xs.set j (adX (nth xs j) nm)) _ _ _ _ _ (by omega) hcc hsl (hv_ad HV.out hz HX.out) HGd.out).mono ?_
  rintro e V9 ⟨rfl, hb9⟩
  have hbk := bl_trans hk4 hb9
  have HO9 := Lib.hid (HOP.out.below hb9)
  clear hsl hcc hb9
  try rw [Hid, List.length_set] at HO9
  cases h8 : decide ((nth xs j).Names.length < 12)
  · have Hz := Lib.hid (cmF_no (xs := xs) (number := number) (s := nm) (by rw [hi'.out.symm]; show (_ && decide ((nth xs j).Names.length < 12)) = false; rw [h8]; simp))
    clear h8 HO9 hlx
    go_wp2
    go_ret2
    exact retOwnX2_nil (by decide) Hz.out hbk
  have Hz := Lib.hid (cmF_yes H0.out.1 H0.out.2.2 hi'.out.symm HA.out (of_decide_eq_true h8))
  clear h8 hlx
  go_wp2
  go_ret2
  exact retOwnX2_mk Hz.out hp HO9 hbk

end Go.Proofs.YtpdblmcflniomaaGreatDoor

namespace Go.Proofs.YtpdblmcflniomaaGreatDoor
open Go.RowKit

set_option maxRecDepth 100000 in
set_option maxHeartbeats 4000000 in
theorem ixClose_any (xs : List Incident) (j : Nat) (A : Option Addr) (n c : Nat) (w : World) (hn : n ≤ 1048576) (hs : Sl w A n xs) (hin : ∀ x, x ∈ xs → x.Names.length ≤ 1048576) (hj : j < n) :
    Calls Tryz.prog 46 #[.slice A n c, .int .i64 j] w (RetOwnX incidentN w 32 9 (xs.set j (clX (nth xs j)))) := by
  have HIN := Lib.hid hin
  have HL := Lib.hid hs.1
  clear hin
  go_enter Tryz.func46, Tryz.ntmps46
  have hk0 := bl_refl w
  go_wp2_with fail
  refine (ixOwn_any xs _ _ _ _ hn hs HIN.out).mono ?_
  rintro e V1 ⟨A_c, c_c, F_c, rfl, ho_c, hb1⟩
  have hB1 := bl_trans (a := w) (bl_refl _) hb1
  have hk1 := bl_trans hk0 hB1
  have z1 := Lib.hid hB1.size
  have hjx : j < xs.length := by rw [HL.out]; exact hj
  obtain ⟨ps, hp, _, hop⟩ := ho_c
  obtain ⟨g, rfl⟩ := hop.out.form (by omega : 0 < xs.length)
  have hjl : j < ps.length := by rw [hop.len]; exact hjx
  obtain ⟨p, hpq⟩ : ∃ p, ps[j]? = some p := ⟨_, List.getElem?_eq_getElem hjl⟩
  have he : nth (ps.map Prod.fst) j = p.1 := nth_get (by rw [List.getElem?_map, hpq]; rfl)
  have hx : Hid (nth xs j = incidentN.of p.1 p.2) := nth_get (by rw [← hp]; unfold Nest.plain; rw [List.getElem?_map, hpq]; rfl)
  obtain ⟨b, o, A', c', rfl, hbz, c0, c1, c2, c3, _, _⟩ := (hs.below hk1).incident hj
  have hjc : xs.length ≤ c_c := hop.out.cap.1
  have hjI : (j : Int) < xs.length := by omega
  have hjN : (j : Int) < n := by omega
  have hj0 : (0 : Int) ≤ j := by omega
  have HW := Lib.hid hk1
  clear hs c2 c3
  go_wp2_with fail
  go_still_tail 14, (by kernel_rfl)
  change wpList _ _ _ _ _ V1.drew
  obtain ⟨V2, hV2⟩ : ∃ U, U = V1.drew := ⟨_, rfl⟩
  rw [← hV2]
  have hd2 : Below V1.heap.size V1 V2 := by rw [hV2]; exact bl_drew (bl_refl _)
  clear hV2
  have hop := hop.below hd2
  have HW2 := Lib.hid (bl_trans HW.out hd2)
  have d0 : V2.cell? ⟨g, j * 4, none⟩ = some (.int .i64 (nth (ps.map Prod.fst) j).Number) := hop.out.cellAt hjx 0 _ rfl
  have d1 : V2.cell? ⟨g, j * 4 + 1, none⟩ = some (.int .i64 (nth (ps.map Prod.fst) j).Node) := hop.out.cellAt hjx 1 _ rfl
  have d2 : V2.cell? ⟨g, j * 4 + 2, none⟩ = some (.bool (nth (ps.map Prod.fst) j).Closed) := hop.out.cellAt hjx 2 _ rfl
  have d3 : V2.cell? ⟨g, j * 4 + 3, none⟩ = some (.slice (nth (ps.map Prod.fst) j).A (nth (ps.map Prod.fst) j).n (nth (ps.map Prod.fst) j).c) := hop.out.cellAt hjx 3 _ rfl
  have f0 := hop.out.frozenAt (j * 4)
  have f1 := hop.out.frozenAt (j * 4 + 1)
  have f2 := hop.out.frozenAt (j * 4 + 2)
  have f3 := hop.out.frozenAt (j * 4 + 3)
  have HOP := Lib.hid (hop.mono (b := w.heap.size) (by have := z1.out; omega))
  have hgz := (hop.out.lt g rfl).1
  clear hop
  go_wp2
  go_ret
  refine retOwnX_mk ?_ (HOP.out.upd (p' := ((⟨(nth xs j).Number, (nth xs j).Node, true, none, 0, 0⟩ : IncidentR), ([] : List ByteArray))) hpq (HOP.out.out.put hjx (⟨(nth xs j).Number, (nth xs j).Node, true, none, 0, 0⟩ : IncidentR)) (Own.nil _ _ _) (fun x hx => absurd hx (by simp [incidentN, Value.ownBlock])) ?_) ?_
  · unfold Nest.plain at hp ⊢; rw [List.map_set, hp]; rfl
  · repeat' (first | exact OnlyF.refl _ _ | refine OnlyF.set ?_ List.mem_cons_self _)
  · repeat' (first | exact HW2.out | refine bl_set ?_ (by have := (HOP.out.out.lt g rfl).1; simp only []; omega) _)
set_option maxRecDepth 100000 in
set_option maxHeartbeats 4000000 in
theorem specCloseIncident_any (xs : List Incident) (number : Int) (A : Option Addr) (n c : Nat) (w : World) (hn : n ≤ 1048576) (hc : n ≤ c) (hs : Sl w A n xs) (hv : ∀ x, x ∈ xs → ∀ y, y ∈ x.Names → y.size ≤ maxLen) (hin : ∀ x, x ∈ xs → x.Names.length ≤ 1048576) :
    Calls Tryz.prog 12 #[.slice A n c, .int .i64 number] w (RetOwnX2 incidentN w 32 9 (clF xs number)) := by
  have HV := Lib.hid hv
  have HIN := Lib.hid hin
  have HL := Lib.hid hs.1
  have hn' : (n : Int) ≤ 9223372036854775807 := by omega
  clear hv hin
  go_enter Tryz.func12, Tryz.ntmps12
  have hk0 := bl_refl w
  go_wp2_with fail
  refine (ixGood_any xs _ _ _ _ hn' hc hs HV.out).mono ?_
  rintro e V1 ⟨rfl, hb1⟩
  have hB1 := bl_trans (a := w) (bl_refl _) hb1
  have hk1 := bl_trans hk0 hB1
  have z1 := Lib.hid hB1.size
  cases h0 : incsB xs
  · have Hz := Lib.hid (clF_no (xs := xs) (number := number) (by rw [h0]; first | done | simp))
    clear h0
    go_wp2
    go_ret2
    exact retOwnX2_nil (by decide) Hz.out hk1
  have H0 := Lib.hid h0
  clear h0
  go_wp2_with fail
  refine (ixFind_any xs number _ _ _ _ hn' (hs.below hk1)).mono ?_
  rintro e V2 ⟨rfl, hb2⟩
  have hB2 := bl_trans (a := V1) (bl_refl _) hb2
  have hk2 := bl_trans hk1 hB2
  have z2 := Lib.hid hB2.size
  clear hk1
  have hge := indexF_range (isO number) xs
  obtain ⟨i, hi⟩ : ∃ i, i = openI xs number := ⟨_, rfl⟩
  have hge2 : -1 ≤ i ∧ i < xs.length := by rw [hi]; exact hge
  rw [← hi]
  have hi' := Lib.hid hi
  clear hi hge
  by_cases h8 : i < 0
  · have hd : decide (i < 0) = true := by simpa using h8
    have Hz := Lib.hid (clF_no (xs := xs) (number := number) (by rw [← hi'.out, decide_eq_false (by omega : ¬ 0 ≤ i)]; simp))
    go_wp2
    go_ret2
    exact retOwnX2_nil (by decide) Hz.out hk2
  have hd : decide (i < 0) = false := by simpa using h8
  obtain ⟨j, rfl⟩ := Int.eq_ofNat_of_zero_le (by omega : 0 ≤ i)
  have hjn : j < n := by have := HL.out; omega
  have Hz := Lib.hid (clF_yes H0.out hi'.out.symm)
  clear hge2 h8
  go_wp2_with fail
  refine (ixFind_any xs number _ _ _ _ hn' (hs.below hk2)).mono ?_
  rintro e V3 ⟨rfl, hb3⟩
  have hB3 := bl_trans (a := V2) (bl_refl _) hb3
  have hk3 := bl_trans hk2 hB3
  have z3 := Lib.hid hB3.size
  clear hk2
  rw [← hi'.out]
  go_wp2_with fail
  refine (ixClose_any xs j _ _ _ _ hn (hs.below hk3) HIN.out hjn).mono ?_
  rintro e V4 ⟨A_c, c_c, F_c, rfl, ho_c, hb4⟩
  have hB4 := bl_trans (a := V3) (bl_refl _) hb4
  have hk4 := bl_trans hk3 hB4
  have z4 := Lib.hid hB4.size
  clear hk3
  obtain ⟨ps, hp, _, hop⟩ := ho_c
  have HOP := Lib.hid (hop.mono (b := w.heap.size) (by have := z1.out; have := z2.out; have := z3.out; have := z4.out; omega))
  clear hop hs
  try rw [Hid, List.length_set] at HOP
  go_wp2
  go_ret2
  exact retOwnX2_mk Hz.out hp HOP hk4

end Go.Proofs.YtpdblmcflniomaaGreatDoor

namespace Go.Proofs.YtpdblmcflniomaaGreatDoor
open Go.RowKit

def opE (xs : List Incident) (node : Int) : List Incident × Int × Bool := if (decide (xs.length < 8) && decide (newN xs ≤ 999)) then (xs ++ [newX xs node], newN xs, true) else ([], 0, false)
theorem opE_no {xs : List Incident} {node : Int} (h : (decide (xs.length < 8) && decide (newN xs ≤ 999)) = false) : opE xs node = ([], 0, false) := by unfold opE; rw [if_neg (by rw [h]; exact Bool.false_ne_true)]
theorem opE_yes {xs : List Incident} {node : Int} (h : (decide (xs.length < 8) && decide (newN xs ≤ 999)) = true) : opE xs node = (xs ++ [newX xs node], newN xs, true) := by unfold opE; rw [if_pos h]
theorem opF_E {xs : List Incident} {node : Int} (h : incsB xs = true) (h1 : inB node 0 13 = true) : opF xs node = opE xs node := by unfold opF opE; rw [h, h1]; rfl
theorem opF_0 {xs : List Incident} {node : Int} (h : (incsB xs && inB node 0 13) = false) : opF xs node = ([], 0, false) := opF_no (by rw [h]; rfl)

end Go.Proofs.YtpdblmcflniomaaGreatDoor
