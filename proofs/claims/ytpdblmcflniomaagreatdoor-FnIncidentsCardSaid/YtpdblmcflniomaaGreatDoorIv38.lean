/-
  Several texts in one. No conditions.
-/
import Derived.Test.YtpdblmcflniomaaGreatDoorIv24
import Derived.Test.YtpdblmcflniomaaGreatDoorIv20
import Derived.Test.YtpdblmcflniomaaGreatDoorIv7
import Derived.Test.YtpdblmcflniomaaGreatDoorIv36
namespace Go.Proofs.YtpdblmcflniomaaGreatDoor
open Go.RowKit

set_option maxRecDepth 100000 in
set_option maxHeartbeats 4000000 in
theorem openIncident_pos (xs : List Incident) (A : Option Addr) (n c : Nat) (w : World) (hn : n ≤ 1048576) (_hc : n ≤ c) (hs : Sl w A n xs) (hin : ∀ x, x ∈ xs → x.Names.length ≤ 1048576) (node : Int) (hvi : Vi xs) (h0 : 0 < n) :
    Calls Tryz.prog 37 #[.slice A n c, .int .i64 node] w (RetOwnX3 incidentN w 32 9 (opE xs node)) := by
  have HIN := Lib.hid hin
  have HL := Lib.hid hs.1
  have hr := newN_range hvi
  have hxn : xs.length ≤ 1048576 := by rw [HL.out]; exact hn
  have hl8 : n ≤ 8 := by have := hvi.len; have := HL.out; omega
  clear hin
  obtain ⟨b, o, A', c', rfl, hbz, c0, c1, c2, c3, _, _⟩ := hs.incident (k := n - 1) (by omega)
  have hN : newN xs = (nth xs (n - 1)).Number + 1 := by unfold newN; rw [if_pos (by rw [HL.out]; exact h0), HL.out]
  have hkd : decide ((n : Int) > 0) = true := by simpa using h0
  have i1 : IntKind.i64.wrap ((n : Int) - 1) = (n : Int) - 1 := IntWalk.i64_in _ (by omega)
  have i3 : ((n : Int) - 1).toNat = n - 1 := by omega
  have i2 : 0 ≤ (n : Int) - 1 := by omega
  have i4 : (n : Int) - 1 < n := by omega
  have i5 : IntKind.i64.wrap ((nth xs (n - 1)).Number + 1) = (nth xs (n - 1)).Number + 1 := IntWalk.i64_in _ (by omega)
  clear c1 c2 c3
  have HN := Lib.hid hN
  clear hN
  obtain ⟨m, hm⟩ : ∃ m, m = newN xs := ⟨_, rfl⟩
  have hr : 1 ≤ m ∧ m ≤ 1000 := by rw [hm]; exact hr
  have Hm := Lib.hid hm
  clear hm
  by_cases h8 : n < 8 ∧ m ≤ 999
  · skip
    have hv8 : (decide (xs.length < 8) && decide (newN xs ≤ 999)) = true := by rw [HL.out, ← Hm.out]; rw [decide_eq_true h8.1, decide_eq_true h8.2]; rfl
    have e8 : ((n : Int) == 8) = false := by simp; omega
    have e9 : decide (((nth xs (n - 1)).Number + 1) > 999) = false := by first | rfl | (simp; have := HN.out; have := Hm.out; omega)
    have Hv8 := Lib.hid hv8
    clear hv8 hr
    go_enter Tryz.func37, Tryz.ntmps37
    have hk0 := bl_refl w
    go_wp2_with fail
    refine (copyIncidents_any xs _ _ _ _ hn hs HIN.out).mono ?_
    rintro e V1 ⟨A_c, c_c, F_c, rfl, ho_c, hb1⟩
    have hB1 := bl_trans (a := w) (bl_refl _) hb1
    have hk1 := bl_trans hk0 hB1
    have z1 := Lib.hid hB1.size
    obtain ⟨ps, hp, _, hop⟩ := ho_c
    have hop := Lib.hid hop
    have hB := hk1
    clear hs c0
    go_wp2_with ((at_builtin; refine wpList_app1g rfl (.tmp 27) (.tmp 31) _ _ rfl el_inc (⟨((nth xs (n - 1)).Number + 1), node, false, none, 0, 0⟩ : IncidentR) rfl hop.out.out hB rfl (by simp) (by omega) ?_; intro A2 c2 w2 ho2 hb2 hg2))
    go_ret3
    rw [← HN.out] at ho2
    have hsn := hop.out.snoc (r := (⟨newN xs, node, false, none, 0, 0⟩ : IncidentR)) (l := ([] : List ByteArray)) (m := xs.length + 1) ho2 (Own.nil _ _ _) ((OnlyF.alloc (OnlyF.refl _ _) _).trans (OnlyF.of_gb hg2)) (fun x hx => absurd hx (by simp [incidentN, Value.ownBlock]))
    rw [← HN.out]
    refine retOwnX3_mk (opE_yes (node := node) Hv8.out) ?_ hsn hb2
    unfold Nest.plain at hp ⊢; rw [List.map_append, hp]; rfl
  · skip
    have hv8 : (decide (xs.length < 8) && decide (newN xs ≤ 999)) = false := by rw [HL.out, ← Hm.out]; rw [Bool.and_eq_false_iff]; simp only [decide_eq_false_iff_not]; omega
    by_cases h9 : n = 8
    · have e8 : ((n : Int) == 8) = true := by simp; omega
      clear hr h9 h8 hl8
      go_enter Tryz.func37, Tryz.ntmps37
      have hk0 := bl_refl w
      go_wp2
      go_ret3
      exact retOwnX3_nil (by decide) (opE_no hv8) (bl_refl _)
    have e8 : ((n : Int) == 8) = false := by simp; omega
    have e9 : decide (((nth xs (n - 1)).Number + 1) > 999) = true := by simp; have := HN.out; have := Hm.out; omega
    clear hr h8 h9 hl8
    go_enter Tryz.func37, Tryz.ntmps37
    have hk0 := bl_refl w
    go_wp2
    go_ret3
    exact retOwnX3_nil (by decide) (opE_no hv8) (bl_refl _)
set_option maxRecDepth 100000 in
set_option maxHeartbeats 4000000 in
theorem openIncident_zero (xs : List Incident) (A : Option Addr) (n c : Nat) (w : World) (hn : n ≤ 1048576) (_hc : n ≤ c) (hs : Sl w A n xs) (hin : ∀ x, x ∈ xs → x.Names.length ≤ 1048576) (node : Int) (hvi : Vi xs) (h0 : ¬ 0 < n) :
    Calls Tryz.prog 37 #[.slice A n c, .int .i64 node] w (RetOwnX3 incidentN w 32 9 (opE xs node)) := by
  have HIN := Lib.hid hin
  have HL := Lib.hid hs.1
  have hr := newN_range hvi
  have hxn : xs.length ≤ 1048576 := by rw [HL.out]; exact hn
  have hl8 : n ≤ 8 := by have := hvi.len; have := HL.out; omega
  clear hin
  have hN : newN xs = 1 := by unfold newN; rw [if_neg (by rw [HL.out]; exact h0)]
  have hkd : decide ((n : Int) > 0) = false := by simp; omega
  have HN := Lib.hid hN
  clear hN
  obtain ⟨m, hm⟩ : ∃ m, m = newN xs := ⟨_, rfl⟩
  have hr : 1 ≤ m ∧ m ≤ 1000 := by rw [hm]; exact hr
  have Hm := Lib.hid hm
  clear hm
  have h8 : n < 8 ∧ m ≤ 999 := by have := HN.out; have := Hm.out; omega
  · skip
    have hv8 : (decide (xs.length < 8) && decide (newN xs ≤ 999)) = true := by rw [HL.out, ← Hm.out]; rw [decide_eq_true h8.1, decide_eq_true h8.2]; rfl
    have e8 : ((n : Int) == 8) = false := by simp; omega
    have e9 : decide ((1 : Int) > 999) = false := by first | rfl | (simp; have := HN.out; have := Hm.out; omega)
    have Hv8 := Lib.hid hv8
    clear hv8 hr
    go_enter Tryz.func37, Tryz.ntmps37
    have hk0 := bl_refl w
    go_wp2_with fail
    refine (copyIncidents_any xs _ _ _ _ hn hs HIN.out).mono ?_
    rintro e V1 ⟨A_c, c_c, F_c, rfl, ho_c, hb1⟩
    have hB1 := bl_trans (a := w) (bl_refl _) hb1
    have hk1 := bl_trans hk0 hB1
    have z1 := Lib.hid hB1.size
    obtain ⟨ps, hp, _, hop⟩ := ho_c
    have hop := Lib.hid hop
    have hB := hk1
    clear hs
    go_wp2_with ((at_builtin; refine wpList_app1g rfl (.tmp 27) (.tmp 31) _ _ rfl el_inc (⟨(1 : Int), node, false, none, 0, 0⟩ : IncidentR) rfl hop.out.out hB rfl (by simp) (by omega) ?_; intro A2 c2 w2 ho2 hb2 hg2))
    go_ret3
    rw [← HN.out] at ho2
    have hsn := hop.out.snoc (r := (⟨newN xs, node, false, none, 0, 0⟩ : IncidentR)) (l := ([] : List ByteArray)) (m := xs.length + 1) ho2 (Own.nil _ _ _) ((OnlyF.alloc (OnlyF.refl _ _) _).trans (OnlyF.of_gb hg2)) (fun x hx => absurd hx (by simp [incidentN, Value.ownBlock]))
    rw [← HN.out]
    refine retOwnX3_mk (opE_yes (node := node) Hv8.out) ?_ hsn hb2
    unfold Nest.plain at hp ⊢; rw [List.map_append, hp]; rfl
theorem openIncident_any (xs : List Incident) (A : Option Addr) (n c : Nat) (w : World) (hn : n ≤ 1048576) (hc : n ≤ c) (hs : Sl w A n xs) (hin : ∀ x, x ∈ xs → x.Names.length ≤ 1048576) (node : Int) (hvi : Vi xs) :
    Calls Tryz.prog 37 #[.slice A n c, .int .i64 node] w (RetOwnX3 incidentN w 32 9 (opE xs node)) := by
  by_cases h0 : 0 < n
  · exact openIncident_pos xs A n c w hn hc hs hin node hvi h0
  · exact openIncident_zero xs A n c w hn hc hs hin node hvi h0
set_option maxRecDepth 100000 in
set_option maxHeartbeats 4000000 in
theorem implOpenIncident_any (xs : List Incident) (node : Int) (A : Option Addr) (n c : Nat) (w : World) (hn : n ≤ 1048576) (hc : n ≤ c) (hs : Sl w A n xs) (hv : ∀ x, x ∈ xs → ∀ y, y ∈ x.Names → y.size ≤ maxLen) (hin : ∀ x, x ∈ xs → x.Names.length ≤ 1048576) :
    Calls Tryz.prog 6 #[.slice A n c, .int .i64 node] w (RetOwnX3 incidentN w 32 9 (opF xs node)) := by
  have HV := Lib.hid hv
  have HIN := Lib.hid hin
  have HL := Lib.hid hs.1
  have hn' : (n : Int) ≤ 9223372036854775807 := by omega
  clear hv hin
  go_enter Tryz.func6, Tryz.ntmps6
  have hk0 := bl_refl w
  go_wp2_with fail
  refine (areIncidents_any xs _ _ _ _ hn' hc hs HV.out).mono ?_
  rintro e V1 ⟨rfl, hb1⟩
  have hB1 := bl_trans (a := w) (bl_refl _) hb1
  have hk1 := bl_trans hk0 hB1
  have z1 := Lib.hid hB1.size
  cases h0 : incsB xs
  · have Hz := Lib.hid (opF_0 (xs := xs) (node := node) (by rw [h0]; first | done | simp))
    clear h0
    go_wp2
    go_ret3
    exact retOwnX3_nil (by decide) Hz.out hk1
  have H0 := Lib.hid h0
  clear h0
  go_wp2_with fail
  refine (inside_any node 0 13 _).mono ?_
  rintro _ V1 ⟨rfl, rfl⟩
  cases h1 : inB node 0 13
  · have Hz := Lib.hid (opF_0 (xs := xs) (node := node) (by rw [h1]; first | done | simp))
    clear h1
    go_wp2
    go_ret3
    exact retOwnX3_nil (by decide) Hz.out hk1
  have H1 := Lib.hid h1
  clear h1
  have HE := Lib.hid (opF_E H0.out H1.out)
  go_wp2_with fail
  refine (openIncident_any xs _ _ _ _ hn hc (hs.below hk1) HIN.out node (incs_iff.1 H0.out)).mono ?_
  rintro e V2 ⟨A_c, c_c, F_c, rfl, ho_c, hb2⟩
  have hB2 := bl_trans (a := V1) (bl_refl _) hb2
  have hk2 := bl_trans hk1 hB2
  have z2 := Lib.hid hB2.size
  clear hk1
  have HOX := Lib.hid (ho_c.mono (b := w.heap.size) (by have := z1.out; have := z2.out; omega))
  clear ho_c hs
  go_wp2
  go_ret3
  show RetOwnX3 _ _ _ _ _ _ _
  rw [HE.out]
  exact ⟨A_c, c_c, F_c, rfl, HOX.out, hk2⟩

end Go.Proofs.YtpdblmcflniomaaGreatDoor

namespace Go.Proofs.YtpdblmcflniomaaGreatDoor
open Go.RowKit

set_option maxHeartbeats 1000000 in
theorem apFind_any (fs : List Appliance) (s : ByteArray) (A : Option Addr) (n c : Nat) (w : World) (hn : (n : Int) ≤ 9223372036854775807) (hs : Sl w A n fs) :
    Calls Tryz.prog 55 #[.slice A n c, .string s] w fun e w' => e = .returned (.int .i64 (apF fs s)) ∧ Below w.heap.size w w' := by
  have HL := Lib.hid hs.1
  go_enter Tryz.func55, Tryz.ntmps55
  go_wp2
  go_loopw [9] (fun i wr => ∃ k : Nat, k ≤ n ∧ i = .int .i64 k ∧ Below w.heap.size w wr ∧ Hid (∀ j, j < k → ((nth fs j).Name.toList == s.toList) = false)) (fun i _ => n - (intOf i).toNat)
  case atStart => exact ⟨0, Nat.zero_le _, rfl, bl_refl _, fun j hj => absurd hj (by omega)⟩
  case round =>
    obtain ⟨k, hk, rfl, hb, hg⟩ := hrel
    by_cases hlt : k < n
    · obtain ⟨b, o, rfl, _, c0, c1, c2, c3, c4⟩ := (hs.below hb).appliance hlt
      have hkx : Hid (k < fs.length) := by rw [Hid, HL.out]; exact hlt
      clear hs
      cases h0 : ((nth fs k).Name.toList == s.toList)
      · have H0 := Lib.hid h0
        go_wp2
        go_roundw
        case rel => exact ⟨k + 1, by omega, by go_num, bl_alloc hb _, upto_succ hg H0.out⟩
        case measure => simp [intOf]; omega
      · have H0 := Lib.hid h0
        go_wp2
        go_ret
        exact ⟨ret_i64 (indexF_hit (p := fun a : Appliance => a.Name.toList == s.toList) hkx.out H0.out hg.out).symm, bl_alloc hb _⟩
    · obtain rfl : k = n := by omega
      go_wp2
      go_ret
      exact ⟨ret_i64 (indexF_none (p := fun a : Appliance => a.Name.toList == s.toList) (by rw [HL.out]; exact hg.out)).symm, hb⟩
def ApplianceVal (x : Appliance) : Value := .agg #[.string x.Name, .int .i64 x.Kind, .int .i64 x.Node, .int .i64 x.Crew, .int .i64 x.State]
set_option maxHeartbeats 1000000 in
theorem indexFunc_appliance (xs : List Appliance) (A : Option Addr) (n c : Nat) (g : FuncId) (caps : Array Value) (p : Appliance → Bool) (w : World) (hn : (n : Int) ≤ 9223372036854775807) (hs : Sl w A n xs) (hen : Enters Tryz.prog g) (F : List Nat) (hp : Pred Tryz.prog w F xs g ApplianceVal caps p) :
    Calls Tryz.prog 86 #[.slice A n c, .func (.func g) #[] caps] w fun e w' => e = .returned (.int .i64 (indexF p xs)) ∧ Below w.heap.size w w' := by
  have HL := Lib.hid hs.1
  have HP := Lib.hid hp
  clear hp
  have hcf : ∀ (args : Array Value) (W : World), (callFunc g args).run Tryz.prog W = .ok (.enter g args) W := hen
  clear hen
  go_enter Tryz.func86, Tryz.ntmps86
  go_wp2
  go_loopw [8] (fun i wr => ∃ k : Nat, k ≤ n ∧ i = .int .i64 k ∧ Below w.heap.size w wr ∧ Hid (∀ j, j < k → p (nth xs j) = false)) (fun i _ => n - (intOf i).toNat)
  case atStart => exact ⟨0, Nat.zero_le _, rfl, bl_refl _, fun j hj => absurd hj (by omega)⟩
  case round =>
    obtain ⟨k, hk, rfl, hb, hg⟩ := hrel
    by_cases hlt : k < n
    · obtain ⟨b, o, rfl, _, c0, c1, c2, c3, c4⟩ := (hs.below hb).appliance hlt
      clear hs
      go_wp2_with fail
      refine (HP.out _ (nth xs k) (nth_mem (by rw [HL.out]; exact hlt)) (.below hb)).mono ?_
      rintro e V ⟨rfl, hV⟩
      have hbV := bl_trans hb hV
      clear c0 c1 c2 c3 c4
      cases hpk : p (nth xs k)
      · have hpk' := Lib.hid hpk
        clear hpk
        go_wp2
        go_roundw
        case rel => exact ⟨k + 1, by omega, by go_num, hbV, upto_succ hg hpk'.out⟩
        case measure => simp [intOf]; omega
      · have hpk' := Lib.hid hpk
        clear hpk
        go_wp2
        go_ret
        exact ⟨ret_i64 (indexF_hit (by rw [HL.out]; exact hlt) hpk'.out hg).symm, hbV⟩
    · obtain rfl : k = n := by omega
      go_wp2
      go_ret
      exact ⟨ret_i64 (indexF_none (by rw [HL.out]; exact hg)).symm, hb⟩
theorem enters_fA : Enters Tryz.prog 87 := enters_of Tryz.func87 (by kernel_rfl) (by kernel_rfl)
theorem pred_fA (w : World) (Bk : Nat) (s : ByteArray) (ha : w.cell? ⟨Bk, 0, none⟩ = some (.string s)) (fs : List Appliance) : Pred Tryz.prog w [] fs 87 ApplianceVal #[.pointer (some ⟨Bk, 0, none⟩)] (fun a => a.Name.toList == s.toList) := by
  intro W x _ hof
  have ha' := hof.keeps ha (fun hm => by cases hm)
  have hz : Bk < W.heap.size := World.block_lt_of_cell? W _ ha'
  clear ha hof
  show Calls _ _ #[ApplianceVal x, .pointer (some ⟨Bk, 0, none⟩)] W _
  unfold ApplianceVal
  go_enter Tryz.func87, Tryz.ntmps87
  go_wp2
  go_ret
  exact ⟨rfl, bl_alloc (bl_refl _) _⟩
theorem findAppliance_any (fs : List Appliance) (s : ByteArray) (A : Option Addr) (n c : Nat) (w : World) (hn : (n : Int) ≤ 9223372036854775807) (hs : Sl w A n fs) :
    Calls Tryz.prog 53 #[.slice A n c, .string s] w fun e w' => e = .returned (.int .i64 (apF fs s)) ∧ Below w.heap.size w w' := by
  go_enter Tryz.func53, Tryz.ntmps53
  go_wp2_with fail
  refine (indexFunc_appliance fs _ _ _ _ _ _ _ hn (hs.below (bl_alloc (bl_refl _) _)) enters_fA [] (pred_fA _ w.heap.size s (by go_simp) fs)).mono ?_
  rintro e V ⟨rfl, hV⟩
  go_wp2
  go_ret
  exact ⟨rfl, bl_trans (bl_alloc (bl_refl w) (.cells #[.string s] 9)) hV⟩

end Go.Proofs.YtpdblmcflniomaaGreatDoor

namespace Go.Proofs.YtpdblmcflniomaaGreatDoor
open Go.RowKit

set_option maxRecDepth 100000 in
set_option maxHeartbeats 8000000 in
theorem implUnknownNames_any (xs : List Incident) (fs : List Appliance) (A B : Option Addr) (n c m d : Nat) (w : World) (hn : (n : Int) ≤ 9223372036854775807) (hm : (m : Int) ≤ 9223372036854775807) (hc : n ≤ c) (hs : Sl w A n xs) (ht : Sl w B m fs) (hv : ∀ x, x ∈ xs → ∀ y, y ∈ x.Names → y.size ≤ maxLen) (hv2 : ∀ x, x ∈ fs → x.Name.size ≤ maxLen) :
    Calls Tryz.prog 20 #[.slice A n c, .slice B m d] w (RetOwn2 w 9 (unF xs fs)) := by
  have HV := Lib.hid hv
  have HV2 := Lib.hid hv2
  have HL := Lib.hid hs.1
  clear hv hv2
  go_enter Tryz.func20, Tryz.ntmps20
  have hk0 := bl_refl w
  go_wp2_with fail
  refine (areIncidents_any xs _ _ _ _ hn hc hs HV.out).mono ?_
  rintro e V1 ⟨rfl, hb1⟩
  have hB1 := bl_trans (a := w) (bl_refl _) hb1
  have hk1 := bl_trans hk0 hB1
  have z1 := Lib.hid hB1.size
  cases h0 : incsB xs
  · have Hz := Lib.hid (unF_no (xs := xs) (fs := fs) (by rw [h0]; first | done | simp))
    clear h0
    go_wp2
    go_ret2
    exact retOwn2_mk Hz.out (Own.nil _ _ _) hk1
  have H0 := Lib.hid h0
  clear h0
  go_wp2_with fail
  refine (isFleet_any fs _ _ _ _ hm (ht.below hk1) HV2.out).mono ?_
  rintro e V2 ⟨rfl, hb2⟩
  have hB2 := bl_trans (a := V1) (bl_refl _) hb2
  have hk2 := bl_trans hk1 hB2
  have z2 := Lib.hid hB2.size
  clear hk1
  cases h1 : fleetB fs
  · have Hz := Lib.hid (unF_no (xs := xs) (fs := fs) (by rw [h1]; first | done | simp))
    clear h1
    go_wp2
    go_ret2
    exact retOwn2_mk Hz.out (Own.nil _ _ _) hk2
  have H1 := Lib.hid h1
  clear h1
  have Hz := Lib.hid (unF_yes H0.out H1.out)
  have HVI := Lib.hid (incs_iff.1 H0.out)
  have HS := Lib.hid hs
  have HT := Lib.hid ht
  clear hs ht
  go_wp2
  go_loopw [6, 21] (fun v iv wr => ∃ (k q c' : Nat) (A' : Option Addr), k ≤ n ∧ iv = .int .i64 k ∧ v = .slice A' q c' ∧ q ≤ 200 ∧ Own wr w.heap.size 9 (.slice A' q c') (unU xs fs (k) (0)) ∧ Below w.heap.size w wr) (fun _ iv _ => n - (intOf iv).toNat)
  case atStart => exact ⟨0, 0, 0, none, Nat.zero_le _, rfl, rfl, Nat.zero_le _, by rw [unU_start]; exact Own.nil _ _ _, hk2⟩
  case round =>
    obtain ⟨k, q0, c0', A0', hk, rfl, rfl, hq0, ho0, hb0⟩ := hrel
    by_cases hlt : k < n
    · obtain ⟨b, o, A2, c2, rfl, hbz, c0, c1, c2', c3, hi, hil⟩ := HS.out.incident hlt
      have c0 := cell_later hb0 c0
      have c1 := cell_later hb0 c1
      have c2' := cell_later hb0 c2'
      have c3 := cell_later hb0 c3
      have hbz := World.block_lt_of_cell? _ _ c0
      have hkx : k < xs.length := by rw [HL.out]; exact hlt
      have hnl : (nth xs k).Names.length ≤ 12 := vi_names HVI.out _ (nth_mem hkx)
      have Hi := Lib.hid hi
      have HHB := Lib.hid hb0
      have HHO := Lib.hid ho0
      obtain ⟨wo, hwo⟩ : ∃ W, W = wr := ⟨_, rfl⟩
      subst hwo
      clear hi hil hb0 ho0
      go_wp2
      go_loopw [6, 28] (fun v iv wr => ∃ (j q c' : Nat) (A' : Option Addr), j ≤ (nth xs k).Names.length ∧ iv = .int .i64 j ∧ v = .slice A' q c' ∧ q ≤ 200 ∧ Own wr w.heap.size 9 (.slice A' q c') (unU xs fs (k) (j)) ∧ Below w.heap.size w wr) (fun _ iv _ => (nth xs k).Names.length - (intOf iv).toNat)
      case atStart => exact ⟨0, q0, c0', A0', Nat.zero_le _, rfl, rfl, hq0, HHO.out.alloc _, bl_alloc HHB.out _⟩
      case round =>
        obtain ⟨j, q, c', A', hj, rfl, rfl, hq, ho, hbj⟩ := hrel
        clear c0 c1 c2' c3
        by_cases hj2 : j < (nth xs k).Names.length
        · obtain ⟨b3, o3, rfl, hz3, n0⟩ := (Hi.out.below hbj).str hj2
          obtain ⟨s, hs0⟩ : ∃ s, s = nth (nth xs k).Names j := ⟨_, rfl⟩
          rw [← hs0] at n0
          have HS0 := Lib.hid hs0
          have hs0' := Lib.hid hs0.symm
          clear hs0
          have hbwj := hbj
          go_wp2_with fail
          refine (findAppliance_any fs s _ _ _ _ hm (HT.out.below hbwj)).mono ?_
          rintro e V ⟨rfl, hV⟩
          have hoV := ho.below hV
          have HBW := Lib.hid (bl_trans hbwj hV)
          have e3 := cell_later hV n0
          have hcq := hoV.cap
          obtain ⟨t, ht0⟩ : ∃ t, t = apF fs s := ⟨_, rfl⟩
          rw [← ht0]
          clear ho n0 hV hbwj
          by_cases hap0 : t < 0
          · have hap : apF fs s < 0 := by rw [← ht0]; exact hap0
            have hd : decide (t < 0) = true := by simpa using hap0
            clear ht0
            have hyes := Lib.hid (unU_yes (fs := fs) hj2 (by rw [← HS0.out]; exact hap))
            go_wp2_with ((at_builtin; refine wpList_app1g rfl (.tmp 36) (.tmp 38) _ _ rfl el_str s rfl hoV HBW.out rfl (by simp) (by omega) ?_; intro A3 c3 w2 ho2 hb2 hg2))
            go_roundw
            case rel => exact ⟨j + 1, q + 1, c3, A3, by omega, by go_num, rfl, by have := ho2.sl.1; rw [List.length_append] at this; have h9 := unU_len (fs := fs) (j := j + 1) HVI.out hkx; rw [hyes.out, List.length_append, hs0'.out] at h9; omega, by rw [hyes.out, hs0'.out]; exact ho2, hb2⟩
            case measure => simp [intOf]; omega
          · have hno := Lib.hid (unU_no (fs := fs) hj2 (by rw [← HS0.out, ← ht0]; exact hap0))
            have hd : decide (t < 0) = false := by simpa using hap0
            clear ht0
            go_wp2
            go_roundw
            case rel => exact ⟨j + 1, q, c', A', by omega, by go_num, rfl, hq, by rw [hno.out]; exact hoV, HBW.out⟩
            case measure => simp [intOf]; omega
        · obtain rfl : j = (nth xs k).Names.length := by omega
          have hnx := Lib.hid (unU_next (fs := fs) hkx)
          have hbw := hbj
          go_wp2
          go_roundw
          case rel => exact ⟨k + 1, q, c', A', by omega, by go_num, rfl, hq, by rw [← hnx.out]; exact ho, hbw⟩
          case measure => simp [intOf]; omega
    · obtain rfl : k = n := by omega
      have hfin := Lib.hid (unU_end (fs := fs) (k := k) (by rw [HL.out]; exact Nat.le_refl _))
      rw [hfin.out] at ho0
      go_wp2_with fail
      refine (sortS_any (unkL xs fs) _ _ _ w.heap.size _ (by omega) ho0).mono ?_
      rintro e V9 ⟨rfl, ho9, hg9⟩
      have hbk := below_only hb0 (OnlyF.of_gb hg9) (fun y hy => ho0.lt y (by simpa using hy)) (Nat.le_refl _)
      rw [sortL_adL (unk_props HVI.out).1] at ho9
      clear hg9 ho0 hb0
      go_wp2
      go_ret2
      exact retOwn2_mk Hz.out ho9 hbk

end Go.Proofs.YtpdblmcflniomaaGreatDoor
