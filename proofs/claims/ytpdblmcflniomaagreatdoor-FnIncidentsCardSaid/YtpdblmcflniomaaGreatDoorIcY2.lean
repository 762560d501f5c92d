/-
  OpenIncident: the reference's answer. No conditions.
-/
import Derived.Test.YtpdblmcflniomaaGreatDoorIv21
import Derived.Test.YtpdblmcflniomaaGreatDoorIv24
import Derived.Test.YtpdblmcflniomaaGreatDoorIv20
import Derived.Test.YtpdblmcflniomaaGreatDoorIv17
namespace Go.Proofs.YtpdblmcflniomaaGreatDoor
open Go.RowKit

theorem hvn_new {xs : List Incident} {node : Int} (hv : ∀ x, x ∈ xs → ∀ y, y ∈ x.Names → y.size ≤ maxLen) : ∀ x, x ∈ xs ++ [newX xs node] → ∀ y, y ∈ x.Names → y.size ≤ maxLen := fun x hx => by
  rcases List.mem_append.1 hx with hx | hx
  · exact hv x hx
  · rw [List.mem_singleton.1 hx]; intro y hy; cases hy
set_option maxRecDepth 100000 in
set_option maxHeartbeats 4000000 in
theorem specOpenIncident_pos (xs : List Incident) (node : Int) (A : Option Addr) (n c : Nat) (w : World) (hn : n ≤ 1048576) (hc : n ≤ c) (hs : Sl w A n xs) (hv : ∀ x, x ∈ xs → ∀ y, y ∈ x.Names → y.size ≤ maxLen) (hin : ∀ x, x ∈ xs → x.Names.length ≤ 1048576) (h0 : 0 < n) :
    Calls Tryz.prog 7 #[.slice A n c, .int .i64 node] w (RetOwnX3 incidentN w 32 9 (opF xs node)) := by
  have HV := Lib.hid hv
  have HIN := Lib.hid hin
  have HL := Lib.hid hs.1
  have hn' : (n : Int) ≤ 9223372036854775807 := by omega
  clear hv hin
  have hxn : xs.length ≤ 1048576 := by rw [HL.out]; exact hn
  have hkd : decide ((n : Int) > 0) = true := by simpa using h0
  have i1 : IntKind.i64.wrap ((n : Int) - 1) = (n : Int) - 1 := IntWalk.i64_in _ (by omega)
  have i3 : ((n : Int) - 1).toNat = n - 1 := by omega
  have i2 : 0 ≤ (n : Int) - 1 := by omega
  have i4 : (n : Int) - 1 < n := by omega
  have Hi1 := Lib.hid i1
  clear i1
  go_enter Tryz.func7, Tryz.ntmps7
  have hk0 := bl_refl w
  go_wp2_with fail
  refine (ixGood_any xs _ _ _ _ hn' hc hs HV.out).mono ?_
  rintro e V1 ⟨rfl, hb1⟩
  have hB1 := bl_trans (a := w) (bl_refl _) hb1
  have hk1 := bl_trans hk0 hB1
  have z1 := Lib.hid hB1.size
  cases h0 : incsB xs
  · have Hz := Lib.hid (opF_0 (xs := xs) (node := node) (by rw [h0]; first | done | simp))
    clear h0
    go_wp2
    go_ret3
    exact retOwnX3_nil (by decide) Hz.out hk1
  have H0 := Lib.hid h0
  clear h0
  go_wp2_with fail
  refine (apNode_any node _).mono ?_
  rintro _ V1 ⟨rfl, rfl⟩
  cases h1 : inB node 0 13
  · have Hz := Lib.hid (opF_0 (xs := xs) (node := node) (by rw [h1]; first | done | simp))
    clear h1
    go_wp2
    go_ret3
    exact retOwnX3_nil (by decide) Hz.out hk1
  have H1 := Lib.hid h1
  clear h1
  have HE := Lib.hid (opF_E H0.out H1.out)
  have hvi := incs_iff.1 H0.out
  have HGd := Lib.hid (open_good hvi H1.out)
  obtain ⟨b, o, A', c', rfl, hbz, c0, c1, c2, c3, _, _⟩ := (hs.below hk1).incident (k := n - 1) (by omega)
  have hN : newN xs = (nth xs (n - 1)).Number + 1 := by unfold newN; rw [if_pos (by rw [HL.out]; exact h0), HL.out]
  have hnb := incB_num (hvi.one (n - 1) (by rw [HL.out]; omega))
  have i1 := Hi1.out
  have i5 : IntKind.i64.wrap ((nth xs (n - 1)).Number + 1) = (nth xs (n - 1)).Number + 1 := IntWalk.i64_in _ (by omega)
  have HN := Lib.hid hN
  clear c1 c2 c3 hN hvi hnb
  go_wp2_with fail
  refine (ixOwn_any xs _ _ _ _ hn (hs.below hk1) HIN.out).mono ?_
  rintro e V2 ⟨A_c, c_c, F_c, rfl, ho_c, hb2⟩
  have hB2 := bl_trans (a := V1) (bl_refl _) hb2
  have hk2 := bl_trans hk1 hB2
  have z2 := Lib.hid hB2.size
  clear hk1
  obtain ⟨ps, hp, _, hop⟩ := ho_c
  have Hop := Lib.hid (hop.mono (b := w.heap.size) (by have := z1.out; have := z2.out; omega))
  have hB := hk2
  clear hs hop c0
  go_wp2_with ((at_builtin; refine wpList_app1g rfl (.tmp 32) (.tmp 36) _ _ rfl el_inc (⟨((nth xs (n - 1)).Number + 1), node, false, none, 0, 0⟩ : IncidentR) rfl Hop.out.out hB rfl (by simp) (by omega) ?_; intro A2 c2 w2 ho2 hb2 hg2))
  rw [← HN.out] at ho2
  have hsn := Hop.out.snoc (r := (⟨newN xs, node, false, none, 0, 0⟩ : IncidentR)) (l := ([] : List ByteArray)) (m := xs.length + 1) ho2 (Own.nil _ _ _) ((OnlyF.alloc (OnlyF.refl _ _) _).trans (OnlyF.of_gb hg2)) (fun x hx => absurd hx (by simp [incidentN, Value.ownBlock]))
  have hpl : incidentN.plain (ps ++ [((⟨newN xs, node, false, none, 0, 0⟩ : IncidentR), ([] : List ByteArray))]) = xs ++ [newX xs node] := by unfold Nest.plain at hp ⊢; rw [List.map_append, hp]; rfl
  have hs2 : Sl w2 A2 (xs.length + 1) (xs ++ [newX xs node]) := by rw [← hpl]; exact hsn.sl
  have hc2 := hsn.out.cap.1
  refine (ixIf_any (xs ++ [newX xs node]) _ _ _ _ _ (by omega) hc2 hs2 (hvn_new HV.out) HGd.out).mono ?_
  rintro e V9 ⟨rfl, hb9⟩
  have Hsn := Lib.hid (hsn.below hb9)
  have hbb := bl_trans hb2 hb9
  clear hs2 hsn ho2 hg2 hb9
  cases h8 : (decide (xs.length < 8) && decide (newN xs ≤ 999))
  · have H8 := Lib.hid h8
    clear h8
    go_wp2
    go_ret3
    exact retOwnX3_nil (by decide) (HE.out.trans (opE_no H8.out)) hbb
  · have H8 := Lib.hid h8
    clear h8
    go_wp2
    go_ret3
    rw [← HN.out]
    exact retOwnX3_mk (HE.out.trans (opE_yes H8.out)) hpl Hsn.out hbb
set_option maxRecDepth 100000 in
set_option maxHeartbeats 4000000 in
theorem specOpenIncident_zero (xs : List Incident) (node : Int) (A : Option Addr) (n c : Nat) (w : World) (hn : n ≤ 1048576) (hc : n ≤ c) (hs : Sl w A n xs) (hv : ∀ x, x ∈ xs → ∀ y, y ∈ x.Names → y.size ≤ maxLen) (hin : ∀ x, x ∈ xs → x.Names.length ≤ 1048576) (h0 : ¬ 0 < n) :
    Calls Tryz.prog 7 #[.slice A n c, .int .i64 node] w (RetOwnX3 incidentN w 32 9 (opF xs node)) := by
  have HV := Lib.hid hv
  have HIN := Lib.hid hin
  have HL := Lib.hid hs.1
  have hn' : (n : Int) ≤ 9223372036854775807 := by omega
  clear hv hin
  have hxn : xs.length ≤ 1048576 := by rw [HL.out]; exact hn
  have hkd : decide ((n : Int) > 0) = false := by simp; omega
  go_enter Tryz.func7, Tryz.ntmps7
  have hk0 := bl_refl w
  go_wp2_with fail
  refine (ixGood_any xs _ _ _ _ hn' hc hs HV.out).mono ?_
  rintro e V1 ⟨rfl, hb1⟩
  have hB1 := bl_trans (a := w) (bl_refl _) hb1
  have hk1 := bl_trans hk0 hB1
  have z1 := Lib.hid hB1.size
  cases h0 : incsB xs
  · have Hz := Lib.hid (opF_0 (xs := xs) (node := node) (by rw [h0]; first | done | simp))
    clear h0
    go_wp2
    go_ret3
    exact retOwnX3_nil (by decide) Hz.out hk1
  have H0 := Lib.hid h0
  clear h0
  go_wp2_with fail
  refine (apNode_any node _).mono ?_
  rintro _ V1 ⟨rfl, rfl⟩
  cases h1 : inB node 0 13
  · have Hz := Lib.hid (opF_0 (xs := xs) (node := node) (by rw [h1]; first | done | simp))
    clear h1
    go_wp2
    go_ret3
    exact retOwnX3_nil (by decide) Hz.out hk1
  have H1 := Lib.hid h1
  clear h1
  have HE := Lib.hid (opF_E H0.out H1.out)
  have hvi := incs_iff.1 H0.out
  have HGd := Lib.hid (open_good hvi H1.out)
  have hN : newN xs = 1 := by unfold newN; rw [if_neg (by rw [HL.out]; exact h0)]
  have HN := Lib.hid hN
  clear hN hvi
  go_wp2_with fail
  refine (ixOwn_any xs _ _ _ _ hn (hs.below hk1) HIN.out).mono ?_
  rintro e V2 ⟨A_c, c_c, F_c, rfl, ho_c, hb2⟩
  have hB2 := bl_trans (a := V1) (bl_refl _) hb2
  have hk2 := bl_trans hk1 hB2
  have z2 := Lib.hid hB2.size
  clear hk1
  obtain ⟨ps, hp, _, hop⟩ := ho_c
  have Hop := Lib.hid (hop.mono (b := w.heap.size) (by have := z1.out; have := z2.out; omega))
  have hB := hk2
  clear hs hop
  go_wp2_with ((at_builtin; refine wpList_app1g rfl (.tmp 32) (.tmp 36) _ _ rfl el_inc (⟨(1 : Int), node, false, none, 0, 0⟩ : IncidentR) rfl Hop.out.out hB rfl (by simp) (by omega) ?_; intro A2 c2 w2 ho2 hb2 hg2))
  rw [← HN.out] at ho2
  have hsn := Hop.out.snoc (r := (⟨newN xs, node, false, none, 0, 0⟩ : IncidentR)) (l := ([] : List ByteArray)) (m := xs.length + 1) ho2 (Own.nil _ _ _) ((OnlyF.alloc (OnlyF.refl _ _) _).trans (OnlyF.of_gb hg2)) (fun x hx => absurd hx (by simp [incidentN, Value.ownBlock]))
  have hpl : incidentN.plain (ps ++ [((⟨newN xs, node, false, none, 0, 0⟩ : IncidentR), ([] : List ByteArray))]) = xs ++ [newX xs node] := by unfold Nest.plain at hp ⊢; rw [List.map_append, hp]; rfl
  have hs2 : Sl w2 A2 (xs.length + 1) (xs ++ [newX xs node]) := by rw [← hpl]; exact hsn.sl
  have hc2 := hsn.out.cap.1
  refine (ixIf_any (xs ++ [newX xs node]) _ _ _ _ _ (by omega) hc2 hs2 (hvn_new HV.out) HGd.out).mono ?_
  rintro e V9 ⟨rfl, hb9⟩
  have Hsn := Lib.hid (hsn.below hb9)
  have hbb := bl_trans hb2 hb9
  clear hs2 hsn ho2 hg2 hb9
  cases h8 : (decide (xs.length < 8) && decide (newN xs ≤ 999))
  · have H8 := Lib.hid h8
    clear h8
    go_wp2
    go_ret3
    exact retOwnX3_nil (by decide) (HE.out.trans (opE_no H8.out)) hbb
  · have H8 := Lib.hid h8
    clear h8
    go_wp2
    go_ret3
    rw [← HN.out]
    exact retOwnX3_mk (HE.out.trans ((opE_yes H8.out).trans (by rw [HN.out]))) (hpl.trans rfl) Hsn.out hbb
set_option maxRecDepth 100000 in
set_option maxHeartbeats 4000000 in
theorem specOpenIncident_any (xs : List Incident) (node : Int) (A : Option Addr) (n c : Nat) (w : World) (hn : n ≤ 1048576) (hc : n ≤ c) (hs : Sl w A n xs) (hv : ∀ x, x ∈ xs → ∀ y, y ∈ x.Names → y.size ≤ maxLen) (hin : ∀ x, x ∈ xs → x.Names.length ≤ 1048576) :
    Calls Tryz.prog 7 #[.slice A n c, .int .i64 node] w (RetOwnX3 incidentN w 32 9 (opF xs node)) := by
  by_cases h0 : 0 < n
  · exact specOpenIncident_pos xs node A n c w hn hc hs hv hin h0
  · exact specOpenIncident_zero xs node A n c w hn hc hs hv hin h0

end Go.Proofs.YtpdblmcflniomaaGreatDoor
