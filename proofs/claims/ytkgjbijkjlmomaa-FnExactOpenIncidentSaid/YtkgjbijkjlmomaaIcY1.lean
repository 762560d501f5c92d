/-
  OpenIncident: the program's answer. No conditions.
-/
import Derived.Test.YtkgjbijkjlmomaaIcY0
import Derived.Test.YtkgjbijkjlmomaaIcC
import Derived.Test.YtkgjbijkjlmomaaIncV
namespace Go.Proofs.Ytkgjbijkjlmomaa
open Go.RowKit

set_option maxRecDepth 100000 in
set_option maxHeartbeats 4000000 in
theorem openIncident_pos (xs : List Incident) (A : Option Addr) (n c : Nat) (w : World) (hn : n ≤ 1048576) (_hc : n ≤ c) (hs : Sl w A n xs) (hin : ∀ x, x ∈ xs → x.Names.length ≤ 1048576) (node : Int) (hvi : Vi xs) (h0 : 0 < n) :
    Calls Try.prog 44 #[.slice A n c, .int .i64 node] w (RetOwnX3 incidentN w 56 9 (opE xs node)) := by
  have HIN := Lib.hid hin
  have HL := Lib.hid hs.1
  have hr := newN_range hvi
  have hxn : xs.length ≤ 1048576 := by rw [HL.out]; exact hn
  have hl8 : n ≤ 8 := by have := hvi.len; have := HL.out; omega
  clear hin
  obtain ⟨b, o, A', c', rfl, hbz, c0, c1, c2, c3, _, _⟩ := hs.incident (k := n - 1) (by omega)
  have hN : newN xs = (nth xs (n - 1)).Number + 1 := by unfold newN; rw [if_pos (by rw [HL.out]; exact h0), HL.out]
  have hkd : decide ((n : Int) > 0) = true := by simpa using h0
  have i1 : IntKind.i64.wrap ((n : Int) - 1) = (n : Int) - 1 := IntWalk.i64_in _ (by omega)
  have i3 : ((n : Int) - 1).toNat = n - 1 := by omega
  have i2 : 0 ≤ (n : Int) - 1 := by omega
  have i4 : (n : Int) - 1 < n := by omega
  have i5 : IntKind.i64.wrap ((nth xs (n - 1)).Number + 1) = (nth xs (n - 1)).Number + 1 := IntWalk.i64_in _ (by omega)
  clear c1 c2 c3
  have HN := Lib.hid hN
  clear hN
  obtain ⟨m, hm⟩ : ∃ m, m = newN xs := ⟨_, rfl⟩
  have hr : 1 ≤ m ∧ m ≤ 1000 := by rw [hm]; exact hr
  have Hm := Lib.hid hm
  clear hm
  by_cases h8 : n < 8 ∧ m ≤ 999
  · skip
    have hv8 : (decide (xs.length < 8) && decide (newN xs ≤ 999)) = true := by rw [HL.out, ← Hm.out]; rw [decide_eq_true h8.1, decide_eq_true h8.2]; rfl
    have e8 : ((n : Int) == 8) = false := by simp; omega
    have e9 : decide (((nth xs (n - 1)).Number + 1) > 999) = false := by first | rfl | (simp; have := HN.out; have := Hm.out; omega)
    have Hv8 := Lib.hid hv8
    clear hv8 hr
    go_enter Try.func44, Try.ntmps44
    have hk0 := bl_refl w
    go_wp2_with fail
    refine (copyIncidents_any xs _ _ _ _ hn hs HIN.out).mono ?_
    rintro e V1 ⟨A_c, c_c, F_c, rfl, ho_c, hb1⟩
    have hB1 := bl_trans (a := w) (bl_refl _) hb1
    have hk1 := bl_trans hk0 hB1
    have z1 := Lib.hid hB1.size
    obtain ⟨ps, hp, _, hop⟩ := ho_c
    have hop := Lib.hid hop
    have hB := hk1
    clear hs c0
    go_wp2_with ((at_builtin; refine wpList_app1g rfl (.tmp 27) (.tmp 31) _ _ rfl el_inc (⟨((nth xs (n - 1)).Number + 1), node, false, none, 0, 0⟩ : IncidentR) rfl hop.out.out hB rfl (by simp) (by omega) ?_; intro A2 c2 w2 ho2 hb2 hg2))
    go_ret3
    rw [← HN.out] at ho2
    have hsn := hop.out.snoc (r := (⟨newN xs, node, false, none, 0, 0⟩ : IncidentR)) (l := ([] : List ByteArray)) (m := xs.length + 1) ho2 (Own.nil _ _ _) ((OnlyF.alloc (OnlyF.refl _ _) _).trans (OnlyF.of_gb hg2)) (fun x hx => absurd hx (by simp [incidentN, Value.ownBlock]))
    rw [← HN.out]
    refine retOwnX3_mk (opE_yes (node := node) Hv8.out) ?_ hsn hb2
    unfold Nest.plain at hp ⊢; rw [List.map_append, hp]; rfl
  · skip
    have hv8 : (decide (xs.length < 8) && decide (newN xs ≤ 999)) = false := by rw [HL.out, ← Hm.out]; rw [Bool.and_eq_false_iff]; simp only [decide_eq_false_iff_not]; omega
    by_cases h9 : n = 8
    · have e8 : ((n : Int) == 8) = true := by simp; omega
      clear hr h9 h8 hl8
      go_enter Try.func44, Try.ntmps44
      have hk0 := bl_refl w
      go_wp2
      go_ret3
      exact retOwnX3_nil (by decide) (opE_no hv8) (bl_refl _)
    have e8 : ((n : Int) == 8) = false := by simp; omega
    have e9 : decide (((nth xs (n - 1)).Number + 1) > 999) = true := by simp; have := HN.out; have := Hm.out; omega
    clear hr h8 h9 hl8
    go_enter Try.func44, Try.ntmps44
    have hk0 := bl_refl w
    go_wp2
    go_ret3
    exact retOwnX3_nil (by decide) (opE_no hv8) (bl_refl _)
set_option maxRecDepth 100000 in
set_option maxHeartbeats 4000000 in
theorem openIncident_zero (xs : List Incident) (A : Option Addr) (n c : Nat) (w : World) (hn : n ≤ 1048576) (_hc : n ≤ c) (hs : Sl w A n xs) (hin : ∀ x, x ∈ xs → x.Names.length ≤ 1048576) (node : Int) (hvi : Vi xs) (h0 : ¬ 0 < n) :
    Calls Try.prog 44 #[.slice A n c, .int .i64 node] w (RetOwnX3 incidentN w 56 9 (opE xs node)) := by
  have HIN := Lib.hid hin
  have HL := Lib.hid hs.1
  have hr := newN_range hvi
  have hxn : xs.length ≤ 1048576 := by rw [HL.out]; exact hn
  have hl8 : n ≤ 8 := by have := hvi.len; have := HL.out; omega
  clear hin
  have hN : newN xs = 1 := by unfold newN; rw [if_neg (by rw [HL.out]; exact h0)]
  have hkd : decide ((n : Int) > 0) = false := by simp; omega
  have HN := Lib.hid hN
  clear hN
  obtain ⟨m, hm⟩ : ∃ m, m = newN xs := ⟨_, rfl⟩
  have hr : 1 ≤ m ∧ m ≤ 1000 := by rw [hm]; exact hr
  have Hm := Lib.hid hm
  clear hm
  have h8 : n < 8 ∧ m ≤ 999 := by have := HN.out; have := Hm.out; omega
  · skip
    have hv8 : (decide (xs.length < 8) && decide (newN xs ≤ 999)) = true := by rw [HL.out, ← Hm.out]; rw [decide_eq_true h8.1, decide_eq_true h8.2]; rfl
    have e8 : ((n : Int) == 8) = false := by simp; omega
    have e9 : decide ((1 : Int) > 999) = false := by first | rfl | (simp; have := HN.out; have := Hm.out; omega)
    have Hv8 := Lib.hid hv8
    clear hv8 hr
    go_enter Try.func44, Try.ntmps44
    have hk0 := bl_refl w
    go_wp2_with fail
    refine (copyIncidents_any xs _ _ _ _ hn hs HIN.out).mono ?_
    rintro e V1 ⟨A_c, c_c, F_c, rfl, ho_c, hb1⟩
    have hB1 := bl_trans (a := w) (bl_refl _) hb1
    have hk1 := bl_trans hk0 hB1
    have z1 := Lib.hid hB1.size
    obtain ⟨ps, hp, _, hop⟩ := ho_c
    have hop := Lib.hid hop
    have hB := hk1
    clear hs
    go_wp2_with ((at_builtin; refine wpList_app1g rfl (.tmp 27) (.tmp 31) _ _ rfl el_inc (⟨(1 : Int), node, false, none, 0, 0⟩ : IncidentR) rfl hop.out.out hB rfl (by simp) (by omega) ?_; intro A2 c2 w2 ho2 hb2 hg2))
    go_ret3
    rw [← HN.out] at ho2
    have hsn := hop.out.snoc (r := (⟨newN xs, node, false, none, 0, 0⟩ : IncidentR)) (l := ([] : List ByteArray)) (m := xs.length + 1) ho2 (Own.nil _ _ _) ((OnlyF.alloc (OnlyF.refl _ _) _).trans (OnlyF.of_gb hg2)) (fun x hx => absurd hx (by simp [incidentN, Value.ownBlock]))
    rw [← HN.out]
    refine retOwnX3_mk (opE_yes (node := node) Hv8.out) ?_ hsn hb2
    unfold Nest.plain at hp ⊢; rw [List.map_append, hp]; rfl
theorem openIncident_any (xs : List Incident) (A : Option Addr) (n c : Nat) (w : World) (hn : n ≤ 1048576) (hc : n ≤ c) (hs : Sl w A n xs) (hin : ∀ x, x ∈ xs → x.Names.length ≤ 1048576) (node : Int) (hvi : Vi xs) :
    Calls Try.prog 44 #[.slice A n c, .int .i64 node] w (RetOwnX3 incidentN w 56 9 (opE xs node)) := by
  by_cases h0 : 0 < n
  · exact openIncident_pos xs A n c w hn hc hs hin node hvi h0
  · exact openIncident_zero xs A n c w hn hc hs hin node hvi h0
set_option maxRecDepth 100000 in
set_option maxHeartbeats 4000000 in
theorem implOpenIncident_any (xs : List Incident) (node : Int) (A : Option Addr) (n c : Nat) (w : World) (hn : n ≤ 1048576) (hc : n ≤ c) (hs : Sl w A n xs) (hv : ∀ x, x ∈ xs → ∀ y, y ∈ x.Names → y.size ≤ maxLen) (hin : ∀ x, x ∈ xs → x.Names.length ≤ 1048576) :
    Calls Try.prog 13 #[.slice A n c, .int .i64 node] w (RetOwnX3 incidentN w 56 9 (opF xs node)) := by
  have HV := Lib.hid hv
  have HIN := Lib.hid hin
  have HL := Lib.hid hs.1
  have hn' : (n : Int) ≤ 9223372036854775807 := by omega
  clear hv hin
  go_enter Try.func13, Try.ntmps13
  have hk0 := bl_refl w
  go_wp2_with fail
  refine (areIncidents_any xs _ _ _ _ hn' hc hs HV.out).mono ?_
  rintro e V1 ⟨rfl, hb1⟩
  have hB1 := bl_trans (a := w) (bl_refl _) hb1
  have hk1 := bl_trans hk0 hB1
  have z1 := Lib.hid hB1.size
  cases h0 : incsB xs
  · have Hz := Lib.hid (opF_0 (xs := xs) (node := node) (by rw [h0]; first | done | simp))
    clear h0
    go_wp2
    go_ret3
    exact retOwnX3_nil (by decide) Hz.out hk1
  have H0 := Lib.hid h0
  clear h0
  go_wp2_with fail
  refine (inside_any node 0 13 _).mono ?_
  rintro _ V1 ⟨rfl, rfl⟩
  cases h1 : inB node 0 13
  · have Hz := Lib.hid (opF_0 (xs := xs) (node := node) (by rw [h1]; first | done | simp))
    clear h1
    go_wp2
    go_ret3
    exact retOwnX3_nil (by decide) Hz.out hk1
  have H1 := Lib.hid h1
  clear h1
  have HE := Lib.hid (opF_E H0.out H1.out)
  go_wp2_with fail
  refine (openIncident_any xs _ _ _ _ hn hc (hs.below hk1) HIN.out node (incs_iff.1 H0.out)).mono ?_
  rintro e V2 ⟨A_c, c_c, F_c, rfl, ho_c, hb2⟩
  have hB2 := bl_trans (a := V1) (bl_refl _) hb2
  have hk2 := bl_trans hk1 hB2
  have z2 := Lib.hid hB2.size
  clear hk1
  have HOX := Lib.hid (ho_c.mono (b := w.heap.size) (by have := z1.out; have := z2.out; omega))
  clear ho_c hs
  go_wp2
  go_ret3
  show RetOwnX3 _ _ _ _ _ _ _
  rw [HE.out]
  exact ⟨A_c, c_c, F_c, rfl, HOX.out, hk2⟩

end Go.Proofs.Ytkgjbijkjlmomaa
