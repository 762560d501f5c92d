/-
  The law on Commitments: it answers true at every input, and every argument reads as before. No conditions.
-/
import Derived.Test.YtnaadihbkiakeaaSaC
import Derived.Test.YtnaadihbkiakeaaSaIO
import Derived.Test.YtnaadihbkiakeaaCuJ
import Derived.Test.YtnaadihbkiakeaaIcSm
import Derived.Test.YtnaadihbkiakeaaIcMA
import Derived.Test.YtnaadihbkiakeaaIcMB
import Derived.Test.YtnaadihbkiakeaaComF
import Derived.Test.YtnaadihbkiakeaaOpnF
import Derived.Test.YtnaadihbkiakeaaRows
import Derived.Test.YtnaadihbkiakeaaMem3
import Derived.Deep.DeepCutAuto
namespace Go.Proofs.Ytnaadihbkiakeaa.lawCommitments
open Go.RowKit

set_option maxHeartbeats 2000000 in
theorem big_any (A B : Option Addr) (n m c d : Nat) (w : World) :
    Calls Try.prog 15 #[.slice A n c, .slice B m d] w fun e w' => (∃ b : Bool, e = .returned (.bool b)) ∧ Below w.heap.size w w' := by
  obtain ⟨L, hL⟩ : ∃ L, IntKind.i64.wrap (1048576 - (n : Int)) = L := ⟨_, rfl⟩
  by_cases h : 1048576 < n
  · have h2 : (1048576 : Int) < n := by omega
    have h3 : decide (1048576 < n) = true := decide_eq_true h
    go_enter Try.func15, Try.ntmps15
    go_wp2
    go_ret
    exact ⟨⟨_, rfl⟩, bl_refl _⟩
  · have h2 : ¬ (1048576 : Int) < n := by omega
    have h3 : decide (1048576 < n) = false := decide_eq_false h
    go_enter Try.func15, Try.ntmps15
    go_wp2
    go_ret
    refine ⟨?_, bl_refl _⟩
    cases decide (L < (m : Int))
    · exact .inl rfl
    · exact .inr rfl
set_option maxRecDepth 100000 in
set_option maxHeartbeats 16000000 in
theorem walk (A0 : Option Addr) (n0 c0 : Nat) (x0 : List Byt) (A1 : Option Addr) (n1 c1 : Nat) (x1 : List Byt) (w : World) (hx0 : CodeIs w A0 n0 x0) (hx1 : CodeIs w A1 n1 x1) :
    Calls Try.prog 5 #[.slice A0 n0 c0, .slice A1 n1 c1] w fun e w' => e = .returned (.bool true) ∧ Below w.heap.size w w' := by
  go_enter Try.func5, Try.ntmps5
  have hk0 := bl_refl w
  go_wp2_with fail
  refine (big_any A0 A1 n0 n1 c0 c1 _).mono ?_
  rintro e V1 ⟨⟨bb, rfl⟩, hb1⟩
  have hB1 := bl_trans (a := w) (bl_refl _) hb1
  have hk1 := bl_trans hk0 hB1
  have z1 := Lib.hid hB1.size
  cases bb
  case true =>
    go_wp2
    go_ret
    exact ⟨rfl, hk1⟩
  go_wp2_with fail
  refine (drawCommit_any A0 n0 c0 x0 _ (hx0.below hk1)).mono ?_
  rintro e V2 ⟨l, A_l, c_l, F_l, k, s, k2, rfl, hll, hlp, hsz, ho_l, hb2⟩
  have hB2 := bl_trans (a := V1) (bl_refl _) hb2
  have hk2 := bl_trans hk1 hB2
  have z2 := Lib.hid hB2.size
  clear hk1
  have hcl := ho_l.cap
  obtain ⟨⟨C, ok⟩, hC⟩ : ∃ R, cmF l k s = R := ⟨_, rfl⟩
  obtain ⟨hCl, hCp⟩ := cm_any hC
  have hcf : ok = true → ctF C s = (k, true) ∧ ctF l s = (0, false) ∧ rlF C k s = (l, true) ∧ incsB C = true ∧ cmF C k s = ([], false) := fun h => commit_law (by rw [← h]; exact hC)
  have kCi := Lib.hid (show ∀ (W : World) (hs0 : Sl W A_l l.length l), Calls Try.prog 34 #[.slice A_l l.length c_l, .int .i64 k, .string s] W fun e w' => ∃ A c F, e = .returned (.tuple #[.slice A C.length c, .bool ok]) ∧ OwnX incidentN w' W.heap.size 76 9 (.slice A C.length c) C F ∧ Below W.heap.size W w' from fun W hs0 => by have h := implCommit_any l k s A_l _ c_l W (by unfold maxLen; omega) (by omega) hcl hs0 (fun x hx y hy => by have := (hlp x hx).2 y hy; unfold maxLen; omega) (fun x hx => by have := (hlp x hx).1; omega); rw [hC] at h; exact h)
  have kCs := Lib.hid (show ∀ (W : World) (hs0 : Sl W A_l l.length l), Calls Try.prog 35 #[.slice A_l l.length c_l, .int .i64 k, .string s] W fun e w' => ∃ A c F, e = .returned (.tuple #[.slice A C.length c, .bool ok]) ∧ OwnX incidentN w' W.heap.size 76 9 (.slice A C.length c) C F ∧ Below W.heap.size W w' from fun W hs0 => by have h := specCommit_any l k s A_l _ c_l W (by unfold maxLen; omega) (by omega) hcl hs0 (fun x hx y hy => by have := (hlp x hx).2 y hy; unfold maxLen; omega) (fun x hx => by have := (hlp x hx).1; omega); rw [hC] at h; exact h)
  have Hhcf := Lib.hid hcf
  clear hcf
  have HhC := Lib.hid hC
  clear hC
  have Hhlp := Lib.hid hlp
  clear hlp
  have HhCp := Lib.hid hCp
  clear hCp
  go_wp2_with fail
  refine (kCi.out _ ho_l.sl).mono ?_
  rintro e V3 ⟨A_c, c_c, F_c, rfl, ho_c, hb3⟩
  have hB3 := bl_trans (a := V2) (bl_refl _) hb3
  have hk3 := bl_trans hk2 hB3
  have z3 := Lib.hid hB3.size
  have l_3 := ho_l.below hB3
  clear hk2 ho_l
  have hcc := ho_c.cap
  go_wp2_with fail
  refine (kCs.out _ l_3.sl).mono ?_
  rintro e V4 ⟨A_d, c_d, F_d, rfl, ho_d, hb4⟩
  have hB4 := bl_trans (a := V3) (bl_refl _) hb4
  have hk4 := bl_trans hk3 hB4
  have z4 := Lib.hid hB4.size
  have l_4 := l_3.below hB4
  have c_4 := ho_c.below hB4
  clear hk3 l_3 ho_c
  go_wp2_with fail
  refine (pSameIncidents_same _ _ _ _ _ C _ (by omega) (fun x hx => by have := (HhCp.out x hx).1; omega) c_4.sl ho_d.sl).mono ?_
  rintro e V5 ⟨rfl, hb5⟩
  have hB5 := bl_trans (a := V4) (bl_refl _) hb5
  have hk5 := bl_trans hk4 hB5
  have z5 := Lib.hid hB5.size
  have l_5 := l_4.below hB5
  have c_5 := c_4.below hB5
  have d_5 := ho_d.below hB5
  clear hk4 l_4 c_4 ho_d
  clear d_5
  go_upto_if 89 with fail
  refine wp_below (fun V6 hb6 => ?_)
  have hB6 := bl_trans (a := V5) (bl_refl _) hb6
  have hk6 := bl_trans hk5 hB6
  have z6 := Lib.hid hB6.size
  have l_6 := l_5.below hB6
  have c_6 := c_5.below hB6
  clear hk5 l_5 c_5
  go_cut [] (fun wx => Below V6.heap.size V6 wx)
  case first => as_aux_lemma =>
    cases ok
    · skip
      go_wp2_with fail
      go_meet
      exact (bl_refl _)
    · obtain ⟨h1, h2, h3, h4, h5⟩ := Hhcf.out rfl
      have kA := Lib.hid (show ∀ (W : World) (hs0 : Sl W A_c C.length C), Calls Try.prog 37 #[.slice A_c C.length c_c, .string s] W fun e w' => e = .returned (.tuple #[.int .i64 k, .bool true]) ∧ Below W.heap.size W w' from fun W hs0 => by have h := implCommittedTo_any C s A_c _ c_c W (by unfold maxLen; omega) (by omega) hcc hs0 (fun x hx y hy => by have := (HhCp.out x hx).2 y hy; unfold maxLen; omega); rw [h1] at h; exact h)
      have kB := Lib.hid (show ∀ (W : World) (hs0 : Sl W A_l l.length l), Calls Try.prog 37 #[.slice A_l l.length c_l, .string s] W fun e w' => e = .returned (.tuple #[.int .i64 0, .bool false]) ∧ Below W.heap.size W w' from fun W hs0 => by have h := implCommittedTo_any l s A_l _ c_l W (by unfold maxLen; omega) (by omega) hcl hs0 (fun x hx y hy => by have := (Hhlp.out x hx).2 y hy; unfold maxLen; omega); rw [h2] at h; exact h)
      have kR := Lib.hid (show ∀ (W : World) (hs0 : Sl W A_c C.length C), Calls Try.prog 38 #[.slice A_c C.length c_c, .int .i64 k, .string s] W fun e w' => ∃ A c F, e = .returned (.tuple #[.slice A l.length c, .bool true]) ∧ OwnX incidentN w' W.heap.size 76 9 (.slice A l.length c) l F ∧ Below W.heap.size W w' from fun W hs0 => by have h := implReleaseFrom_any C k s A_c _ c_c W (by unfold maxLen; omega) (by omega) hcc hs0 (fun x hx y hy => by have := (HhCp.out x hx).2 y hy; unfold maxLen; omega) (fun x hx => by have := (HhCp.out x hx).1; omega); rw [h3] at h; exact h)
      have kI := Lib.hid (show ∀ (W : World) (hs0 : Sl W A_c C.length C), Calls Try.prog 39 #[.slice A_c C.length c_c] W fun e w' => e = .returned (.bool true) ∧ Below W.heap.size W w' from fun W hs0 => by have h := implAreIncidents_any C A_c _ c_c W (by omega) hcc hs0 (fun x hx y hy => by have := (HhCp.out x hx).2 y hy; unfold maxLen; omega); rw [h4] at h; exact h)
      have kE := Lib.hid (show ∀ (W : World) (hs0 : Sl W A_c C.length C), Calls Try.prog 34 #[.slice A_c C.length c_c, .int .i64 k, .string s] W fun e w' => ∃ A c F, e = .returned (.tuple #[.slice A 0 c, .bool false]) ∧ OwnX incidentN w' W.heap.size 76 9 (.slice A 0 c) ([] : List Incident) F ∧ Below W.heap.size W w' from fun W hs0 => by have h := implCommit_any C k s A_c _ c_c W (by unfold maxLen; omega) (by omega) hcc hs0 (fun x hx y hy => by have := (HhCp.out x hx).2 y hy; unfold maxLen; omega) (fun x hx => by have := (HhCp.out x hx).1; omega); rw [h5] at h; exact h)
      have Hh1 := Lib.hid h1
      clear h1
      have Hh2 := Lib.hid h2
      clear h2
      have Hh3 := Lib.hid h3
      clear h3
      have Hh4 := Lib.hid h4
      clear h4
      have Hh5 := Lib.hid h5
      clear h5
      go_wp2_with fail
      refine (kA.out _ c_6.sl).mono ?_
      rintro e V7 ⟨rfl, hb7⟩
      have hB7 := bl_trans (a := V6) (bl_refl _) hb7
      have hk7 := bl_trans hk6 hB7
      have z7 := Lib.hid hB7.size
      have l_7 := l_6.below hB7
      have c_7 := c_6.below hB7
      clear hk6 l_6 c_6
      go_wp2_with fail
      refine (kB.out _ l_7.sl).mono ?_
      rintro e V8 ⟨rfl, hb8⟩
      have hB8 := bl_trans (a := V7) (bl_refl _) hb8
      have hk8 := bl_trans hk7 hB8
      have z8 := Lib.hid hB8.size
      have l_8 := l_7.below hB8
      have c_8 := c_7.below hB8
      clear hk7 l_7 c_7
      go_wp2_with fail
      refine (kR.out _ c_8.sl).mono ?_
      rintro e V9 ⟨A_r, c_r, F_r, rfl, ho_r, hb9⟩
      have hB9 := bl_trans (a := V8) (bl_refl _) hb9
      have hk9 := bl_trans hk8 hB9
      have z9 := Lib.hid hB9.size
      have l_9 := l_8.below hB9
      have c_9 := c_8.below hB9
      clear hk8 l_8 c_8
      go_wp2_with fail
      refine (pSameIncidents_same _ _ _ _ _ l _ (by omega) (fun x hx => by have := (Hhlp.out x hx).1; omega) ho_r.sl l_9.sl).mono ?_
      rintro e V10 ⟨rfl, hb10⟩
      have hB10 := bl_trans (a := V9) (bl_refl _) hb10
      have hk10 := bl_trans hk9 hB10
      have z10 := Lib.hid hB10.size
      have l_10 := l_9.below hB10
      have c_10 := c_9.below hB10
      have r_10 := ho_r.below hB10
      clear hk9 l_9 c_9 ho_r
      clear r_10 l_10
      go_wp2_with fail
      refine (kI.out _ c_10.sl).mono ?_
      rintro e V11 ⟨rfl, hb11⟩
      have hB11 := bl_trans (a := V10) (bl_refl _) hb11
      have hk11 := bl_trans hk10 hB11
      have z11 := Lib.hid hB11.size
      have c_11 := c_10.below hB11
      clear hk10 c_10
      go_wp2_with fail
      refine (kE.out _ c_11.sl).mono ?_
      rintro e V12 ⟨A_e, c_e, F_e, rfl, ho_e, hb12⟩
      have hB12 := bl_trans (a := V11) (bl_refl _) hb12
      have hk12 := bl_trans hk11 hB12
      have z12 := Lib.hid hB12.size
      have c_12 := c_11.below hB12
      clear hk11 c_11
      clear ho_e
      go_wp2_with fail
      go_meet
      exact (bl_trans (bl_trans (bl_trans (bl_trans (bl_trans hB7 hB8) hB9) hB10) hB11) hB12)
  case rest => as_aux_lemma =>
    obtain ⟨V13, hVV⟩ : ∃ V, V = wc := ⟨_, rfl⟩
    have hb13 := hcut
    clear hcut
    subst hVV
    have hB13 := bl_trans (a := V6) (bl_refl _) hb13
    have hk13 := bl_trans hk6 hB13
    have z13 := Lib.hid hB13.size
    have l_13 := l_6.below hB13
    have c_13 := c_6.below hB13
    clear hk6 l_6 c_6
    clear l_13 c_13
    clear kCi kCs Hhcf HhC Hhlp HhCp hll hsz hcl hcc hCl
    go_wp2_with fail
    refine (drawTransfer_any A1 n1 c1 x1 _ (hx1.below hk13)).mono ?_
    rintro e V14 ⟨u, A_u, c_u, F_u, tn, q, k3, rfl, hul, hup, hqz, ho_u, hb14⟩
    have hB14 := bl_trans (a := V13) (bl_refl _) hb14
    have hk14 := bl_trans hk13 hB14
    have z14 := Lib.hid hB14.size
    clear hk13
    have hcu := ho_u.cap
    obtain ⟨⟨T, tk⟩, hT⟩ : ∃ R, trF u q tn = R := ⟨_, rfl⟩
    obtain ⟨hTl, hTp⟩ := tr_any hT
    have htf : tk = true → ∃ frm : Int, ctF u q = (frm, true) ∧ ctF T q = (tn, true) ∧ ¬ frm = tn ∧ trF T q frm = (u, true) := fun h => transfer_law (by rw [← h]; exact hT)
    have kTi := Lib.hid (show ∀ (W : World) (hs0 : Sl W A_u u.length u), Calls Try.prog 41 #[.slice A_u u.length c_u, .string q, .int .i64 tn] W fun e w' => ∃ A c F, e = .returned (.tuple #[.slice A T.length c, .bool tk]) ∧ OwnX incidentN w' W.heap.size 76 9 (.slice A T.length c) T F ∧ Below W.heap.size W w' from fun W hs0 => by have h := implTransfer_any u q tn A_u _ c_u W (by unfold maxLen; omega) (by omega) hcu hs0 (fun x hx y hy => by have := (hup x hx).2 y hy; unfold maxLen; omega) (fun x hx => by have := (hup x hx).1; omega); rw [hT] at h; exact h)
    have kTs := Lib.hid (show ∀ (W : World) (hs0 : Sl W A_u u.length u), Calls Try.prog 42 #[.slice A_u u.length c_u, .string q, .int .i64 tn] W fun e w' => ∃ A c F, e = .returned (.tuple #[.slice A T.length c, .bool tk]) ∧ OwnX incidentN w' W.heap.size 76 9 (.slice A T.length c) T F ∧ Below W.heap.size W w' from fun W hs0 => by have h := specTransfer_any u q tn A_u _ c_u W (by unfold maxLen; omega) (by omega) hcu hs0 (fun x hx y hy => by have := (hup x hx).2 y hy; unfold maxLen; omega) (fun x hx => by have := (hup x hx).1; omega); rw [hT] at h; exact h)
    have Hhtf := Lib.hid htf
    clear htf
    have HhT := Lib.hid hT
    clear hT
    have Hhup := Lib.hid hup
    clear hup
    have HhTp := Lib.hid hTp
    clear hTp
    go_wp2_with fail
    refine (kTi.out _ ho_u.sl).mono ?_
    rintro e V15 ⟨A_t, c_t, F_t, rfl, ho_t, hb15⟩
    have hB15 := bl_trans (a := V14) (bl_refl _) hb15
    have hk15 := bl_trans hk14 hB15
    have z15 := Lib.hid hB15.size
    have u_15 := ho_u.below hB15
    clear hk14 ho_u
    have hct := ho_t.cap
    go_wp2_with fail
    refine (kTs.out _ u_15.sl).mono ?_
    rintro e V16 ⟨A_f, c_f, F_f, rfl, ho_f, hb16⟩
    have hB16 := bl_trans (a := V15) (bl_refl _) hb16
    have hk16 := bl_trans hk15 hB16
    have z16 := Lib.hid hB16.size
    have u_16 := u_15.below hB16
    have t_16 := ho_t.below hB16
    clear hk15 u_15 ho_t
    go_wp2_with fail
    refine (pSameIncidents_same _ _ _ _ _ T _ (by omega) (fun x hx => by have := (HhTp.out x hx).1; omega) t_16.sl ho_f.sl).mono ?_
    rintro e V17 ⟨rfl, hb17⟩
    have hB17 := bl_trans (a := V16) (bl_refl _) hb17
    have hk17 := bl_trans hk16 hB17
    have z17 := Lib.hid hB17.size
    have u_17 := u_16.below hB17
    have t_17 := t_16.below hB17
    have f_17 := ho_f.below hB17
    clear hk16 u_16 t_16 ho_f
    clear f_17
    go_upto_if 171 with fail
    refine wp_below (fun V18 hb18 => ?_)
    have hB18 := bl_trans (a := V17) (bl_refl _) hb18
    have hk18 := bl_trans hk17 hB18
    have z18 := Lib.hid hB18.size
    have u_18 := u_17.below hB18
    have t_18 := t_17.below hB18
    clear hk17 u_17 t_17
    go_cut [] (fun wx => Below V18.heap.size V18 wx)
    case first => as_aux_lemma =>
      cases tk
      · skip
        go_wp2_with fail
        go_meet
        exact (bl_refl _)
      · obtain ⟨frm, h1, h2, h3, h4⟩ := Hhtf.out rfl
        have hbq : (frm == tn) = false := by simpa using h3
        have hbd : decide (frm = tn) = false := decide_eq_false h3
        have kA := Lib.hid (show ∀ (W : World) (hs0 : Sl W A_u u.length u), Calls Try.prog 43 #[.slice A_u u.length c_u, .string q] W fun e w' => e = .returned (.tuple #[.int .i64 frm, .bool true]) ∧ Below W.heap.size W w' from fun W hs0 => by have h := specCommittedTo_any u q A_u _ c_u W (by unfold maxLen; omega) (by omega) hcu hs0 (fun x hx y hy => by have := (Hhup.out x hx).2 y hy; unfold maxLen; omega); rw [h1] at h; exact h)
        have kB := Lib.hid (show ∀ (W : World) (hs0 : Sl W A_t T.length T), Calls Try.prog 37 #[.slice A_t T.length c_t, .string q] W fun e w' => e = .returned (.tuple #[.int .i64 tn, .bool true]) ∧ Below W.heap.size W w' from fun W hs0 => by have h := implCommittedTo_any T q A_t _ c_t W (by unfold maxLen; omega) (by omega) hct hs0 (fun x hx y hy => by have := (HhTp.out x hx).2 y hy; unfold maxLen; omega); rw [h2] at h; exact h)
        have kR := Lib.hid (show ∀ (W : World) (hs0 : Sl W A_t T.length T), Calls Try.prog 41 #[.slice A_t T.length c_t, .string q, .int .i64 frm] W fun e w' => ∃ A c F, e = .returned (.tuple #[.slice A u.length c, .bool true]) ∧ OwnX incidentN w' W.heap.size 76 9 (.slice A u.length c) u F ∧ Below W.heap.size W w' from fun W hs0 => by have h := implTransfer_any T q frm A_t _ c_t W (by unfold maxLen; omega) (by omega) hct hs0 (fun x hx y hy => by have := (HhTp.out x hx).2 y hy; unfold maxLen; omega) (fun x hx => by have := (HhTp.out x hx).1; omega); rw [h4] at h; exact h)
        have Hh1 := Lib.hid h1
        clear h1
        have Hh2 := Lib.hid h2
        clear h2
        have Hh4 := Lib.hid h4
        clear h4
        go_wp2_with fail
        refine (kA.out _ u_18.sl).mono ?_
        rintro e V19 ⟨rfl, hb19⟩
        have hB19 := bl_trans (a := V18) (bl_refl _) hb19
        have hk19 := bl_trans hk18 hB19
        have z19 := Lib.hid hB19.size
        have u_19 := u_18.below hB19
        have t_19 := t_18.below hB19
        clear hk18 u_18 t_18
        go_wp2_with fail
        refine (kB.out _ t_19.sl).mono ?_
        rintro e V20 ⟨rfl, hb20⟩
        have hB20 := bl_trans (a := V19) (bl_refl _) hb20
        have hk20 := bl_trans hk19 hB20
        have z20 := Lib.hid hB20.size
        have u_20 := u_19.below hB20
        have t_20 := t_19.below hB20
        clear hk19 u_19 t_19
        go_wp2_with fail
        refine (kR.out _ t_20.sl).mono ?_
        rintro e V21 ⟨A_r, c_r, F_r, rfl, ho_r, hb21⟩
        have hB21 := bl_trans (a := V20) (bl_refl _) hb21
        have hk21 := bl_trans hk20 hB21
        have z21 := Lib.hid hB21.size
        have u_21 := u_20.below hB21
        have t_21 := t_20.below hB21
        clear hk20 u_20 t_20
        go_wp2_with fail
        refine (pSameIncidents_same _ _ _ _ _ u _ (by omega) (fun x hx => by have := (Hhup.out x hx).1; omega) ho_r.sl u_21.sl).mono ?_
        rintro e V22 ⟨rfl, hb22⟩
        have hB22 := bl_trans (a := V21) (bl_refl _) hb22
        have hk22 := bl_trans hk21 hB22
        have z22 := Lib.hid hB22.size
        have u_22 := u_21.below hB22
        have t_22 := t_21.below hB22
        have r_22 := ho_r.below hB22
        clear hk21 u_21 t_21 ho_r
        clear r_22 u_22 t_22
        go_wp2_with fail
        go_meet
        exact (bl_trans (bl_trans (bl_trans hB19 hB20) hB21) hB22)
    case rest => as_aux_lemma =>
      obtain ⟨V23, hVV⟩ : ∃ V, V = wc := ⟨_, rfl⟩
      have hb23 := hcut
      clear hcut
      subst hVV
      have hB23 := bl_trans (a := V18) (bl_refl _) hb23
      have hk23 := bl_trans hk18 hB23
      have z23 := Lib.hid hB23.size
      have u_23 := u_18.below hB23
      have t_23 := t_18.below hB23
      clear hk18 u_18 t_18
      clear u_23 t_23
      clear kTi kTs Hhtf HhT Hhup HhTp hul hqz hcu hct hTl
      go_wp2_with fail
      refine (drawJoin_any A1 n1 c1 x1 _ (hx1.below hk23)).mono ?_
      rintro e V24 ⟨v, A_v, c_v, F_v, fi, s2, se, rfl, hvl, hvp, hs2z, ho_v, hb24⟩
      have hB24 := bl_trans (a := V23) (bl_refl _) hb24
      have hk24 := bl_trans hk23 hB24
      have z24 := Lib.hid hB24.size
      clear hk23
      have hcv := ho_v.cap
      obtain ⟨⟨J, jk⟩, hJ⟩ : ∃ R, joF v fi se = R := ⟨_, rfl⟩
      obtain ⟨hJl, hJp⟩ := jo_any hJ
      have hjf : jk = true → openF J = (openL J, true) ∧ fi ∈ openL J ∧ se ∉ openL J ∧ incsB J = true ∧ ∀ x, x ∈ v → ∀ s, s ∈ x.Names → ctF J s = (if x.Number = se then fi else x.Number, true) := fun h => join_law (by rw [← h]; exact hJ)
      have kJi := Lib.hid (show ∀ (W : World) (hs0 : Sl W A_v v.length v), Calls Try.prog 45 #[.slice A_v v.length c_v, .int .i64 fi, .int .i64 se] W fun e w' => ∃ A c F, e = .returned (.tuple #[.slice A J.length c, .bool jk]) ∧ OwnX incidentN w' W.heap.size 76 9 (.slice A J.length c) J F ∧ Below W.heap.size W w' from fun W hs0 => by have h := implJoinIncidents_any v fi se A_v _ c_v W (by omega) hcv hs0 (fun x hx y hy => by have := (hvp x hx).2 y hy; unfold maxLen; omega) (fun x hx => by have := (hvp x hx).1; omega); rw [hJ] at h; exact h)
      have kJs := Lib.hid (show ∀ (W : World) (hs0 : Sl W A_v v.length v), Calls Try.prog 46 #[.slice A_v v.length c_v, .int .i64 fi, .int .i64 se] W fun e w' => ∃ A c F, e = .returned (.tuple #[.slice A J.length c, .bool jk]) ∧ OwnX incidentN w' W.heap.size 76 9 (.slice A J.length c) J F ∧ Below W.heap.size W w' from fun W hs0 => by have h := specJoinIncidents_any v fi se A_v _ c_v W (by omega) hcv hs0 (fun x hx y hy => by have := (hvp x hx).2 y hy; unfold maxLen; omega) (fun x hx => by have := (hvp x hx).1; omega); rw [hJ] at h; exact h)
      have Hhjf := Lib.hid hjf
      clear hjf
      have HhJ := Lib.hid hJ
      clear hJ
      have Hhvp := Lib.hid hvp
      clear hvp
      have HhJp := Lib.hid hJp
      clear hJp
      go_wp2_with fail
      refine (kJi.out _ ho_v.sl).mono ?_
      rintro e V25 ⟨A_j, c_j, F_j, rfl, ho_j, hb25⟩
      have hB25 := bl_trans (a := V24) (bl_refl _) hb25
      have hk25 := bl_trans hk24 hB25
      have z25 := Lib.hid hB25.size
      have v_25 := ho_v.below hB25
      clear hk24 ho_v
      have hcj := ho_j.cap
      go_wp2_with fail
      refine (kJs.out _ v_25.sl).mono ?_
      rintro e V26 ⟨A_g, c_g, F_g, rfl, ho_g, hb26⟩
      have hB26 := bl_trans (a := V25) (bl_refl _) hb26
      have hk26 := bl_trans hk25 hB26
      have z26 := Lib.hid hB26.size
      have v_26 := v_25.below hB26
      have j_26 := ho_j.below hB26
      clear hk25 v_25 ho_j
      have hcg := ho_g.cap
      go_wp2_with fail
      refine (pSameIncidents_same _ _ _ _ _ J _ (by omega) (fun x hx => by have := (HhJp.out x hx).1; omega) j_26.sl ho_g.sl).mono ?_
      rintro e V27 ⟨rfl, hb27⟩
      have hB27 := bl_trans (a := V26) (bl_refl _) hb27
      have hk27 := bl_trans hk26 hB27
      have z27 := Lib.hid hB27.size
      have v_27 := v_26.below hB27
      have j_27 := j_26.below hB27
      have g_27 := ho_g.below hB27
      clear hk26 v_26 j_26 ho_g
      go_upto_if 246 with fail
      refine wp_below (fun V28 hb28 => ?_)
      have hB28 := bl_trans (a := V27) (bl_refl _) hb28
      have hk28 := bl_trans hk27 hB28
      have z28 := Lib.hid hB28.size
      have v_28 := v_27.below hB28
      have j_28 := j_27.below hB28
      have g_28 := g_27.below hB28
      clear hk27 v_27 j_27 g_27
      go_cut [] (fun wx => Below V28.heap.size V28 wx)
      case first => as_aux_lemma =>
        cases jk
        · skip
          go_wp2_with fail
          go_meet
          exact (bl_refl _)
        · obtain ⟨h1, h2, h3, h4, h5⟩ := Hhjf.out rfl
          obtain ⟨O, hO⟩ : ∃ O, openL J = O := ⟨_, rfl⟩
          rw [hO] at h1 h2 h3
          have hOl : O.length ≤ 1048576 := by have := openF_len J; rw [h1] at this; exact this
          have kO := Lib.hid (show ∀ (W : World) (hs0 : Sl W A_j J.length J), Calls Try.prog 47 #[.slice A_j J.length c_j] W fun e w' => ∃ A c, e = .returned (.tuple #[.slice A O.length c, .bool true]) ∧ Own w' W.heap.size 3 (.slice A O.length c) O ∧ Below W.heap.size W w' from fun W hs0 => by have h := implOpenNumbers_any J A_j _ c_j W (by omega) hcj hs0 (fun x hx y hy => by have := (HhJp.out x hx).2 y hy; unfold maxLen; omega); rw [h1] at h; exact h)
          have kP := Lib.hid (show ∀ (W : World) (hs0 : Sl W A_g J.length J), Calls Try.prog 48 #[.slice A_g J.length c_g] W fun e w' => ∃ A c, e = .returned (.tuple #[.slice A O.length c, .bool true]) ∧ Own w' W.heap.size 3 (.slice A O.length c) O ∧ Below W.heap.size W w' from fun W hs0 => by have h := specOpenNumbers_any J A_g _ c_g W (by omega) hcg hs0 (fun x hx y hy => by have := (HhJp.out x hx).2 y hy; unfold maxLen; omega); rw [h1] at h; exact h)
          have kI := Lib.hid (show ∀ (W : World) (hs0 : Sl W A_j J.length J), Calls Try.prog 39 #[.slice A_j J.length c_j] W fun e w' => e = .returned (.bool true) ∧ Below W.heap.size W w' from fun W hs0 => by have h := implAreIncidents_any J A_j _ c_j W (by omega) hcj hs0 (fun x hx y hy => by have := (HhJp.out x hx).2 y hy; unfold maxLen; omega); rw [h4] at h; exact h)
          have kN := Lib.hid (show ∀ x, x ∈ v → ∀ s, s ∈ x.Names → ∀ (W : World) (hs0 : Sl W A_j J.length J), Calls Try.prog 37 #[.slice A_j J.length c_j, .string s] W fun e w' => e = .returned (.tuple #[.int .i64 (if x.Number = se then fi else x.Number), .bool true]) ∧ Below W.heap.size W w' from fun x hx s hs W hs0 => by have h := implCommittedTo_any J s A_j _ c_j W (by have := (Hhvp.out x hx).2 s hs; unfold maxLen; omega) (by omega) hcj hs0 (fun x hx y hy => by have := (HhJp.out x hx).2 y hy; unfold maxLen; omega); rw [h5 x hx s hs] at h; exact h)
          have ha1 := Lib.hid (any_yesI h2)
          have ha2 := Lib.hid (any_noI h3)
          have Hh1 := Lib.hid h1
          clear h1
          have Hh2 := Lib.hid h2
          clear h2
          have Hh3 := Lib.hid h3
          clear h3
          have Hh4 := Lib.hid h4
          clear h4
          have Hh5 := Lib.hid h5
          clear h5
          have HhO := Lib.hid hO
          clear hO
          go_wp2_with fail
          refine (kO.out _ j_28.sl).mono ?_
          rintro e V29 ⟨A_a, c_a, rfl, ho_a, hb29⟩
          have hB29 := bl_trans (a := V28) (bl_refl _) hb29
          have hk29 := bl_trans hk28 hB29
          have z29 := Lib.hid hB29.size
          have v_29 := v_28.below hB29
          have j_29 := j_28.below hB29
          have g_29 := g_28.below hB29
          clear hk28 v_28 j_28 g_28
          go_wp2_with fail
          refine (kP.out _ g_29.sl).mono ?_
          rintro e V30 ⟨A_b, c_b, rfl, ho_b, hb30⟩
          have hB30 := bl_trans (a := V29) (bl_refl _) hb30
          have hk30 := bl_trans hk29 hB30
          have z30 := Lib.hid hB30.size
          have v_30 := v_29.below hB30
          have j_30 := j_29.below hB30
          have g_30 := g_29.below hB30
          have a_30 := ho_a.below hB30
          clear hk29 v_29 j_29 g_29 ho_a
          clear g_30
          go_wp2_with fail
          refine (sameInts_same _ _ _ _ _ O _ (by omega) a_30.sl ho_b.sl).mono ?_
          rintro e V31 ⟨rfl, hb31⟩
          have hB31 := bl_trans (a := V30) (bl_refl _) hb31
          have hk31 := bl_trans hk30 hB31
          have z31 := Lib.hid hB31.size
          have v_31 := v_30.below hB31
          have j_31 := j_30.below hB31
          have a_31 := a_30.below hB31
          have b_31 := ho_b.below hB31
          clear hk30 v_30 j_30 a_30 ho_b
          clear a_31
          have kp1 := Lib.hid (show ∀ (W : World) (hs0 : Sl W A_b O.length O), Calls Try.prog 21 #[.slice A_b O.length c_b, .int .i64 fi] W fun e w' => e = .returned (.bool true) ∧ Below W.heap.size W w' from fun W hs0 => by have h := pIn_any O fi A_b _ c_b W (by omega) hs0; rw [ha1.out] at h; exact h)
          have kp2 := Lib.hid (show ∀ (W : World) (hs0 : Sl W A_b O.length O), Calls Try.prog 21 #[.slice A_b O.length c_b, .int .i64 se] W fun e w' => e = .returned (.bool false) ∧ Below W.heap.size W w' from fun W hs0 => by have h := pIn_any O se A_b _ c_b W (by omega) hs0; rw [ha2.out] at h; exact h)
          go_wp2_with fail
          refine (kp1.out _ b_31.sl).mono ?_
          rintro e V32 ⟨rfl, hb32⟩
          have hB32 := bl_trans (a := V31) (bl_refl _) hb32
          have hk32 := bl_trans hk31 hB32
          have z32 := Lib.hid hB32.size
          have v_32 := v_31.below hB32
          have j_32 := j_31.below hB32
          have b_32 := b_31.below hB32
          clear hk31 v_31 j_31 b_31
          go_wp2_with fail
          refine (kp2.out _ b_32.sl).mono ?_
          rintro e V33 ⟨rfl, hb33⟩
          have hB33 := bl_trans (a := V32) (bl_refl _) hb33
          have hk33 := bl_trans hk32 hB33
          have z33 := Lib.hid hB33.size
          have v_33 := v_32.below hB33
          have j_33 := j_32.below hB33
          have b_33 := b_32.below hB33
          clear hk32 v_32 j_32 b_32
          clear b_33
          go_wp2_with fail
          refine (kI.out _ j_33.sl).mono ?_
          rintro e V34 ⟨rfl, hb34⟩
          have hB34 := bl_trans (a := V33) (bl_refl _) hb34
          have hk34 := bl_trans hk33 hB34
          have z34 := Lib.hid hB34.size
          have v_34 := v_33.below hB34
          have j_34 := j_33.below hB34
          clear hk33 v_33 j_33
          have HJ := Lib.hid j_34.sl
          have HV := Lib.hid v_34.sl
          clear j_34 v_34
          have hRel := (bl_trans (bl_trans (bl_trans (bl_trans (bl_trans hB29 hB30) hB31) hB32) hB33) hB34)
          clear hB1 hB2 hB3 hB4 hB5 hB6 hB13 hB14 hB15 hB16 hB17 hB18 hB23 hB24 hB25 hB26 hB27 hB28 hB29 hB30 hB31 hB32 hB33 hB34
          clear kO kP kI kp1 kp2 ha1 ha2
          go_wp2
          go_loopw [287] (fun iv wr => ∃ i : Nat, i ≤ v.length ∧ iv = .int .i64 i ∧ Below V34.heap.size V34 wr) (fun iv _ => v.length - (intOf iv).toNat)
          case atStart => exact ⟨0, Nat.zero_le _, rfl, bl_refl _⟩
          case round =>
            obtain ⟨i, hi, rfl, hbr⟩ := hrel
            by_cases hlt : i < v.length
            · obtain ⟨bn, on, A2, e2, rfl, hbn, c0, c1, c2, c3, hny, _⟩ := (HV.out.below hbr).incident hlt
              obtain ⟨y, hy⟩ : ∃ y, y = nth v i := ⟨_, rfl⟩
              rw [← hy] at c0 c1 c2 c3 hny
              have Hym := Lib.hid (show y ∈ v from by rw [hy]; exact nth_mem hlt)
              clear hy
              have hyl := (Hhvp.out y Hym.out).1
              have hi1 : (i : Int) < v.length := by omega
              obtain ⟨wo, hwo⟩ : ∃ W, W = wr := ⟨_, rfl⟩
              subst hwo
              go_upto_region 41 with fail
              refine wp_below (fun X hX => ?_)
              have y0 : X.cell? ⟨wo.heap.size, 0, none⟩ = some (.int .i64 y.Number) := cell_later hX (by go_simp)
              have y1 : X.cell? ⟨wo.heap.size, 1, none⟩ = some (.int .i64 y.Node) := cell_later hX (by go_simp)
              have y2 : X.cell? ⟨wo.heap.size, 2, none⟩ = some (.bool y.Closed) := cell_later hX (by go_simp)
              have y3 : X.cell? ⟨wo.heap.size, 3, none⟩ = some (.slice A2 y.Names.length e2) := cell_later hX (by go_simp)
              have hbX : Below wo.heap.size wo X := bl_trans (bl_alloc (bl_refl _) _) hX
              have HY := Lib.hid hny
              clear hX c0 c1 c2 c3 hny
              go_wp2
              go_loopw [294] (fun jv wr => ∃ j : Nat, j ≤ y.Names.length ∧ jv = .int .i64 j ∧ Below wo.heap.size wo wr ∧ wr.cell? ⟨wo.heap.size, 0, none⟩ = some (.int .i64 y.Number) ∧ wr.cell? ⟨wo.heap.size, 1, none⟩ = some (.int .i64 y.Node) ∧ wr.cell? ⟨wo.heap.size, 2, none⟩ = some (.bool y.Closed) ∧ wr.cell? ⟨wo.heap.size, 3, none⟩ = some (.slice A2 y.Names.length e2)) (fun jv _ => y.Names.length - (intOf jv).toNat)
              case atStart => exact ⟨0, Nat.zero_le _, rfl, hbX, y0, y1, y2, y3⟩
              case round =>
                clear y0 y1 y2 y3 hbX
                obtain ⟨j, hj, rfl, hbq, y0, y1, y2, y3⟩ := hrel
                have lyr : wo.heap.size < wr.heap.size := World.block_lt_of_cell? _ _ y0
                by_cases hlj : j < y.Names.length
                · obtain ⟨bm, om, rfl, hbm, c0⟩ := (HY.out.below hbq).str hlj
                  have hjd : (j : Int) < y.Names.length := by omega
                  have hkk := Lib.hid (kN.out y Hym.out (nth y.Names j) (nth_mem hlj))
                  by_cases hnum : y.Number = se
                  · rw [if_pos hnum] at hkk
                    have hq1 : (y.Number == se) = true := by simpa using hnum
                    have hq2 : (y.Number != se) = false := by simpa using hnum
                    have hq3 : decide (y.Number = se) = true := decide_eq_true hnum
                    have Hnum := Lib.hid hnum
                    clear hnum
                    go_wp2_with fail
                    refine (hkk.out _ (HJ.out.below (bl_trans hbr hbq))).mono ?_
                    rintro e VV ⟨rfl, hbv⟩
                    have y0 := cell_later hbv y0
                    have y1 := cell_later hbv y1
                    have y2 := cell_later hbv y2
                    have y3 := cell_later hbv y3
                    have lyv : wo.heap.size < VV.heap.size := World.block_lt_of_cell? _ _ y0
                    have hbq2 := bl_trans hbq hbv
                    clear hbq hbv c0
                    go_wp2
                    go_roundw
                    case rel => exact ⟨j + 1, by omega, by go_num, hbq2, y0, y1, y2, y3⟩
                    case measure => simp [intOf]; omega
                  · rw [if_neg hnum] at hkk
                    have hq1 : (y.Number == se) = false := by simpa using hnum
                    have hq2 : (y.Number != se) = true := by simpa using hnum
                    have hq3 : decide (y.Number = se) = false := decide_eq_false hnum
                    have Hnum := Lib.hid hnum
                    clear hnum
                    go_wp2_with fail
                    refine (hkk.out _ (HJ.out.below (bl_trans hbr hbq))).mono ?_
                    rintro e VV ⟨rfl, hbv⟩
                    have y0 := cell_later hbv y0
                    have y1 := cell_later hbv y1
                    have y2 := cell_later hbv y2
                    have y3 := cell_later hbv y3
                    have lyv : wo.heap.size < VV.heap.size := World.block_lt_of_cell? _ _ y0
                    have hbq2 := bl_trans hbq hbv
                    clear hbq hbv c0
                    go_wp2
                    go_roundw
                    case rel => exact ⟨j + 1, by omega, by go_num, hbq2, y0, y1, y2, y3⟩
                    case measure => simp [intOf]; omega
                · have hnj : ¬ ((j : Int) < y.Names.length) := by omega
                  have hb6 := bl_trans hbr hbq
                  clear y0 y1 y2 y3
                  go_wp2
                  go_roundw
                  case rel => exact ⟨i + 1, by omega, by go_num, hb6⟩
                  case measure => simp [intOf]; omega
            · have hni : ¬ ((i : Int) < v.length) := by omega
              have hb7 := bl_trans hRel hbr
              go_wp2_with fail
              go_meet
              exact hb7
      case rest => as_aux_lemma =>
        obtain ⟨V35, hVV⟩ : ∃ V, V = wc := ⟨_, rfl⟩
        have hb35 := hcut
        clear hcut
        subst hVV
        have hB35 := bl_trans (a := V28) (bl_refl _) hb35
        have hk35 := bl_trans hk28 hB35
        have z35 := Lib.hid hB35.size
        have v_35 := v_28.below hB35
        have j_35 := j_28.below hB35
        have g_35 := g_28.below hB35
        clear hk28 v_28 j_28 g_28
        clear v_35 j_35 g_35
        clear kJi kJs Hhjf HhJ Hhvp HhJp hvl hs2z hcv hcj hcg hJl
        go_wp2_with fail
        refine (drawRelease_any A1 n1 c1 x1 _ (hx1.below hk35)).mono ?_
        rintro e V36 ⟨z, A_z, c_z, F_z, k5, r, k6, rfl, hzl, hzp, hrz, ho_z, hb36⟩
        have hB36 := bl_trans (a := V35) (bl_refl _) hb36
        have hk36 := bl_trans hk35 hB36
        have z36 := Lib.hid hB36.size
        clear hk35
        have hcz := ho_z.cap
        obtain ⟨⟨R, rk⟩, hR⟩ : ∃ R, rlF z k5 r = R := ⟨_, rfl⟩
        obtain ⟨hRl, hRp⟩ := rl_any hR
        have kRi := Lib.hid (show ∀ (W : World) (hs0 : Sl W A_z z.length z), Calls Try.prog 38 #[.slice A_z z.length c_z, .int .i64 k5, .string r] W fun e w' => ∃ A c F, e = .returned (.tuple #[.slice A R.length c, .bool rk]) ∧ OwnX incidentN w' W.heap.size 76 9 (.slice A R.length c) R F ∧ Below W.heap.size W w' from fun W hs0 => by have h := implReleaseFrom_any z k5 r A_z _ c_z W (by unfold maxLen; omega) (by omega) hcz hs0 (fun x hx y hy => by have := (hzp x hx).2 y hy; unfold maxLen; omega) (fun x hx => by have := (hzp x hx).1; omega); rw [hR] at h; exact h)
        have kRs := Lib.hid (show ∀ (W : World) (hs0 : Sl W A_z z.length z), Calls Try.prog 50 #[.slice A_z z.length c_z, .int .i64 k5, .string r] W fun e w' => ∃ A c F, e = .returned (.tuple #[.slice A R.length c, .bool rk]) ∧ OwnX incidentN w' W.heap.size 76 9 (.slice A R.length c) R F ∧ Below W.heap.size W w' from fun W hs0 => by have h := specReleaseFrom_any z k5 r A_z _ c_z W (by unfold maxLen; omega) (by omega) hcz hs0 (fun x hx y hy => by have := (hzp x hx).2 y hy; unfold maxLen; omega) (fun x hx => by have := (hzp x hx).1; omega); rw [hR] at h; exact h)
        have HhR := Lib.hid hR
        clear hR
        have Hhzp := Lib.hid hzp
        clear hzp
        have HhRp := Lib.hid hRp
        clear hRp
        go_wp2_with fail
        refine (kRi.out _ ho_z.sl).mono ?_
        rintro e V37 ⟨A_p, c_p, F_p, rfl, ho_p, hb37⟩
        have hB37 := bl_trans (a := V36) (bl_refl _) hb37
        have hk37 := bl_trans hk36 hB37
        have z37 := Lib.hid hB37.size
        have z_37 := ho_z.below hB37
        clear hk36 ho_z
        go_wp2_with fail
        refine (kRs.out _ z_37.sl).mono ?_
        rintro e V38 ⟨A_q, c_q, F_q, rfl, ho_q, hb38⟩
        have hB38 := bl_trans (a := V37) (bl_refl _) hb38
        have hk38 := bl_trans hk37 hB38
        have z38 := Lib.hid hB38.size
        have z_38 := z_37.below hB38
        have p_38 := ho_p.below hB38
        clear hk37 z_37 ho_p
        go_wp2_with fail
        refine (pSameIncidents_same _ _ _ _ _ R _ (by omega) (fun x hx => by have := (HhRp.out x hx).1; omega) p_38.sl ho_q.sl).mono ?_
        rintro e V39 ⟨rfl, hb39⟩
        have hB39 := bl_trans (a := V38) (bl_refl _) hb39
        have hk39 := bl_trans hk38 hB39
        have z39 := Lib.hid hB39.size
        have z_39 := z_38.below hB39
        have p_39 := p_38.below hB39
        have q_39 := ho_q.below hB39
        clear hk38 z_38 p_38 ho_q
        go_wp2
        go_ret
        exact ⟨rfl, hk39⟩
instance : Ok Byt := ⟨fun x => 0 ≤ x.v ∧ x.v ≤ 255⟩
theorem opens_u8 {P : Program} {t : TypeId} (ht : P.underlying t = some (.int .u8)) : Opens P t Byt := fun h => by
  obtain ⟨n, rfl, _, hw⟩ := DataW.trod_int ht h
  exact ⟨⟨n⟩, rfl, by simpa [Ok.ok, Lit.wf, IntKind.min, IntKind.max, IntKind.signed, IntKind.bits] using hw⟩

open Go.WideShapes Go.ChangeShapes Go.ChangeAt
theorem own_ : ownKnob Try.prog.godebug = none := by kernel_rfl
theorem laid_ : laidOutB Try.prog = true := by kernel_rfl
set_option maxRecDepth 100000 in
theorem contract_ (H : Type) (enc : TypeId × Value → H) (W : World) (base : Nat) (args : Array Value) (ds gs : List (DataW H)) (before : List MemPlace)
    (hval : ∀ (j : Nat) t v, Try.f5.params[j]? = some t → args[j]? = some v → Value.okWide Try.prog W .any base t v)
    (hW : DataW.Whole enc Try.prog Try.f5.params.toList Rows.fnCommitmentsSpec.vars false W args.toList ds gs before) :
    Calls Try.prog 5 args W fun e W' => ∃ v, e = .returned v ∧ Rows.fnCommitmentsSpec.post enc Try.prog Try.f5 false true false false W args v W' := by
  have hW' := hW
  obtain ⟨p, q, hA0, hV, rfl, hfz, hnd⟩ := hW
  have hA : DataW.TrodAll enc Try.prog W 0 (fun _ => true) true Try.f5.params.toList args.toList ds p := hA0
  rw [Try.params5] at hA hval
  obtain ⟨v0, vs0, d0, ds0, p0, q0, hargs, rfl, rfl, h0, r0⟩ := trodAll_cons hA
  obtain ⟨v1, vs1, d1, ds1, p1, q1, rfl, rfl, rfl, h1, r1⟩ := trodAll_cons r0
  obtain ⟨rfl, rfl, rfl⟩ := trodAll_nil r1
  obtain rfl : args = #[v0, v1] := by cases args; simp_all
  obtain ⟨rfl, rfl⟩ := trodVars_none hV
  obtain ⟨A0, n0, c0, rfl⟩ := okWide_slice Try.underlying34 (hval 0 _ v0 rfl rfl)
  obtain ⟨fuel0, h0⟩ := h0
  obtain ⟨x0, ⟨A0', c0', e0, hs0, hm0⟩, ho0⟩ := opens_slice Try.underlying34 (by kernel_rfl) ((opens_u8 Try.underlying5)) h0
  obtain ⟨rfl, rfl, rfl⟩ : A0 = A0' ∧ n0 = x0.length ∧ c0 = c0' := by simpa [Value.cells] using e0
  have hm0 : (x0.length : Int) ≤ 9223372036854775807 := by unfold maxLen at hm0; omega
  obtain ⟨A1, n1, c1, rfl⟩ := okWide_slice Try.underlying34 (hval 1 _ v1 rfl rfl)
  obtain ⟨fuel1, h1⟩ := h1
  obtain ⟨x1, ⟨A1', c1', e1, hs1, hm1⟩, ho1⟩ := opens_slice Try.underlying34 (by kernel_rfl) ((opens_u8 Try.underlying5)) h1
  obtain ⟨rfl, rfl, rfl⟩ : A1 = A1' ∧ n1 = x1.length ∧ c1 = c1' := by simpa [Value.cells] using e1
  have hm1 : (x1.length : Int) ≤ 9223372036854775807 := by unfold maxLen at hm1; omega
  refine (walk A0 _ c0 x0 A1 _ c1 x1 W ⟨hs0, hm0, ho0⟩ ⟨hs1, hm1, ho1⟩).mono fun e W' ⟨he, hb⟩ => ?_
  exact ⟨_, he, post_law laid_ Try.underlying4 rfl rfl (by kernel_rfl) ⟨rfl, rfl, rfl⟩ hW' hb⟩

set_option maxRecDepth 100000 in
theorem lifted_ (os : Os) (started : os.Started) (H : Type) (enc : TypeId × Value → H) :
    ReturnsInHanded {} Try.checked os 5 .any (Rows.fnCommitmentsSpec.pre6 enc Try.prog Try.f5 Rows.fnCommitmentsRow.domain false) (Rows.fnCommitmentsSpec.post enc Try.prog Try.f5 false true false false) := by
  refine returnsInHanded_of_change (C := Try.checked) own_ started (by kernel_rfl) Try.func5
    (ChangeSpec.witness6 (enc := enc) (C := Try.checked) false ⟨#[], #[.slice none 0 0, .slice none 0 0], []⟩ 8 (by kernel_rfl) (by kernel_rfl) (by kernel_rfl) (by kernel_rfl)) ?_
  intro W base args ds gs before hval0 hW _ _
  exact contract_ H enc W base args ds gs before hval0 hW

theorem proved : Rows.FnCommitmentsSaid :=
  OpenClaim.holds_of_wide 5 Try.f5 rfl rfl rfl rfl rfl rfl rfl ⟨rfl, rfl, rfl, rfl, rfl⟩ rfl rfl rfl rfl rfl (by kernel_rfl) Try.func5 (by kernel_rfl)
    (of_decide_eq_true (by kernel_rfl)) (by unfold Func.isWrapper; first | (rw [if_pos (by decide +kernel)]; kernel_rfl) | (rw [if_neg (by decide +kernel)]; exact ⟨rfl, rfl⟩))
    (fun os started H enc _ => lifted_ os started H enc)

end Go.Proofs.Ytnaadihbkiakeaa.lawCommitments
