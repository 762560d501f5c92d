/-
  The law on Incidents: it answers true at every input, and every argument reads as before. No conditions.
-/
import Derived.Test.YtpdblmcflniomaaGreatDoorIv3
import Derived.Test.YtpdblmcflniomaaGreatDoorIv6
import Derived.Test.YtpdblmcflniomaaGreatDoorIv8
import Derived.Test.YtpdblmcflniomaaGreatDoorIv27
import Derived.Test.YtpdblmcflniomaaGreatDoorIv30
import Derived.Test.YtpdblmcflniomaaGreatDoorCuX
import Derived.Test.YtpdblmcflniomaaGreatDoorCuY
import Derived.Test.YtpdblmcflniomaaGreatDoorIv35
import Derived.Test.YtpdblmcflniomaaGreatDoorIv37
import Derived.Test.YtpdblmcflniomaaGreatDoorIv24
import Derived.Test.YtpdblmcflniomaaGreatDoorIv38
import Derived.Test.YtpdblmcflniomaaGreatDoorIcY2
import Derived.Test.YtpdblmcflniomaaGreatDoorIv39
import Derived.Test.YtpdblmcflniomaaGreatDoorIv18
import Derived.Test.YtpdblmcflniomaaGreatDoorIv33
import Derived.Test.YtpdblmcflniomaaGreatDoorPiI
import Derived.Test.YtpdblmcflniomaaGreatDoorIv46
import Derived.Test.YtpdblmcflniomaaGreatDoorIv13
import Derived.Test.YtpdblmcflniomaaGreatDoorRows
import Derived.Test.YtpdblmcflniomaaGreatDoorIv1
import Derived.Test.YtpdblmcflniomaaGreatDoorCards
import Derived.Test.YtpdblmcflniomaaGreatDoorTie
import Derived.Deep.DeepCutAuto
import Derived.Handed
import Derived.LaidLaws
import Derived.Lay
import Derived.SevenTiedAt
namespace Go.Proofs.YtpdblmcflniomaaGreatDoor.lawIncidents
open Go.RowKit

theorem op_any {xs O : List Incident} {node n : Int} {ok : Bool} (h : opF xs node = (O, n, ok)) : O.length ≤ 8 ∧ SmI O := by
  cases ok with
  | true => exact incs_small (op_small h).1
  | false =>
    unfold opF at h
    split at h
    · cases h
    · injection h with h _; subst h; exact ⟨by simp, sm_nil⟩
theorem cl_any {xs C : List Incident} {k : Int} {ok : Bool} (h : clF xs k = (C, ok)) : C.length ≤ 8 ∧ SmI C := by
  cases ok with
  | true => exact incs_small (close_lawI h).2.2.2.2.2.2.2.2
  | false =>
    unfold clF at h
    split at h
    · cases h
    · injection h with h _; subst h; exact ⟨by simp, sm_nil⟩
theorem sumI_take (xs : List Incident) (k : Nat) : sumIncident (xs.take k) ≤ sumIncident xs := by
  unfold sumIncident
  conv => rhs; rw [← List.take_append_drop k xs, List.map_append, List.sum_append]
  omega
theorem itx_snd (number node : Int) (closed : Bool) (xs : List ByteArray) : (itxF number node closed xs).2 = incB number node closed xs := by
  unfold itxF; split
  · rename_i h; rw [h]
  · rename_i h; exact (Bool.eq_false_iff.2 h).symm
set_option maxHeartbeats 2000000 in
theorem big_any (A B : Option Addr) (n m c d : Nat) (w : World) :
    Calls Tryz.prog 4 #[.slice A n c, .slice B m d] w fun e w' => (∃ b : Bool, e = .returned (.bool b)) ∧ Below w.heap.size w w' := by
  obtain ⟨L, hL⟩ : ∃ L, IntKind.i64.wrap (1048576 - (n : Int)) = L := ⟨_, rfl⟩
  by_cases h : 1048576 < n
  · have h2 : (1048576 : Int) < n := by omega
    have h3 : decide (1048576 < n) = true := decide_eq_true h
    go_enter Tryz.func4, Tryz.ntmps4
    go_wp2
    go_ret
    exact ⟨⟨_, rfl⟩, bl_refl _⟩
  · have h2 : ¬ (1048576 : Int) < n := by omega
    have h3 : decide (1048576 < n) = false := decide_eq_false h
    go_enter Tryz.func4, Tryz.ntmps4
    go_wp2
    go_ret
    refine ⟨?_, bl_refl _⟩
    cases decide (L < (m : Int))
    · exact .inl rfl
    · exact .inr rfl
set_option maxRecDepth 100000 in
set_option maxHeartbeats 16000000 in
theorem walk (A0 : Option Addr) (n0 c0 : Nat) (x0 : List Byt) (A1 : Option Addr) (n1 c1 : Nat) (x1 : List Byt) (w : World) (he : Env w) (hx0 : CodeIs w A0 n0 x0) (hx1 : CodeIs w A1 n1 x1) :
    Calls Tryz.prog 3 #[.slice A0 n0 c0, .slice A1 n1 c1] w fun e w' => e = .returned (.bool true) ∧ Below w.heap.size w w' := by
  go_enter Tryz.func3, Tryz.ntmps3
  have hk0 := bl_refl w
  go_wp2_with fail
  refine (big_any A0 A1 n0 n1 c0 c1 _).mono ?_
  rintro e V1 ⟨⟨bb, rfl⟩, hb1⟩
  have hB1 := bl_trans (a := w) (bl_refl _) hb1
  have hk1 := bl_trans hk0 hB1
  have z1 := Lib.hid hB1.size
  cases bb
  case true =>
    go_wp2
    go_ret
    exact ⟨rfl, hk1⟩
  go_wp2_with fail
  refine (drawOpen_any A0 n0 c0 x0 _ (hx0.below hk1)).mono ?_
  rintro e V2 ⟨l, A_l, c_l, F_l, k, s0, k0, rfl, hll, hlp, hs0z, ho_l, hb2⟩
  have hB2 := bl_trans (a := V1) (bl_refl _) hb2
  have hk2 := bl_trans hk1 hB2
  have z2 := Lib.hid hB2.size
  clear hk1
  clear hs0z
  have hcl := ho_l.cap
  obtain ⟨⟨O, nu, ok⟩, hO⟩ : ∃ R, opF l k = R := ⟨_, rfl⟩
  obtain ⟨hOl, hOp⟩ := op_any hO
  have hof : ok = true → O.length = l.length + 1 ∧ O.length ≤ 8 ∧ (nth O l.length).Number = nu ∧ (nth O l.length).Node = k ∧ incsB O = true := fun h => open_lawI (by rw [← h]; exact hO)
  have kOi := Lib.hid (show ∀ (W : World) (hs0 : Sl W A_l l.length l), Calls Tryz.prog 6 #[.slice A_l l.length c_l, .int .i64 k] W fun e w' => ∃ A c F, e = .returned (.tuple #[.slice A O.length c, .int .i64 nu, .bool ok]) ∧ OwnX incidentN w' W.heap.size 32 9 (.slice A O.length c) O F ∧ Below W.heap.size W w' from fun W hs0 => by have h := implOpenIncident_any l k A_l _ c_l W (by omega) hcl hs0 (fun x hx y hy => by have := (hlp x hx).2 y hy; unfold maxLen; omega) (fun x hx => by have := (hlp x hx).1; omega); rw [hO] at h; exact h)
  have kOs := Lib.hid (show ∀ (W : World) (hs0 : Sl W A_l l.length l), Calls Tryz.prog 7 #[.slice A_l l.length c_l, .int .i64 k] W fun e w' => ∃ A c F, e = .returned (.tuple #[.slice A O.length c, .int .i64 nu, .bool ok]) ∧ OwnX incidentN w' W.heap.size 32 9 (.slice A O.length c) O F ∧ Below W.heap.size W w' from fun W hs0 => by have h := specOpenIncident_any l k A_l _ c_l W (by omega) hcl hs0 (fun x hx y hy => by have := (hlp x hx).2 y hy; unfold maxLen; omega) (fun x hx => by have := (hlp x hx).1; omega); rw [hO] at h; exact h)
  have Hhof := Lib.hid hof
  clear hof
  have HhO := Lib.hid hO
  clear hO
  have Hhlp := Lib.hid hlp
  clear hlp
  have HhOp := Lib.hid hOp
  clear hOp
  go_wp2_with fail
  refine (kOi.out _ ho_l.sl).mono ?_
  rintro e V3 ⟨A_o, c_o, F_o, rfl, ho_o, hb3⟩
  have hB3 := bl_trans (a := V2) (bl_refl _) hb3
  have hk3 := bl_trans hk2 hB3
  have z3 := Lib.hid hB3.size
  have l_3 := ho_l.below hB3
  clear hk2 ho_l
  have hco := ho_o.cap
  go_wp2_with fail
  refine (kOs.out _ l_3.sl).mono ?_
  rintro e V4 ⟨A_d, c_d, F_d, rfl, ho_d, hb4⟩
  have hB4 := bl_trans (a := V3) (bl_refl _) hb4
  have hk4 := bl_trans hk3 hB4
  have z4 := Lib.hid hB4.size
  have l_4 := l_3.below hB4
  have o_4 := ho_o.below hB4
  clear hk3 l_3 ho_o
  go_wp2_with fail
  refine (pSameIncidents_same _ _ _ _ _ O _ (by omega) (fun x hx => by have := (HhOp.out x hx).1; omega) o_4.sl ho_d.sl).mono ?_
  rintro e V5 ⟨rfl, hb5⟩
  have hB5 := bl_trans (a := V4) (bl_refl _) hb5
  have hk5 := bl_trans hk4 hB5
  have z5 := Lib.hid hB5.size
  have l_5 := l_4.below hB5
  have o_5 := o_4.below hB5
  have d_5 := ho_d.below hB5
  clear hk4 l_4 o_4 ho_d
  have Hsd := Lib.hid d_5.sl
  clear d_5 l_5
  go_upto_region 8 with fail
  refine wp_below (fun V6 hb6 => ?_)
  have hB6 := bl_trans (a := V5) (bl_refl _) hb6
  have hk6 := bl_trans hk5 hB6
  have z6 := Lib.hid hB6.size
  have o_6 := o_5.below hB6
  clear hk5 o_5
  go_cut [125] (fun sb wx => sb = .bool false ∧ Below V6.heap.size V6 wx)
  case first => as_aux_lemma =>
    cases ok
    · skip
      go_wp2_with fail
      go_meet
      exact ⟨rfl, (bl_refl _)⟩
    · obtain ⟨h1, h2, h3, h4, h5⟩ := Hhof.out rfl
      clear Hhof kOi kOs HhO
      have kA := Lib.hid (show ∀ (W : World) (hs0 : Sl W A_o O.length O), Calls Tryz.prog 9 #[.slice A_o O.length c_o] W fun e w' => e = .returned (.bool true) ∧ Below W.heap.size W w' from fun W hs0 => by have h := implAreIncidents_any O A_o _ c_o W (by omega) hco hs0 (fun x hx y hy => by have := (HhOp.out x hx).2 y hy; unfold maxLen; omega); rw [h5] at h; exact h)
      obtain ⟨bd, od, A2, e2, rfl, hbd, d0, d1, d2, d3, _⟩ := (Hsd.out.below hB6).incident (k := l.length) (by omega)
      rw [h3] at d0
      rw [h4] at d1
      clear h3 h4 h5 d2 d3
      have hm1 : l.length < O.length := by omega
      have hm2 : (l.length : Int) < O.length := by omega
      have hw1 : IntKind.i64.wrap ((l.length : Int) + 1) = (O.length : Int) := by rw [IntWalk.i64_in _ (by omega)]; omega
      clear h1
      go_wp2_with fail
      refine (kA.out _ o_6.sl).mono ?_
      rintro e V7 ⟨rfl, hb7⟩
      have hB7 := bl_trans (a := V6) (bl_refl _) hb7
      have hk7 := bl_trans hk6 hB7
      have z7 := Lib.hid hB7.size
      have o_7 := o_6.below hB7
      clear hk6 o_6
      go_wp2_with fail
      go_meet
      exact ⟨rfl, hB7⟩
  case rest => as_aux_lemma =>
    obtain ⟨rfl, hb8⟩ := hcut
    obtain ⟨V8, hVV⟩ : ∃ V, V = wc := ⟨_, rfl⟩
    subst hVV
    have hB8 := bl_trans (a := V6) (bl_refl _) hb8
    have hk8 := bl_trans hk6 hB8
    have z8 := Lib.hid hB8.size
    have o_8 := o_6.below hB8
    clear hk6 o_6
    clear o_8
    clear kOi kOs Hhof HhO Hhlp HhOp hll hcl hco hOl Hsd
    go_wp2_with fail
    refine (drawClose_any A1 n1 c1 x1 _ (hx1.below hk8)).mono ?_
    rintro e V9 ⟨u, A_u, c_u, F_u, k, s0, k0, rfl, hul, hup, hs0z, ho_u, hb9⟩
    have hB9 := bl_trans (a := V8) (bl_refl _) hb9
    have hk9 := bl_trans hk8 hB9
    have z9 := Lib.hid hB9.size
    clear hk8
    clear hs0z
    have hcu := ho_u.cap
    obtain ⟨⟨C, ok⟩, hC⟩ : ∃ R, clF u k = R := ⟨_, rfl⟩
    obtain ⟨hCl, hCp⟩ := cl_any hC
    have hcf : ok = true → openF C = (openL C, true) ∧ openF u = (openL u, true) ∧ (openL C).any (fun x => x == k) = false ∧ (openL u).any (fun x => x == k) = true ∧ (openL C).length + 1 = (openL u).length ∧ (∀ i, i < C.length → (nth C i).Number = k → (nth C i).Names.length = 0) ∧ C.length ≤ 8 ∧ (openL u).length ≤ 8 ∧ incsB C = true := fun h => close_lawI (by rw [← h]; exact hC)
    have kCi := Lib.hid (show ∀ (W : World) (hs0 : Sl W A_u u.length u), Calls Tryz.prog 11 #[.slice A_u u.length c_u, .int .i64 k] W fun e w' => ∃ A c F, e = .returned (.tuple #[.slice A C.length c, .bool ok]) ∧ OwnX incidentN w' W.heap.size 32 9 (.slice A C.length c) C F ∧ Below W.heap.size W w' from fun W hs0 => by have h := implCloseIncident_any u k A_u _ c_u W (by omega) hcu hs0 (fun x hx y hy => by have := (hup x hx).2 y hy; unfold maxLen; omega) (fun x hx => by have := (hup x hx).1; omega); rw [hC] at h; exact h)
    have kCs := Lib.hid (show ∀ (W : World) (hs0 : Sl W A_u u.length u), Calls Tryz.prog 12 #[.slice A_u u.length c_u, .int .i64 k] W fun e w' => ∃ A c F, e = .returned (.tuple #[.slice A C.length c, .bool ok]) ∧ OwnX incidentN w' W.heap.size 32 9 (.slice A C.length c) C F ∧ Below W.heap.size W w' from fun W hs0 => by have h := specCloseIncident_any u k A_u _ c_u W (by omega) hcu hs0 (fun x hx y hy => by have := (hup x hx).2 y hy; unfold maxLen; omega) (fun x hx => by have := (hup x hx).1; omega); rw [hC] at h; exact h)
    have Hhcf := Lib.hid hcf
    clear hcf
    have HhC := Lib.hid hC
    clear hC
    have Hhup := Lib.hid hup
    clear hup
    have HhCp := Lib.hid hCp
    clear hCp
    go_wp2_with fail
    refine (kCi.out _ ho_u.sl).mono ?_
    rintro e V10 ⟨A_c, c_c, F_c, rfl, ho_c, hb10⟩
    have hB10 := bl_trans (a := V9) (bl_refl _) hb10
    have hk10 := bl_trans hk9 hB10
    have z10 := Lib.hid hB10.size
    have u_10 := ho_u.below hB10
    clear hk9 ho_u
    have hcc := ho_c.cap
    go_wp2_with fail
    refine (kCs.out _ u_10.sl).mono ?_
    rintro e V11 ⟨A_d, c_d, F_d, rfl, ho_d, hb11⟩
    have hB11 := bl_trans (a := V10) (bl_refl _) hb11
    have hk11 := bl_trans hk10 hB11
    have z11 := Lib.hid hB11.size
    have u_11 := u_10.below hB11
    have c_11 := ho_c.below hB11
    clear hk10 u_10 ho_c
    have hcd := ho_d.cap
    go_wp2_with fail
    refine (pSameIncidents_same _ _ _ _ _ C _ (by omega) (fun x hx => by have := (HhCp.out x hx).1; omega) c_11.sl ho_d.sl).mono ?_
    rintro e V12 ⟨rfl, hb12⟩
    have hB12 := bl_trans (a := V11) (bl_refl _) hb12
    have hk12 := bl_trans hk11 hB12
    have z12 := Lib.hid hB12.size
    have u_12 := u_11.below hB12
    have c_12 := c_11.below hB12
    have d_12 := ho_d.below hB12
    clear hk11 u_11 c_11 ho_d
    go_upto_if 152 with fail
    refine wp_below (fun V13 hb13 => ?_)
    have hB13 := bl_trans (a := V12) (bl_refl _) hb13
    have hk13 := bl_trans hk12 hB13
    have z13 := Lib.hid hB13.size
    have u_13 := u_12.below hB13
    have c_13 := c_12.below hB13
    have d_13 := d_12.below hB13
    clear hk12 u_12 c_12 d_12
    go_cut [] (fun wx => Below V13.heap.size V13 wx)
    case first => as_aux_lemma =>
      cases ok
      · skip
        go_wp2_with fail
        go_meet
        exact (bl_refl _)
      · obtain ⟨h1, h2, h3, h4, h5, h6, h7, h8, h9⟩ := Hhcf.out rfl
        clear Hhcf kCi kCs HhC h9
        obtain ⟨O, hO⟩ : ∃ O, openL C = O := ⟨_, rfl⟩
        rw [hO] at h1 h3 h5
        obtain ⟨U, hU⟩ : ∃ U, openL u = U := ⟨_, rfl⟩
        rw [hU] at h2 h4 h5 h8
        clear hO hU
        have kO := Lib.hid (show ∀ (W : World) (hs0 : Sl W A_c C.length C), Calls Tryz.prog 13 #[.slice A_c C.length c_c] W fun e w' => ∃ A c, e = .returned (.tuple #[.slice A O.length c, .bool true]) ∧ Own w' W.heap.size 3 (.slice A O.length c) O ∧ Below W.heap.size W w' from fun W hs0 => by have h := implOpenNumbers_any C A_c _ c_c W (by omega) hcc hs0 (fun x hx y hy => by have := (HhCp.out x hx).2 y hy; unfold maxLen; omega); rw [h1] at h; exact h)
        have kP := Lib.hid (show ∀ (W : World) (hs0 : Sl W A_d C.length C), Calls Tryz.prog 14 #[.slice A_d C.length c_d] W fun e w' => ∃ A c, e = .returned (.tuple #[.slice A O.length c, .bool true]) ∧ Own w' W.heap.size 3 (.slice A O.length c) O ∧ Below W.heap.size W w' from fun W hs0 => by have h := specOpenNumbers_any C A_d _ c_d W (by omega) hcd hs0 (fun x hx y hy => by have := (HhCp.out x hx).2 y hy; unfold maxLen; omega); rw [h1] at h; exact h)
        have kQ := Lib.hid (show ∀ (W : World) (hs0 : Sl W A_u u.length u), Calls Tryz.prog 14 #[.slice A_u u.length c_u] W fun e w' => ∃ A c, e = .returned (.tuple #[.slice A U.length c, .bool true]) ∧ Own w' W.heap.size 3 (.slice A U.length c) U ∧ Below W.heap.size W w' from fun W hs0 => by have h := specOpenNumbers_any u A_u _ c_u W (by omega) hcu hs0 (fun x hx y hy => by have := (Hhup.out x hx).2 y hy; unfold maxLen; omega); rw [h2] at h; exact h)
        have hOl : O.length ≤ 8 := by omega
        have Hh1 := Lib.hid h1
        clear h1
        have Hh2 := Lib.hid h2
        clear h2
        have Hh3 := Lib.hid h3
        clear h3
        have Hh4 := Lib.hid h4
        clear h4
        have Hh6 := Lib.hid h6
        clear h6
        go_wp2_with fail
        refine (kO.out _ c_13.sl).mono ?_
        rintro e V14 ⟨A_a, c_a, rfl, ho_a, hb14⟩
        have hB14 := bl_trans (a := V13) (bl_refl _) hb14
        have hk14 := bl_trans hk13 hB14
        have z14 := Lib.hid hB14.size
        have u_14 := u_13.below hB14
        have c_14 := c_13.below hB14
        have d_14 := d_13.below hB14
        clear hk13 u_13 c_13 d_13
        go_wp2_with fail
        refine (kP.out _ d_14.sl).mono ?_
        rintro e V15 ⟨A_b, c_b, rfl, ho_b, hb15⟩
        have hB15 := bl_trans (a := V14) (bl_refl _) hb15
        have hk15 := bl_trans hk14 hB15
        have z15 := Lib.hid hB15.size
        have u_15 := u_14.below hB15
        have c_15 := c_14.below hB15
        have d_15 := d_14.below hB15
        have a_15 := ho_a.below hB15
        clear hk14 u_14 c_14 d_14 ho_a
        go_wp2_with fail
        refine (kQ.out _ u_15.sl).mono ?_
        rintro e V16 ⟨A_g, c_g, rfl, ho_g, hb16⟩
        have hB16 := bl_trans (a := V15) (bl_refl _) hb16
        have hk16 := bl_trans hk15 hB16
        have z16 := Lib.hid hB16.size
        have u_16 := u_15.below hB16
        have c_16 := c_15.below hB16
        have d_16 := d_15.below hB16
        have a_16 := a_15.below hB16
        have b_16 := ho_b.below hB16
        clear hk15 u_15 c_15 d_15 a_15 ho_b
        clear c_16 u_16
        have kp1 := Lib.hid (show ∀ (W : World) (hs0 : Sl W A_b O.length O), Calls Tryz.prog 16 #[.slice A_b O.length c_b, .int .i64 k] W fun e w' => e = .returned (.bool false) ∧ Below W.heap.size W w' from fun W hs0 => by have h := pIn_any O k A_b _ c_b W (by omega) hs0; rw [Hh3.out] at h; exact h)
        have kp2 := Lib.hid (show ∀ (W : World) (hs0 : Sl W A_g U.length U), Calls Tryz.prog 16 #[.slice A_g U.length c_g, .int .i64 k] W fun e w' => e = .returned (.bool true) ∧ Below W.heap.size W w' from fun W hs0 => by have h := pIn_any U k A_g _ c_g W (by omega) hs0; rw [Hh4.out] at h; exact h)
        have hw1 : IntKind.i64.wrap ((U.length : Int) - 1) = (O.length : Int) := by rw [IntWalk.i64_in _ (by omega)]; omega
        go_wp2_with fail
        refine (sameInts_same _ _ _ _ _ O _ (by omega) a_16.sl b_16.sl).mono ?_
        rintro e V17 ⟨rfl, hb17⟩
        have hB17 := bl_trans (a := V16) (bl_refl _) hb17
        have hk17 := bl_trans hk16 hB17
        have z17 := Lib.hid hB17.size
        have d_17 := d_16.below hB17
        have a_17 := a_16.below hB17
        have b_17 := b_16.below hB17
        have g_17 := ho_g.below hB17
        clear hk16 d_16 a_16 b_16 ho_g
        clear a_17
        go_wp2_with fail
        refine (kp1.out _ b_17.sl).mono ?_
        rintro e V18 ⟨rfl, hb18⟩
        have hB18 := bl_trans (a := V17) (bl_refl _) hb18
        have hk18 := bl_trans hk17 hB18
        have z18 := Lib.hid hB18.size
        have d_18 := d_17.below hB18
        have b_18 := b_17.below hB18
        have g_18 := g_17.below hB18
        clear hk17 d_17 b_17 g_17
        clear b_18
        go_wp2_with fail
        refine (kp2.out _ g_18.sl).mono ?_
        rintro e V19 ⟨rfl, hb19⟩
        have hB19 := bl_trans (a := V18) (bl_refl _) hb19
        have hk19 := bl_trans hk18 hB19
        have z19 := Lib.hid hB19.size
        have d_19 := d_18.below hB19
        have g_19 := g_18.below hB19
        clear hk18 d_18 g_18
        clear g_19
        have HD := Lib.hid d_19.sl
        clear d_19
        have hRel : Below V13.heap.size V13 V19 := (bl_trans (bl_trans (bl_trans (bl_trans (bl_trans hB14 hB15) hB16) hB17) hB18) hB19)
        clear kO kP kQ kp1 kp2 Hh1 Hh2 Hh3 Hh4 h5
        go_wp2
        go_loopw [205] (fun iv wr => ∃ i : Nat, i ≤ C.length ∧ iv = .int .i64 i ∧ Below V19.heap.size V19 wr) (fun iv _ => C.length - (intOf iv).toNat)
        case atStart => exact ⟨0, Nat.zero_le _, rfl, bl_refl _⟩
        case round =>
          obtain ⟨i, hi, rfl, hbr⟩ := hrel
          by_cases hlt : i < C.length
          · obtain ⟨bn, on, A2, e2, rfl, hbn, c0, c1', c2', c3, _⟩ := (HD.out.below hbr).incident hlt
            have hi1 : (i : Int) < C.length := by omega
            have h6 := Hh6.out i hlt
            obtain ⟨y, hy⟩ : ∃ y, y = nth C i := ⟨_, rfl⟩
            rw [← hy] at c0 c1' c2' c3 h6
            clear hy
            by_cases hnum : y.Number = k
            · have hq1 : (y.Number == k) = true := by simpa using hnum
              have hq3 : decide (y.Number = k) = true := decide_eq_true hnum
              have hz := h6 hnum
              rw [hz] at c3
              clear h6 hnum hz
              go_wp2
              go_roundw
              case rel => exact ⟨i + 1, by omega, by go_num, by repeat' (first | exact hbr | refine bl_alloc ?_ _ | refine bl_drew ?_ | refine bl_drewN ?_ _)⟩
              case measure => simp [intOf]; omega
            · have hq1 : (y.Number == k) = false := by simpa using hnum
              have hq3 : decide (y.Number = k) = false := decide_eq_false hnum
              clear h6 hnum
              go_wp2
              go_roundw
              case rel => exact ⟨i + 1, by omega, by go_num, by repeat' (first | exact hbr | refine bl_alloc ?_ _ | refine bl_drew ?_ | refine bl_drewN ?_ _)⟩
              case measure => simp [intOf]; omega
          · have hni : ¬ ((i : Int) < C.length) := by omega
            have hnn : decide (i < C.length) = false := decide_eq_false hlt
            have hb7 := bl_trans hRel hbr
            go_wp2_with fail
            go_meet
            exact hb7
    case rest => as_aux_lemma =>
      obtain ⟨V20, hVV⟩ : ∃ V, V = wc := ⟨_, rfl⟩
      have hb20 := hcut
      clear hcut
      subst hVV
      have hB20 := bl_trans (a := V13) (bl_refl _) hb20
      have hk20 := bl_trans hk13 hB20
      have z20 := Lib.hid hB20.size
      have u_20 := u_13.below hB20
      have c_20 := c_13.below hB20
      have d_20 := d_13.below hB20
      clear hk13 u_13 c_13 d_13
      clear u_20 c_20 d_20
      clear kCi kCs Hhcf HhC Hhup HhCp hul hcu hcc hcd hCl
      go_wp2_with fail
      refine (drawFree_any A1 n1 c1 x1 _ (hx1.below hk20)).mono ?_
      rintro e V21 ⟨v, A_v, c_v, F_v, fs, A_f, c_f, rfl, hvl, hvp, hfl, hfp, ho_v, ho_f, hb21⟩
      have hB21 := bl_trans (a := V20) (bl_refl _) hb21
      have hk21 := bl_trans hk20 hB21
      have z21 := Lib.hid hB21.size
      clear hk20
      have hcv := ho_v.cap
      obtain ⟨⟨Fr, tf⟩, hF⟩ : ∃ R, freeF v fs = R := ⟨_, rfl⟩
      obtain ⟨⟨Un, tu⟩, hU⟩ : ∃ R, unF v fs = R := ⟨_, rfl⟩
      obtain ⟨htt, hff⟩ := free_lawI hF hU
      subst htt
      have hFl : Fr.length ≤ 1048576 := by have := freeF_len v fs; rw [hF] at this; exact this
      have hUl : Un.length ≤ 1048576 := by have := unF_len v fs; rw [hU] at this; exact this
      have hf2 : ∀ x, x ∈ fs → x.Name.size ≤ maxLen := fun x hx => by have := hfp x hx; unfold maxLen; omega
      have kFi := Lib.hid (show ∀ (W : World) (hs0 : Sl W A_v v.length v) (hs1 : Sl W A_f fs.length fs), Calls Tryz.prog 18 #[.slice A_v v.length c_v, .slice A_f fs.length c_f] W fun e w' => ∃ A c, e = .returned (.tuple #[.slice A Fr.length c, .bool tf]) ∧ Own w' W.heap.size 9 (.slice A Fr.length c) Fr ∧ Below W.heap.size W w' from fun W hs0 hs1 => by have h := implFreeNames_any v fs A_v A_f _ c_v _ c_f W (by omega) (by omega) hcv hs0 hs1 (fun x hx y hy => by have := (hvp x hx).2 y hy; unfold maxLen; omega) hf2; rw [hF] at h; exact h)
      have kUi := Lib.hid (show ∀ (W : World) (hs0 : Sl W A_v v.length v) (hs1 : Sl W A_f fs.length fs), Calls Tryz.prog 20 #[.slice A_v v.length c_v, .slice A_f fs.length c_f] W fun e w' => ∃ A c, e = .returned (.tuple #[.slice A Un.length c, .bool tf]) ∧ Own w' W.heap.size 9 (.slice A Un.length c) Un ∧ Below W.heap.size W w' from fun W hs0 hs1 => by have h := implUnknownNames_any v fs A_v A_f _ c_v _ c_f W (by omega) (by omega) hcv hs0 hs1 (fun x hx y hy => by have := (hvp x hx).2 y hy; unfold maxLen; omega) hf2; rw [hU] at h; exact h)
      have kFs := Lib.hid (show ∀ (W : World) (hs0 : Sl W A_v v.length v) (hs1 : Sl W A_f fs.length fs), Calls Tryz.prog 19 #[.slice A_v v.length c_v, .slice A_f fs.length c_f] W fun e w' => ∃ A c, e = .returned (.tuple #[.slice A Fr.length c, .bool tf]) ∧ Own w' W.heap.size 9 (.slice A Fr.length c) Fr ∧ Below W.heap.size W w' from fun W hs0 hs1 => by have h := specFreeNames_any v fs A_v A_f _ c_v _ c_f W (by omega) (by omega) hcv hs0 hs1 (fun x hx y hy => by have := (hvp x hx).2 y hy; unfold maxLen; omega) hf2; rw [hF] at h; exact h)
      have kUs := Lib.hid (show ∀ (W : World) (hs0 : Sl W A_v v.length v) (hs1 : Sl W A_f fs.length fs), Calls Tryz.prog 21 #[.slice A_v v.length c_v, .slice A_f fs.length c_f] W fun e w' => ∃ A c, e = .returned (.tuple #[.slice A Un.length c, .bool tf]) ∧ Own w' W.heap.size 9 (.slice A Un.length c) Un ∧ Below W.heap.size W w' from fun W hs0 hs1 => by have h := specUnknownNames_any v fs A_v A_f _ c_v _ c_f W (by omega) (by omega) hcv hs0 hs1 (fun x hx y hy => by have := (hvp x hx).2 y hy; unfold maxLen; omega) hf2; rw [hU] at h; exact h)
      have Hhff := Lib.hid hff
      clear hff
      have HhF := Lib.hid hF
      clear hF
      have HhU := Lib.hid hU
      clear hU
      have Hhvp := Lib.hid hvp
      clear hvp
      have Hhf2 := Lib.hid hf2
      clear hf2
      have Hhfp := Lib.hid hfp
      clear hfp
      go_wp2_with fail
      refine (kFi.out _ ho_v.sl ho_f.sl).mono ?_
      rintro e V22 ⟨A_p, c_p, rfl, ho_p, hb22⟩
      have hB22 := bl_trans (a := V21) (bl_refl _) hb22
      have hk22 := bl_trans hk21 hB22
      have z22 := Lib.hid hB22.size
      have v_22 := ho_v.below hB22
      have f_22 := ho_f.below hB22
      clear hk21 ho_v ho_f
      go_wp2_with fail
      refine (kFs.out _ v_22.sl f_22.sl).mono ?_
      rintro e V23 ⟨A_q, c_q, rfl, ho_q, hb23⟩
      have hB23 := bl_trans (a := V22) (bl_refl _) hb23
      have hk23 := bl_trans hk22 hB23
      have z23 := Lib.hid hB23.size
      have v_23 := v_22.below hB23
      have f_23 := f_22.below hB23
      have p_23 := ho_p.below hB23
      clear hk22 v_22 f_22 ho_p
      go_wp2_with fail
      refine (kUi.out _ v_23.sl f_23.sl).mono ?_
      rintro e V24 ⟨A_r, c_r, rfl, ho_r, hb24⟩
      have hB24 := bl_trans (a := V23) (bl_refl _) hb24
      have hk24 := bl_trans hk23 hB24
      have z24 := Lib.hid hB24.size
      have v_24 := v_23.below hB24
      have f_24 := f_23.below hB24
      have p_24 := p_23.below hB24
      have q_24 := ho_q.below hB24
      clear hk23 v_23 f_23 p_23 ho_q
      go_wp2_with fail
      refine (kUs.out _ v_24.sl f_24.sl).mono ?_
      rintro e V25 ⟨A_t, c_t, rfl, ho_t, hb25⟩
      have hB25 := bl_trans (a := V24) (bl_refl _) hb25
      have hk25 := bl_trans hk24 hB25
      have z25 := Lib.hid hB25.size
      have v_25 := v_24.below hB25
      have f_25 := f_24.below hB25
      have p_25 := p_24.below hB25
      have q_25 := q_24.below hB25
      have r_25 := ho_r.below hB25
      clear hk24 v_24 f_24 p_24 q_24 ho_r
      go_wp2_with fail
      refine (pSameTexts_same _ _ _ _ _ Fr _ (by omega) p_25.sl q_25.sl).mono ?_
      rintro e V26 ⟨rfl, hb26⟩
      have hB26 := bl_trans (a := V25) (bl_refl _) hb26
      have hk26 := bl_trans hk25 hB26
      have z26 := Lib.hid hB26.size
      have v_26 := v_25.below hB26
      have f_26 := f_25.below hB26
      have p_26 := p_25.below hB26
      have q_26 := q_25.below hB26
      have r_26 := r_25.below hB26
      have t_26 := ho_t.below hB26
      clear hk25 v_25 f_25 p_25 q_25 r_25 ho_t
      clear p_26
      go_wp2_with fail
      refine (pSameTexts_same _ _ _ _ _ Un _ (by omega) r_26.sl t_26.sl).mono ?_
      rintro e V27 ⟨rfl, hb27⟩
      have hB27 := bl_trans (a := V26) (bl_refl _) hb27
      have hk27 := bl_trans hk26 hB27
      have z27 := Lib.hid hB27.size
      have v_27 := v_26.below hB27
      have f_27 := f_26.below hB27
      have q_27 := q_26.below hB27
      have r_27 := r_26.below hB27
      have t_27 := t_26.below hB27
      clear hk26 v_26 f_26 q_26 r_26 t_26
      clear r_27 t_27
      go_upto_if 274 with fail
      refine wp_below (fun V28 hb28 => ?_)
      have hB28 := bl_trans (a := V27) (bl_refl _) hb28
      have hk28 := bl_trans hk27 hB28
      have z28 := Lib.hid hB28.size
      have v_28 := v_27.below hB28
      have f_28 := f_27.below hB28
      have q_28 := q_27.below hB28
      clear hk27 v_27 f_27 q_27
      go_cut [] (fun wx => Below V28.heap.size V28 wx)
      case first => as_aux_lemma =>
        cases tf
        · skip
          go_wp2_with fail
          go_meet
          exact (bl_refl _)
        · obtain ⟨h1, h2, h3, h4, h5, h6⟩ := Hhff.out rfl
          clear Hhff kFi kFs kUi kUs HhF HhU
          have HV := Lib.hid v_28.sl
          have HFs := Lib.hid f_28.sl
          have HQ := Lib.hid q_28.sl
          clear v_28 f_28 q_28
          have hRel : Below V28.heap.size V28 V28 := (bl_refl _)
          have Hh6 := Lib.hid h6
          clear h6
          obtain ⟨tot, htot⟩ : ∃ t, sumIncident v = t := ⟨_, rfl⟩
          rw [htot] at h1 h3
          have HT := Lib.hid htot
          obtain ⟨q, hq⟩ : ∃ q, Fr.length + tot = q := ⟨_, rfl⟩
          have hFr : Fr.length ≤ 212 := by omega
          have hw1 : IntKind.i64.wrap ((Fr.length : Int) + (tot : Int)) = (q : Int) := by rw [IntWalk.i64_in _ (by omega)]; omega
          have hw2 : IntKind.i64.wrap ((q : Int) - (Un.length : Int)) = (fs.length : Int) := by rw [IntWalk.i64_in _ (by omega)]; omega
          clear htot h1 hq
          go_wp2
          go_loopw [37, 277] (fun cv iv wr => ∃ i p : Nat, i ≤ v.length ∧ iv = .int .i64 i ∧ cv = .int .i64 p ∧ Hid (p = sumIncident (v.take i)) ∧ Below V28.heap.size V28 wr) (fun _ iv _ => v.length - (intOf iv).toNat)
          case atStart => exact ⟨0, 0, Nat.zero_le _, rfl, rfl, rfl, bl_refl _⟩
          case round =>
            obtain ⟨i, p, hi, rfl, rfl, hps, hbr⟩ := hrel
            by_cases hlt : i < v.length
            · obtain ⟨bn, on, A2, e2, rfl, hbn, c0, c1', c2', c3, _⟩ := (HV.out.below hbr).incident hlt
              have hi1 : (i : Int) < v.length := by omega
              obtain ⟨y, hy⟩ : ∃ y, y = nth v i := ⟨_, rfl⟩
              obtain ⟨yl, hyl⟩ : ∃ yl, y.Names.length = yl := ⟨_, rfl⟩
              obtain ⟨p2, hp2⟩ : ∃ p2 : Nat, p + yl = p2 := ⟨_, rfl⟩
              have HP2 : Hid (p2 = sumIncident (v.take (i + 1))) := by rw [Hid, sumIncident_succ hlt, ← hps.out, ← hy, hyl]; exact hp2.symm
              have hp3 : p2 ≤ 200 := by have := HP2.out; have h5 := sumI_take v (i + 1); rw [HT.out] at h5; omega
              have wp2 : IntKind.i64.wrap ((p : Int) + (yl : Int)) = (p2 : Int) := by rw [IntWalk.i64_in _ (by omega)]; omega
              rw [← hy] at c0 c1' c2' c3
              rw [hyl] at c3
              clear hy hyl hp2 hp3
              go_wp2
              go_roundw
              case rel => exact ⟨i + 1, p2, by omega, by go_num, rfl, HP2.out, by repeat' (first | exact hbr | refine bl_alloc ?_ _ | refine bl_drew ?_ | refine bl_drewN ?_ _)⟩
              case measure => simp [intOf]; omega
            · obtain rfl : i = v.length := by omega
              have hpe : p = tot := by have h5 := hps.out; rw [List.take_length, HT.out] at h5; exact h5
              subst hpe
              have hnn : decide (v.length < v.length) = false := decide_eq_false (Nat.lt_irrefl _)
              obtain ⟨wo, hwo⟩ : ∃ W, W = wr := ⟨_, rfl⟩
              subst hwo
              have hbX := bl_refl wo
              go_wp2
              go_loopw [299] (fun jv wr => ∃ j : Nat, j ≤ fs.length ∧ jv = .int .i64 j ∧ Below wo.heap.size wo wr) (fun jv _ => fs.length - (intOf jv).toNat)
              case atStart => exact ⟨0, Nat.zero_le _, rfl, bl_refl _⟩
              case round =>
                clear hbX
                obtain ⟨j, hj, rfl, hbq⟩ := hrel
                by_cases hjl : j < fs.length
                · obtain ⟨ba, oa, rfl, hba, a0, a1, a2, a3, a4⟩ := (HFs.out.below (bl_trans hbr hbq)).appliance hjl
                  have hj1 : (j : Int) < fs.length := by omega
                  obtain ⟨cn, cb, g1, g2⟩ := Hh6.out j hjl
                  have hsz := Lib.hid (Hhf2.out _ (nth_mem hjl))
                  obtain ⟨y, hy⟩ : ∃ y, y = nth fs j := ⟨_, rfl⟩
                  rw [← hy] at a0 a1 a2 a3 a4 g1 g2 hsz
                  clear hy
                  have kc := Lib.hid (show ∀ (W : World) (hs0 : Sl W A_v v.length v), Calls Tryz.prog 23 #[.slice A_v v.length c_v, .string y.Name] W fun e w' => e = .returned (.tuple #[.int .i64 cn, .bool cb]) ∧ Below W.heap.size W w' from fun W hs0 => by have h := implCommittedTo_any v y.Name A_v _ c_v W hsz.out (by omega) hcv hs0 (fun x hx y hy => by have := (Hhvp.out x hx).2 y hy; unfold maxLen; omega); rw [g1] at h; exact h)
                  have kh := Lib.hid (show ∀ (W : World) (hs0 : Sl W A_q Fr.length Fr), Calls Tryz.prog 24 #[.slice A_q Fr.length c_q, .string y.Name] W fun e w' => e = .returned (.bool (!cb)) ∧ Below W.heap.size W w' from fun W hs0 => by have h := pHas_any Fr y.Name A_q _ c_q W (by omega) hs0; rw [g2] at h; exact h)
                  clear g1 g2
                  obtain ⟨wi, hwi⟩ : ∃ W, W = wr := ⟨_, rfl⟩
                  subst hwi
                  have hbx : Below wi.heap.size wi (wi.alloc (.cells #[.string y.Name, .int .i64 y.Kind, .int .i64 y.Node, .int .i64 y.Crew, .int .i64 y.State] 48)) := bl_alloc (bl_refl _) _
                  go_wp2_with fail
                  refine (kc.out _ (HV.out.below (bl_trans (bl_trans hbr hbq) hbx))).mono ?_
                  rintro e VV ⟨rfl, hbv⟩
                  have y0 : VV.cell? ⟨wi.heap.size, 0, none⟩ = some (.string y.Name) := cell_later hbv (by go_simp)
                  have hbz := bl_trans hbx hbv
                  have hly := World.block_lt_of_cell? _ _ y0
                  clear hbx hbv a0 a1 a2 a3 a4
                  go_wp2_with fail
                  refine (kh.out _ (HQ.out.below (bl_trans (bl_trans hbr hbq) hbz))).mono ?_
                  rintro e VX ⟨rfl, hbv⟩
                  have hbq2 := bl_trans hbq (bl_trans hbz hbv)
                  clear hbz hbv y0 hly
                  cases cb
                  · go_wp2
                    go_roundw
                    case rel => exact ⟨j + 1, by omega, by go_num, hbq2⟩
                    case measure => simp [intOf]; omega
                  · go_wp2
                    go_roundw
                    case rel => exact ⟨j + 1, by omega, by go_num, hbq2⟩
                    case measure => simp [intOf]; omega
                · have hnj : ¬ ((j : Int) < fs.length) := by omega
                  have hnn : decide (j < fs.length) = false := decide_eq_false hjl
                  have hb9 := bl_trans hRel (bl_trans hbr hbq)
                  go_wp2_with fail
                  go_meet
                  exact hb9
      case rest => as_aux_lemma =>
        obtain ⟨V29, hVV⟩ : ∃ V, V = wc := ⟨_, rfl⟩
        have hb29 := hcut
        clear hcut
        subst hVV
        have hB29 := bl_trans (a := V28) (bl_refl _) hb29
        have hk29 := bl_trans hk28 hB29
        have z29 := Lib.hid hB29.size
        have v_29 := v_28.below hB29
        have f_29 := f_28.below hB29
        have q_29 := q_28.below hB29
        clear hk28 v_28 f_28 q_28
        clear v_29 f_29 q_29
        clear kFi kFs kUi kUs Hhff HhF HhU Hhvp Hhf2 Hhfp hvl hfl hcv hFl hUl
        go_wp2_with fail
        refine (drawText_any A1 n1 c1 x1 _ (hx1.below hk29)).mono ?_
        rintro e V30 ⟨x, A_x, c_x, rfl, hxl, hxp, ho_x, hb30⟩
        have hB30 := bl_trans (a := V29) (bl_refl _) hb30
        have hk30 := bl_trans hk29 hB30
        have z30 := Lib.hid hB30.size
        clear hk29
        have hcx := ho_x.cap.1
        obtain ⟨⟨T, tk⟩, hT⟩ : ∃ C, itxF x.Number x.Node x.Closed x.Names = C := ⟨_, rfl⟩
        have htk : incB x.Number x.Node x.Closed x.Names = tk := by have := itx_snd x.Number x.Node x.Closed x.Names; rw [hT] at this; exact this.symm
        have htf : tk = true → piF T = (x, true) := fun h => text_lawI (by rw [← h]; exact hT)
        have hv7 : ∀ y, y ∈ x.Names → y.size ≤ maxLen := fun y hy => by have := hxp y hy; unfold maxLen; omega
        have kTi := Lib.hid (show ∀ (W : World) (_ : Env W) (hs0 : Sl W A_x x.Names.length x.Names), Calls Tryz.prog 26 #[.agg #[.int .i64 x.Number, .int .i64 x.Node, .bool x.Closed, .slice A_x x.Names.length c_x]] W fun e w' => e = .returned (.tuple #[.string T, .bool tk]) ∧ Below W.heap.size W w' from fun W he hs0 => by have h := implIncidentText_any x.Number x.Node x.Closed x.Names A_x _ c_x W (by omega) hs0 hv7 hcx he.tab; rw [hT] at h; exact h)
        have kTs := Lib.hid (show ∀ (W : World) (hs0 : Sl W A_x x.Names.length x.Names), Calls Tryz.prog 27 #[.agg #[.int .i64 x.Number, .int .i64 x.Node, .bool x.Closed, .slice A_x x.Names.length c_x]] W fun e w' => e = .returned (.tuple #[.string T, .bool tk]) ∧ Below W.heap.size W w' from fun W hs0 => by have h := specIncidentText_any x.Number x.Node x.Closed x.Names A_x _ c_x W (by omega) hs0 hv7; rw [hT] at h; exact h)
        have kX := Lib.hid (show ∀ (W : World) (hs0 : Sl W A_x x.Names.length x.Names), Calls Tryz.prog 32 #[.agg #[.int .i64 x.Number, .int .i64 x.Node, .bool x.Closed, .slice A_x x.Names.length c_x]] W fun e w' => e = .returned (.bool tk) ∧ Below W.heap.size W w' from fun W hs0 => by have h := implIsIncident_any x.Number x.Node x.Closed x.Names A_x _ c_x W (by omega) hs0 hv7; rw [htk] at h; exact h)
        have HhT := Lib.hid hT
        clear hT
        have Hhtk := Lib.hid htk
        clear htk
        have Hhtf := Lib.hid htf
        clear htf
        have Hhv7 := Lib.hid hv7
        clear hv7
        have Hhxp := Lib.hid hxp
        clear hxp
        go_wp2_with fail
        refine (kTi.out _ (he.below (bl_trans hk30 (by repeat' (first | exact bl_refl _ | refine bl_alloc ?_ _ | refine bl_drew ?_ | refine bl_drewN ?_ _ | refine bl_set ?_ ?_ _ | (simp; done) | (simp; omega))))) (ho_x.sl.below (by repeat' (first | exact bl_refl _ | refine bl_alloc ?_ _ | refine bl_drew ?_ | refine bl_drewN ?_ _ | refine bl_set ?_ ?_ _ | (simp; done) | (simp; omega))))).mono ?_
        rintro e V31 ⟨rfl, hb31⟩
        have hB31 := bl_trans (a := V30) (by repeat' (first | exact bl_refl _ | refine bl_alloc ?_ _ | refine bl_drew ?_ | refine bl_drewN ?_ _ | refine bl_set ?_ ?_ _ | (simp; done) | (simp; omega))) hb31
        have hk31 := bl_trans hk30 hB31
        have z31 : Hid (V30.heap.size + 1 ≤ V31.heap.size) := by have := hb31.size; simp only [World.size_alloc] at this; exact (by omega : _)
        have x_31 := ho_x.below hB31
        have bbx_0_31 : V31.cell? ⟨V30.heap.size, 0, none⟩ = some (.int .i64 x.Number) := cell_later hb31 (by go_simp)
        have bbx_1_31 : V31.cell? ⟨V30.heap.size, 1, none⟩ = some (.int .i64 x.Node) := cell_later hb31 (by go_simp)
        have bbx_2_31 : V31.cell? ⟨V30.heap.size, 2, none⟩ = some (.bool x.Closed) := cell_later hb31 (by go_simp)
        have bbx_3_31 : V31.cell? ⟨V30.heap.size, 3, none⟩ = some (.slice A_x x.Names.length c_x) := cell_later hb31 (by go_simp)
        have lbx_31 : V30.heap.size < V31.heap.size := World.block_lt_of_cell? _ _ bbx_0_31
        clear hk30 ho_x
        go_wp2_with fail
        refine (kTs.out _ x_31.sl).mono ?_
        rintro e V32 ⟨rfl, hb32⟩
        have hB32 := bl_trans (a := V31) (bl_refl _) hb32
        have hk32 := bl_trans hk31 hB32
        have z32 := Lib.hid hB32.size
        have x_32 := x_31.below hB32
        have bbx_0_32 : V32.cell? ⟨V30.heap.size, 0, none⟩ = some (.int .i64 x.Number) := cell_later hB32 bbx_0_31
        have bbx_1_32 : V32.cell? ⟨V30.heap.size, 1, none⟩ = some (.int .i64 x.Node) := cell_later hB32 bbx_1_31
        have bbx_2_32 : V32.cell? ⟨V30.heap.size, 2, none⟩ = some (.bool x.Closed) := cell_later hB32 bbx_2_31
        have bbx_3_32 : V32.cell? ⟨V30.heap.size, 3, none⟩ = some (.slice A_x x.Names.length c_x) := cell_later hB32 bbx_3_31
        have lbx_32 : V30.heap.size < V32.heap.size := World.block_lt_of_cell? _ _ bbx_0_32
        clear hk31 x_31 bbx_0_31 bbx_1_31 bbx_2_31 bbx_3_31 lbx_31
        go_wp2_with fail
        refine (drawParse_any A1 n1 c1 x1 _ (hx1.below hk32)).mono ?_
        rintro e V33 ⟨s, rfl, hsz, hb33⟩
        have hB33 := bl_trans (a := V32) (bl_refl _) hb33
        have hk33 := bl_trans hk32 hB33
        have z33 := Lib.hid hB33.size
        have x_33 := x_32.below hB33
        have bbx_0_33 : V33.cell? ⟨V30.heap.size, 0, none⟩ = some (.int .i64 x.Number) := cell_later hB33 bbx_0_32
        have bbx_1_33 : V33.cell? ⟨V30.heap.size, 1, none⟩ = some (.int .i64 x.Node) := cell_later hB33 bbx_1_32
        have bbx_2_33 : V33.cell? ⟨V30.heap.size, 2, none⟩ = some (.bool x.Closed) := cell_later hB33 bbx_2_32
        have bbx_3_33 : V33.cell? ⟨V30.heap.size, 3, none⟩ = some (.slice A_x x.Names.length c_x) := cell_later hB33 bbx_3_32
        have lbx_33 : V30.heap.size < V33.heap.size := World.block_lt_of_cell? _ _ bbx_0_33
        clear hk32 x_32 bbx_0_32 bbx_1_32 bbx_2_32 bbx_3_32 lbx_32
        obtain ⟨⟨Q, qk⟩, hQ⟩ : ∃ C, piF s = C := ⟨_, rfl⟩
        have hQz : Q.Names.length ≤ 1048576 := by have := piF_len s; rw [hQ] at this; exact this
        have kPi := Lib.hid (show ∀ (W : World) (_ : Env W), Calls Tryz.prog 29 #[.string s] W fun e w' => ∃ A c, e = .returned (.tuple #[.agg #[.int .i64 Q.Number, .int .i64 Q.Node, .bool Q.Closed, .slice A Q.Names.length c], .bool qk]) ∧ Own w' W.heap.size 9 (.slice A Q.Names.length c) Q.Names ∧ Below W.heap.size W w' from fun W he => by have h := implParseIncident_any s W (by omega) he; rw [hQ] at h; exact h)
        have kPs := Lib.hid (show ∀ (W : World), Calls Tryz.prog 30 #[.string s] W fun e w' => ∃ A c, e = .returned (.tuple #[.agg #[.int .i64 Q.Number, .int .i64 Q.Node, .bool Q.Closed, .slice A Q.Names.length c], .bool qk]) ∧ Own w' W.heap.size 9 (.slice A Q.Names.length c) Q.Names ∧ Below W.heap.size W w' from fun W => by have h := specParseIncident_any s W (by omega); rw [hQ] at h; exact h)
        have HhQ := Lib.hid hQ
        clear hQ
        go_wp2_with fail
        refine (kPi.out _ (he.below hk33)).mono ?_
        rintro e V34 ⟨A_p, c_p, rfl, ho_p, hb34⟩
        have hB34 := bl_trans (a := V33) (bl_refl _) hb34
        have hk34 := bl_trans hk33 hB34
        have z34 := Lib.hid hB34.size
        have x_34 := x_33.below hB34
        have bbx_0_34 : V34.cell? ⟨V30.heap.size, 0, none⟩ = some (.int .i64 x.Number) := cell_later hB34 bbx_0_33
        have bbx_1_34 : V34.cell? ⟨V30.heap.size, 1, none⟩ = some (.int .i64 x.Node) := cell_later hB34 bbx_1_33
        have bbx_2_34 : V34.cell? ⟨V30.heap.size, 2, none⟩ = some (.bool x.Closed) := cell_later hB34 bbx_2_33
        have bbx_3_34 : V34.cell? ⟨V30.heap.size, 3, none⟩ = some (.slice A_x x.Names.length c_x) := cell_later hB34 bbx_3_33
        have lbx_34 : V30.heap.size < V34.heap.size := World.block_lt_of_cell? _ _ bbx_0_34
        clear hk33 x_33 bbx_0_33 bbx_1_33 bbx_2_33 bbx_3_33 lbx_33
        go_wp2_with fail
        refine (kPs.out _).mono ?_
        rintro e V35 ⟨A_q, c_q, rfl, ho_q, hb35⟩
        have hB35 := bl_trans (a := V34) (by repeat' (first | exact bl_refl _ | refine bl_alloc ?_ _ | refine bl_drew ?_ | refine bl_drewN ?_ _ | refine bl_set ?_ ?_ _ | (simp; done) | (simp; omega))) hb35
        have hk35 := bl_trans hk34 hB35
        have z35 : Hid (V34.heap.size + 1 ≤ V35.heap.size) := by have := hb35.size; simp only [World.size_alloc] at this; exact (by omega : _)
        have x_35 := x_34.below hB35
        have p_35 := ho_p.below hB35
        have bbx_0_35 : V35.cell? ⟨V30.heap.size, 0, none⟩ = some (.int .i64 x.Number) := cell_later hB35 bbx_0_34
        have bbx_1_35 : V35.cell? ⟨V30.heap.size, 1, none⟩ = some (.int .i64 x.Node) := cell_later hB35 bbx_1_34
        have bbx_2_35 : V35.cell? ⟨V30.heap.size, 2, none⟩ = some (.bool x.Closed) := cell_later hB35 bbx_2_34
        have bbx_3_35 : V35.cell? ⟨V30.heap.size, 3, none⟩ = some (.slice A_x x.Names.length c_x) := cell_later hB35 bbx_3_34
        have lbx_35 : V30.heap.size < V35.heap.size := World.block_lt_of_cell? _ _ bbx_0_35
        have bbp_0_35 : V35.cell? ⟨V34.heap.size, 0, none⟩ = some (.int .i64 Q.Number) := cell_later hb35 (by go_simp)
        have bbp_1_35 : V35.cell? ⟨V34.heap.size, 1, none⟩ = some (.int .i64 Q.Node) := cell_later hb35 (by go_simp)
        have bbp_2_35 : V35.cell? ⟨V34.heap.size, 2, none⟩ = some (.bool Q.Closed) := cell_later hb35 (by go_simp)
        have bbp_3_35 : V35.cell? ⟨V34.heap.size, 3, none⟩ = some (.slice A_p Q.Names.length c_p) := cell_later hb35 (by go_simp)
        have lbp_35 : V34.heap.size < V35.heap.size := World.block_lt_of_cell? _ _ bbp_0_35
        clear hk34 x_34 ho_p bbx_0_34 bbx_1_34 bbx_2_34 bbx_3_34 lbx_34
        go_wp2_with fail
        refine (pSameIncident_same _ _ _ _ _ _ _ _ Q.Names _ hQz (p_35.sl.below (by repeat' (first | exact bl_refl _ | refine bl_alloc ?_ _ | refine bl_drew ?_ | refine bl_drewN ?_ _ | refine bl_set ?_ ?_ _ | (simp; done) | (simp; omega)))) (ho_q.sl.below (by repeat' (first | exact bl_refl _ | refine bl_alloc ?_ _ | refine bl_drew ?_ | refine bl_drewN ?_ _ | refine bl_set ?_ ?_ _ | (simp; done) | (simp; omega))))).mono ?_
        rintro e V36 ⟨rfl, hb36⟩
        have hB36 := bl_trans (a := V35) (by repeat' (first | exact bl_refl _ | refine bl_alloc ?_ _ | refine bl_drew ?_ | refine bl_drewN ?_ _ | refine bl_set ?_ ?_ _ | (simp; done) | (simp; omega))) hb36
        have hk36 := bl_trans hk35 hB36
        have z36 : Hid (V35.heap.size + 1 ≤ V36.heap.size) := by have := hb36.size; simp only [World.size_alloc] at this; exact (by omega : _)
        have x_36 := x_35.below hB36
        have p_36 := p_35.below hB36
        have q_36 := ho_q.below hB36
        have bbx_0_36 : V36.cell? ⟨V30.heap.size, 0, none⟩ = some (.int .i64 x.Number) := cell_later hB36 bbx_0_35
        have bbx_1_36 : V36.cell? ⟨V30.heap.size, 1, none⟩ = some (.int .i64 x.Node) := cell_later hB36 bbx_1_35
        have bbx_2_36 : V36.cell? ⟨V30.heap.size, 2, none⟩ = some (.bool x.Closed) := cell_later hB36 bbx_2_35
        have bbx_3_36 : V36.cell? ⟨V30.heap.size, 3, none⟩ = some (.slice A_x x.Names.length c_x) := cell_later hB36 bbx_3_35
        have lbx_36 : V30.heap.size < V36.heap.size := World.block_lt_of_cell? _ _ bbx_0_36
        have bbp_0_36 : V36.cell? ⟨V34.heap.size, 0, none⟩ = some (.int .i64 Q.Number) := cell_later hB36 bbp_0_35
        have bbp_1_36 : V36.cell? ⟨V34.heap.size, 1, none⟩ = some (.int .i64 Q.Node) := cell_later hB36 bbp_1_35
        have bbp_2_36 : V36.cell? ⟨V34.heap.size, 2, none⟩ = some (.bool Q.Closed) := cell_later hB36 bbp_2_35
        have bbp_3_36 : V36.cell? ⟨V34.heap.size, 3, none⟩ = some (.slice A_p Q.Names.length c_p) := cell_later hB36 bbp_3_35
        have lbp_36 : V34.heap.size < V36.heap.size := World.block_lt_of_cell? _ _ bbp_0_36
        have bbq_0_36 : V36.cell? ⟨V35.heap.size, 0, none⟩ = some (.int .i64 Q.Number) := cell_later hb36 (by go_simp)
        have bbq_1_36 : V36.cell? ⟨V35.heap.size, 1, none⟩ = some (.int .i64 Q.Node) := cell_later hb36 (by go_simp)
        have bbq_2_36 : V36.cell? ⟨V35.heap.size, 2, none⟩ = some (.bool Q.Closed) := cell_later hb36 (by go_simp)
        have bbq_3_36 : V36.cell? ⟨V35.heap.size, 3, none⟩ = some (.slice A_q Q.Names.length c_q) := cell_later hb36 (by go_simp)
        have lbq_36 : V35.heap.size < V36.heap.size := World.block_lt_of_cell? _ _ bbq_0_36
        clear hk35 x_35 p_35 ho_q bbx_0_35 bbx_1_35 bbx_2_35 bbx_3_35 lbx_35 bbp_0_35 bbp_1_35 bbp_2_35 bbp_3_35 lbp_35
        clear p_36 q_36 bbp_0_36 bbp_1_36 bbp_2_36 bbp_3_36 lbp_36 bbq_0_36 bbq_1_36 bbq_2_36 bbq_3_36 lbq_36
        go_wp2_with fail
        refine (kX.out _ x_36.sl).mono ?_
        rintro e V37 ⟨rfl, hb37⟩
        have hB37 := bl_trans (a := V36) (bl_refl _) hb37
        have hk37 := bl_trans hk36 hB37
        have z37 := Lib.hid hB37.size
        have x_37 := x_36.below hB37
        have bbx_0_37 : V37.cell? ⟨V30.heap.size, 0, none⟩ = some (.int .i64 x.Number) := cell_later hB37 bbx_0_36
        have bbx_1_37 : V37.cell? ⟨V30.heap.size, 1, none⟩ = some (.int .i64 x.Node) := cell_later hB37 bbx_1_36
        have bbx_2_37 : V37.cell? ⟨V30.heap.size, 2, none⟩ = some (.bool x.Closed) := cell_later hB37 bbx_2_36
        have bbx_3_37 : V37.cell? ⟨V30.heap.size, 3, none⟩ = some (.slice A_x x.Names.length c_x) := cell_later hB37 bbx_3_36
        have lbx_37 : V30.heap.size < V37.heap.size := World.block_lt_of_cell? _ _ bbx_0_37
        clear hk36 x_36 bbx_0_36 bbx_1_36 bbx_2_36 bbx_3_36 lbx_36
        cases tk
        · skip
          go_wp2
          go_ret
          exact ⟨rfl, hk37⟩
        · have ht1 := Hhtf.out rfl
          by_cases hts : T.size ≤ 120
          · have htd : (T.size : Int) ≤ 120 := by omega
            have htd2 : decide (T.size ≤ 120) = true := decide_eq_true hts
            have kB := Lib.hid (show ∀ (W : World) (_ : Env W), Calls Tryz.prog 29 #[.string T] W fun e w' => ∃ A c, e = .returned (.tuple #[.agg #[.int .i64 x.Number, .int .i64 x.Node, .bool x.Closed, .slice A x.Names.length c], .bool true]) ∧ Own w' W.heap.size 9 (.slice A x.Names.length c) x.Names ∧ Below W.heap.size W w' from fun W he => by have h := implParseIncident_any T W (by omega) he; rw [ht1] at h; exact h)
            have Hht1 := Lib.hid ht1
            clear ht1
            go_wp2_with fail
            refine (kB.out _ (he.below hk37)).mono ?_
            rintro e V38 ⟨A_k, c_k, rfl, ho_k, hb38⟩
            have hB38 := bl_trans (a := V37) (bl_refl _) hb38
            have hk38 := bl_trans hk37 hB38
            have z38 := Lib.hid hB38.size
            have x_38 := x_37.below hB38
            have bbx_0_38 : V38.cell? ⟨V30.heap.size, 0, none⟩ = some (.int .i64 x.Number) := cell_later hB38 bbx_0_37
            have bbx_1_38 : V38.cell? ⟨V30.heap.size, 1, none⟩ = some (.int .i64 x.Node) := cell_later hB38 bbx_1_37
            have bbx_2_38 : V38.cell? ⟨V30.heap.size, 2, none⟩ = some (.bool x.Closed) := cell_later hB38 bbx_2_37
            have bbx_3_38 : V38.cell? ⟨V30.heap.size, 3, none⟩ = some (.slice A_x x.Names.length c_x) := cell_later hB38 bbx_3_37
            have lbx_38 : V30.heap.size < V38.heap.size := World.block_lt_of_cell? _ _ bbx_0_38
            clear hk37 x_37 bbx_0_37 bbx_1_37 bbx_2_37 bbx_3_37 lbx_37
            go_wp2_with fail
            refine (pSameIncident_same _ _ _ _ _ _ _ _ x.Names _ (by omega) (ho_k.sl.below (by repeat' (first | exact bl_refl _ | refine bl_alloc ?_ _ | refine bl_drew ?_ | refine bl_drewN ?_ _ | refine bl_set ?_ ?_ _ | (simp; done) | (simp; omega)))) (x_38.sl.below (by repeat' (first | exact bl_refl _ | refine bl_alloc ?_ _ | refine bl_drew ?_ | refine bl_drewN ?_ _ | refine bl_set ?_ ?_ _ | (simp; done) | (simp; omega))))).mono ?_
            rintro e V39 ⟨rfl, hb39⟩
            have hB39 := bl_trans (a := V38) (by repeat' (first | exact bl_refl _ | refine bl_alloc ?_ _ | refine bl_drew ?_ | refine bl_drewN ?_ _ | refine bl_set ?_ ?_ _ | (simp; done) | (simp; omega))) hb39
            have hk39 := bl_trans hk38 hB39
            have z39 : Hid (V38.heap.size + 1 ≤ V39.heap.size) := by have := hb39.size; simp only [World.size_alloc] at this; exact (by omega : _)
            have x_39 := x_38.below hB39
            have k_39 := ho_k.below hB39
            have bbx_0_39 : V39.cell? ⟨V30.heap.size, 0, none⟩ = some (.int .i64 x.Number) := cell_later hB39 bbx_0_38
            have bbx_1_39 : V39.cell? ⟨V30.heap.size, 1, none⟩ = some (.int .i64 x.Node) := cell_later hB39 bbx_1_38
            have bbx_2_39 : V39.cell? ⟨V30.heap.size, 2, none⟩ = some (.bool x.Closed) := cell_later hB39 bbx_2_38
            have bbx_3_39 : V39.cell? ⟨V30.heap.size, 3, none⟩ = some (.slice A_x x.Names.length c_x) := cell_later hB39 bbx_3_38
            have lbx_39 : V30.heap.size < V39.heap.size := World.block_lt_of_cell? _ _ bbx_0_39
            have bbk_0_39 : V39.cell? ⟨V38.heap.size, 0, none⟩ = some (.int .i64 x.Number) := cell_later hb39 (by go_simp)
            have bbk_1_39 : V39.cell? ⟨V38.heap.size, 1, none⟩ = some (.int .i64 x.Node) := cell_later hb39 (by go_simp)
            have bbk_2_39 : V39.cell? ⟨V38.heap.size, 2, none⟩ = some (.bool x.Closed) := cell_later hb39 (by go_simp)
            have bbk_3_39 : V39.cell? ⟨V38.heap.size, 3, none⟩ = some (.slice A_k x.Names.length c_k) := cell_later hb39 (by go_simp)
            have lbk_39 : V38.heap.size < V39.heap.size := World.block_lt_of_cell? _ _ bbk_0_39
            clear hk38 x_38 ho_k bbx_0_38 bbx_1_38 bbx_2_38 bbx_3_38 lbx_38
            go_wp2
            go_ret
            exact ⟨rfl, hk39⟩
          · have htd : ¬ (T.size : Int) ≤ 120 := by omega
            have htd2 : decide (T.size ≤ 120) = false := decide_eq_false hts
            go_wp2
            go_ret
            exact ⟨rfl, hk37⟩
instance : Ok Byt := ⟨fun x => 0 ≤ x.v ∧ x.v ≤ 255⟩
theorem opens_u8 {P : Program} {t : TypeId} (ht : P.underlying t = some (.int .u8)) : Opens P t Byt := fun h => by
  obtain ⟨n, rfl, _, hw⟩ := DataW.trod_int ht h
  exact ⟨⟨n⟩, rfl, by simpa [Ok.ok, Lit.wf, IntKind.min, IntKind.max, IntKind.signed, IntKind.bits] using hw⟩

open Go.WideShapes Go.ChangeShapes Go.ChangeAt
theorem own_ : ownKnob Tryz.prog.godebug = none := by kernel_rfl
theorem laid_ : laidOutB Tryz.prog = true := by kernel_rfl
theorem of_change_and_shaped {H : Type} {enc : TypeId × Value → H} {a : Assume} {C : Checked} {os : Os} {f : FuncId} {fn : Func} {s : ChangeSpec} {conds : List PathCond} {apart fresh handsOn again : Bool} {X : World → Array Value → Prop}
    (hX : ∀ (w w' : World) (args : Array Value), w.heap = w'.heap → X w args → X w' args)
    (own : ownKnob C.prog.godebug = none) (started : os.Started) (noInit : C.prog.inits.idxOf? f = none) (hfn : C.prog.funcs[f]? = some fn)
    (witness : ∃ (w : World) (tape : Tape) (i : Input), w.os = os ∧ (w.forCall tape i).Shaped C.prog ∧ i.vars = [] ∧ Input.okWide C.prog (w.forCall tape i) .any w.heap.size f i ∧
      ((s.pre enc C.prog fn conds apart (w.forCall tape i).memory i.args ∧ X (w.forCall tape i).memory i.args) ∧ sizedMet enc C.prog fn (OpenSpec.ofChange s) apart (w.forCall tape i).memory i.args) ∧ a.holds C.prog (lone (Frame.enter C.prog f i.args .normal) [] (w.forCall tape i)))
    (contract : ∀ (W : World) (base : Nat) (args : Array Value) (ds gs : List (DataW H)) (before : List MemPlace),
      (∀ (j : Nat) t v, fn.params[j]? = some t → args[j]? = some v → Value.okWide C.prog W .any base t v) →
      DataW.Whole enc C.prog fn.params.toList s.vars apart W args.toList ds gs before → X W args → W.ShapedOpen C.prog →
      Calls C.prog f args W fun e W' => ∃ v, e = .returned v ∧ s.post enc C.prog fn apart fresh handsOn again W args v W') :
    ReturnsInHanded a C os f .any (fun w args => (s.pre enc C.prog fn conds apart w args ∧ X w args) ∧ sizedMet enc C.prog fn (OpenSpec.ofChange s) apart w args) (s.post enc C.prog fn apart fresh handsOn again) := by
  refine returnsInHanded_of_calls own started noInit witness ?_
  intro w tape i _ hsh _ hok hpre hholds
  obtain ⟨_, _, _, fn', hfn', _, _, _, _, hval⟩ := hok
  have e : fn' = fn := Option.some.inj (hfn'.symm.trans hfn)
  subst e
  obtain ⟨⟨⟨ds, gs, before, hw, _⟩, hx⟩, _⟩ := hpre
  have hw' := DataW.Whole.of_heap (w' := w.forCall tape i) (by rfl) hw
  refine (contract (w.forCall tape i) w.heap.size i.args ds gs before hval hw' (hX _ _ _ (by rfl) hx) hsh).mono fun e W' ⟨v, he, hp⟩ => ?_
  subst he
  exact ChangeSpec.post_blind hp
set_option maxRecDepth 100000 in
theorem contract_ (H : Type) (enc : TypeId × Value → H) (W : World) (base : Nat) (args : Array Value) (ds gs : List (DataW H)) (before : List MemPlace)
    (hval : ∀ (j : Nat) t v, Tryz.f3.params[j]? = some t → args[j]? = some v → Value.okWide Tryz.prog W .any base t v)
    (hW : DataW.Whole enc Tryz.prog Tryz.f3.params.toList Rows.fnIncidentsSpec.vars false W args.toList ds gs before) (hL : laidMetH Tryz.prog Rows.fnIncidentsRow.laid W) (hS : W.ShapedOpen Tryz.prog) :
    Calls Tryz.prog 3 args W fun e W' => ∃ v, e = .returned v ∧ Rows.fnIncidentsSpec.post enc Tryz.prog Tryz.f3 false true false false W args v W' := by
  have hW' := hW
  obtain ⟨p, q, hA0, hV, rfl, hfz, hnd⟩ := hW
  have hA : DataW.TrodAll enc Tryz.prog W 0 (fun _ => true) true Tryz.f3.params.toList args.toList ds p := hA0
  rw [Tryz.params3] at hA hval
  obtain ⟨v0, vs0, d0, ds0, p0, q0, hargs, rfl, rfl, h0, r0⟩ := trodAll_cons hA
  obtain ⟨v1, vs1, d1, ds1, p1, q1, rfl, rfl, rfl, h1, r1⟩ := trodAll_cons r0
  obtain ⟨rfl, rfl, rfl⟩ := trodAll_nil r1
  obtain rfl : args = #[v0, v1] := by cases args; simp_all
  obtain ⟨rfl, rfl⟩ := trodVars_none hV
  obtain ⟨A0, n0, c0, rfl⟩ := okWide_slice Tryz.underlying22 (hval 0 _ v0 rfl rfl)
  obtain ⟨fuel0, h0⟩ := h0
  obtain ⟨x0, ⟨A0', c0', e0, hs0, hm0⟩, ho0⟩ := opens_slice Tryz.underlying22 (by kernel_rfl) ((opens_u8 Tryz.underlying5)) h0
  obtain ⟨rfl, rfl, rfl⟩ : A0 = A0' ∧ n0 = x0.length ∧ c0 = c0' := by simpa [Value.cells] using e0
  have hm0 : (x0.length : Int) ≤ 9223372036854775807 := by unfold maxLen at hm0; omega
  obtain ⟨A1, n1, c1, rfl⟩ := okWide_slice Tryz.underlying22 (hval 1 _ v1 rfl rfl)
  obtain ⟨fuel1, h1⟩ := h1
  obtain ⟨x1, ⟨A1', c1', e1, hs1, hm1⟩, ho1⟩ := opens_slice Tryz.underlying22 (by kernel_rfl) ((opens_u8 Tryz.underlying5)) h1
  obtain ⟨rfl, rfl, rfl⟩ : A1 = A1' ∧ n1 = x1.length ∧ c1 = c1' := by simpa [Value.cells] using e1
  have hm1 : (x1.length : Int) ≤ 9223372036854775807 := by unfold maxLen at hm1; omega
  refine (walk A0 _ c0 x0 A1 _ c1 x1 W (env_of hL hS) ⟨hs0, hm0, ho0⟩ ⟨hs1, hm1, ho1⟩).mono fun e W' ⟨he, hb⟩ => ?_
  exact ⟨_, he, post_law laid_ Tryz.underlying4 rfl rfl (by kernel_rfl) ⟨rfl, rfl, rfl⟩ hW' hb⟩

set_option maxRecDepth 100000 in
theorem lifted_ (os : Os) (started : os.Started) (H : Type) (enc : TypeId × Value → H) :
    ReturnsInHanded {} Tryz.checked os 3 .any (fun w args => (Rows.fnIncidentsSpec.pre enc Tryz.prog Tryz.f3 [] false w args ∧ laidMetH Tryz.prog Rows.fnIncidentsRow.laid w) ∧ sizedMet enc Tryz.prog Tryz.f3 (OpenSpec.ofChange Rows.fnIncidentsSpec) false w args) (Rows.fnIncidentsSpec.post enc Tryz.prog Tryz.f3 false true false false) := by
  refine of_change_and_shaped (C := Tryz.checked) (X := fun w _ => laidMetH Tryz.prog Rows.fnIncidentsRow.laid w) (fun _ _ _ hh h => h.of_heap hh) own_ started (by kernel_rfl) Tryz.func3
    (ChangeSpec.witness_shaped (enc := enc) (C := Tryz.checked) (os := os) (X := fun w _ => laidMetH Tryz.prog Rows.fnIncidentsRow.laid w) false (World.laidAll Tryz.prog os Rows.fnIncidentsRow.laid) #[.slice none 0 0, .slice none 0 0] 8 (World.laidAll_os _ _ _)
      (World.shaped_of_ZipB (by kernel_rfl) (by kernel_rfl)) (by kernel_rfl) (by kernel_rfl) (by kernel_rfl)
      (by rw [MakeChecks.laidMetH_plain _ _ _ (by kernel_rfl)]; exact laidMet_laidAll _ (by kernel_rfl) (by kernel_rfl))) ?_
  intro W base args ds gs before hval0 hW hL hS
  exact contract_ H enc W base args ds gs before hval0 hW hL hS

theorem said : Rows.FnIncidentsSaid :=
  OpenClaim.holds_of_wide 3 Tryz.f3 rfl rfl rfl rfl rfl rfl rfl ⟨rfl, rfl, rfl, rfl, rfl⟩ rfl rfl rfl rfl rfl (by kernel_rfl) Tryz.func3 (by kernel_rfl)
    (of_decide_eq_true (by kernel_rfl)) (by unfold Func.isWrapper; first | (rw [if_pos (by decide +kernel)]; kernel_rfl) | (rw [if_neg (by decide +kernel)]; exact ⟨rfl, rfl⟩))
    (fun os started H enc _ => lifted_ os started H enc)
/-- No parameter wants a stand-in. -/
theorem plain (f : FuncId) (fn : Func) (hf : Tryz.pinned.checked.prog.funcNamed "loop.example/g01020/laws.FnIncidents" = some f) (hfn : Tryz.pinned.checked.prog.funcs[f]? = some fn) :
    true = Tryz.pinned.checked.prog.looks [] ∧ ∀ (j : Nat) t, fn.params[j]? = some t → Tryz.pinned.checked.prog.wantsStandIn t = false := by
  obtain rfl : f = 3 := Option.some.inj ((show Tryz.prog.funcNamed "loop.example/g01020/laws.FnIncidents" = some 3 by kernel_rfl).symm.trans hf) |>.symm
  obtain rfl : fn = Tryz.f3 := (Option.some.inj (Tryz.func3.symm.trans hfn)).symm
  refine ⟨by kernel_rfl, fun j t ht => ?_⟩
  have hall : (Tryz.f3.params.toList.all fun u => !Tryz.prog.wantsStandIn u) = true := by kernel_rfl
  have hm : t ∈ Tryz.f3.params.toList := by simpa using Array.mem_of_getElem? ht
  exact (show Tryz.prog.wantsStandIn t = false by simpa using List.all_eq_true.1 hall t hm)
theorem proved : Rows.FnIncidentsCardSaid :=
  Claim7.holds_tied_plain_at .later [] _ _ _ _ said (fun _ h => by cases h) (by kernel_rfl) (fun _ h => by cases h) fnIncidents_row_tie rfl ⟨rfl, rfl⟩ (by kernel_rfl) rfl plain (by kernel_rfl)

end Go.Proofs.YtpdblmcflniomaaGreatDoor.lawIncidents
