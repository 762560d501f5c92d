/-
  The law on Skills: it answers true at every input, and every argument reads as before. No conditions.
-/
import Derived.Test.YtjcjedolhejnaaaGreatDoorSaK
import Derived.Test.YtjcjedolhejnaaaGreatDoorSaI
import Derived.Test.YtjcjedolhejnaaaGreatDoorCurM
import Derived.Test.YtjcjedolhejnaaaGreatDoorCurN
import Derived.Test.YtjcjedolhejnaaaGreatDoorSkX
import Derived.Test.YtjcjedolhejnaaaGreatDoorSkY
import Derived.Test.YtjcjedolhejnaaaGreatDoorStSq
import Derived.Test.YtjcjedolhejnaaaGreatDoorSkZ
import Derived.Test.YtjcjedolhejnaaaGreatDoorJnEnvq
import Derived.Test.YtjcjedolhejnaaaGreatDoorRows
import Derived.Test.YtjcjedolhejnaaaGreatDoorMem3
import Derived.Test.YtjcjedolhejnaaaGreatDoorCards
import Derived.Test.YtjcjedolhejnaaaGreatDoorTie
import Derived.Deep.DeepCutAuto
import Derived.Handed
import Derived.LaidLaws
import Derived.Lay
import Derived.SevenTiedAt
namespace Go.Proofs.YtjcjedolhejnaaaGreatDoor.lawSkills
open Go.RowKit

set_option maxHeartbeats 2000000 in
theorem big_any (A B : Option Addr) (n m c d : Nat) (w : World) :
    Calls Tryz.prog 4 #[.slice A n c, .slice B m d] w fun e w' => (∃ b : Bool, e = .returned (.bool b)) ∧ Below w.heap.size w w' := by
  obtain ⟨L, hL⟩ : ∃ L, IntKind.i64.wrap (1048576 - (n : Int)) = L := ⟨_, rfl⟩
  by_cases h : 1048576 < n
  · have h2 : (1048576 : Int) < n := by omega
    have h3 : decide (1048576 < n) = true := decide_eq_true h
    go_enter Tryz.func4, Tryz.ntmps4
    go_wp2
    go_ret
    exact ⟨⟨_, rfl⟩, bl_refl _⟩
  · have h2 : ¬ (1048576 : Int) < n := by omega
    have h3 : decide (1048576 < n) = false := decide_eq_false h
    go_enter Tryz.func4, Tryz.ntmps4
    go_wp2
    go_ret
    refine ⟨?_, bl_refl _⟩
    cases decide (L < (m : Int))
    · exact .inl rfl
    · exact .inr rfl
set_option maxRecDepth 100000 in
set_option maxHeartbeats 16000000 in
theorem walk (A0 : Option Addr) (n0 c0 : Nat) (x0 : List Byt) (A1 : Option Addr) (n1 c1 : Nat) (x1 : List Byt) (w : World) (he : Env w) (hx0 : CodeIs w A0 n0 x0) (hx1 : CodeIs w A1 n1 x1) :
    Calls Tryz.prog 3 #[.slice A0 n0 c0, .slice A1 n1 c1] w fun e w' => e = .returned (.bool true) ∧ Below w.heap.size w w' := by
  go_enter Tryz.func3, Tryz.ntmps3
  have hk0 := bl_refl w
  go_wp2_with fail
  refine (big_any A0 A1 n0 n1 c0 c1 _).mono ?_
  rintro e V1 ⟨⟨bb, rfl⟩, hb1⟩
  have hB1 := bl_trans (a := w) (bl_refl _) hb1
  have hk1 := bl_trans hk0 hB1
  have z1 := Lib.hid hB1.size
  cases bb
  case true =>
    go_wp2
    go_ret
    exact ⟨rfl, hk1⟩
  go_wp2_with fail
  refine (drawRenew_any A0 n0 c0 x0 _ (hx0.below hk1)).mono ?_
  rintro e V2 ⟨l, A_l, c_l, p, k, u, rfl, hll, hlp, hpz, hkk, huu, ho_l, hb2⟩
  have hB2 := bl_trans (a := V1) (bl_refl _) hb2
  have hk2 := bl_trans hk1 hB2
  have z2 := Lib.hid hB2.size
  clear hk1
  have hcl := ho_l.capK
  obtain ⟨⟨R, ok⟩, hR⟩ : ∃ C, renX l p k u = C := ⟨_, rfl⟩
  have hRz : R.length ≤ 1048576 := by have := renX_len l p k u; rw [hR] at this; exact this
  have hrf : ok = true → skillsB R = true ∧ qualF R p k u = (true, true) ∧ (u < 20000 → qualF R p k (u + 1) = (false, true)) ∧ R.length ≤ 24 ∧ (∀ y, y ∈ R → y.Person.size ≤ 1048576) ∧ (0 ≤ u ∧ u ≤ 20000) := fun h => renew_law (l := l) (x := ⟨p, k, u⟩) (by rw [← h]; exact hR)
  have kRi := Lib.hid (show ∀ (W : World) (hs0 : Sl W A_l l.length l), Calls Tryz.prog 6 #[.slice A_l l.length c_l, .string p, .int .i64 k, .int .i64 u] W fun e w' => ∃ A c, e = .returned (.tuple #[.slice A R.length c, .bool ok]) ∧ Own w' W.heap.size 62 (.slice A R.length c) R ∧ Below W.heap.size W w' from fun W hs0 => by have h := implRenew_any l p k u A_l _ c_l W (by unfold maxLen; omega) (by omega) hs0 (fun x hx => by have := hlp x hx; unfold maxLen; omega); rw [hR] at h; exact h)
  have kRs := Lib.hid (show ∀ (W : World) (hs0 : Sl W A_l l.length l), Calls Tryz.prog 7 #[.slice A_l l.length c_l, .string p, .int .i64 k, .int .i64 u] W fun e w' => ∃ A c, e = .returned (.tuple #[.slice A R.length c, .bool ok]) ∧ Own w' W.heap.size 62 (.slice A R.length c) R ∧ Below W.heap.size W w' from fun W hs0 => by have h := specRenew_any l p k u A_l _ c_l W (by unfold maxLen; omega) (by omega) hs0 (fun x hx => by have := hlp x hx; unfold maxLen; omega) hcl; rw [hR] at h; exact h)
  have Hhrf := Lib.hid hrf
  clear hrf
  have HhR := Lib.hid hR
  clear hR
  have Hhcl := Lib.hid hcl
  clear hcl
  have Hhlp := Lib.hid hlp
  clear hlp
  go_wp2_with fail
  refine (kRi.out _ ho_l.sl).mono ?_
  rintro e V3 ⟨A_r, c_r, rfl, ho_r, hb3⟩
  have hB3 := bl_trans (a := V2) (bl_refl _) hb3
  have hk3 := bl_trans hk2 hB3
  have z3 := Lib.hid hB3.size
  have l_3 := ho_l.below hB3
  clear hk2 ho_l
  go_wp2_with fail
  refine (kRs.out _ l_3.sl).mono ?_
  rintro e V4 ⟨A_s, c_s, rfl, ho_s, hb4⟩
  have hB4 := bl_trans (a := V3) (bl_refl _) hb4
  have hk4 := bl_trans hk3 hB4
  have z4 := Lib.hid hB4.size
  have l_4 := l_3.below hB4
  have r_4 := ho_r.below hB4
  clear hk3 l_3 ho_r
  go_wp2_with fail
  refine (pSameSkills_same _ _ _ _ _ R _ (by omega) r_4.sl ho_s.sl).mono ?_
  rintro e V5 ⟨rfl, hb5⟩
  have hB5 := bl_trans (a := V4) (bl_refl _) hb5
  have hk5 := bl_trans hk4 hB5
  have z5 := Lib.hid hB5.size
  have l_5 := l_4.below hB5
  have r_5 := r_4.below hB5
  have s_5 := ho_s.below hB5
  clear hk4 l_4 r_4 ho_s
  clear l_5 s_5
  go_upto_if 94 with fail
  refine wp_below (fun V6 hb6 => ?_)
  have hB6 := bl_trans (a := V5) (bl_refl _) hb6
  have hk6 := bl_trans hk5 hB6
  have z6 := Lib.hid hB6.size
  have r_6 := r_5.below hB6
  clear hk5 r_5
  go_cut [] (fun wx => Below V6.heap.size V6 wx)
  case first => as_aux_lemma =>
    cases ok
    · skip
      go_wp2_with fail
      go_meet
      exact (bl_refl _)
    · obtain ⟨hr1, hr2, hr3, hr4, hr5, hr6⟩ := Hhrf.out rfl
      have kQ := Lib.hid (show ∀ (W : World) (hs0 : Sl W A_r R.length R), Calls Tryz.prog 9 #[.slice A_r R.length c_r, .string p, .int .i64 k, .int .i64 u] W fun e w' => e = .returned (.tuple #[.bool true, .bool true]) ∧ Below W.heap.size W w' from fun W hs0 => by have h := implIsQualified_any R p k u A_r _ c_r W (by unfold maxLen; omega) (by omega) hs0 (fun x hx => by have := hr5 x hx; unfold maxLen; omega); rw [hr2] at h; exact h)
      have kA := Lib.hid (show ∀ (W : World) (hs0 : Sl W A_r R.length R), Calls Tryz.prog 10 #[.slice A_r R.length c_r] W fun e w' => e = .returned (.bool true) ∧ Below W.heap.size W w' from fun W hs0 => by have h := implAreSkills_any R A_r _ c_r W (by omega) hs0 (fun x hx => by have := hr5 x hx; unfold maxLen; omega); rw [hr1] at h; exact h)
      have kN := Lib.hid (show u < 20000 → ∀ (W : World) (hs0 : Sl W A_r R.length R), Calls Tryz.prog 9 #[.slice A_r R.length c_r, .string p, .int .i64 k, .int .i64 (u + 1)] W fun e w' => e = .returned (.tuple #[.bool false, .bool true]) ∧ Below W.heap.size W w' from fun hu W hs0 => by have h := implIsQualified_any R p k (u + 1) A_r _ c_r W (by unfold maxLen; omega) (by omega) hs0 (fun x hx => by have := hr5 x hx; unfold maxLen; omega); rw [hr3 hu] at h; exact h)
      have Hhr1 := Lib.hid hr1
      clear hr1
      have Hhr2 := Lib.hid hr2
      clear hr2
      have Hhr3 := Lib.hid hr3
      clear hr3
      have Hhr5 := Lib.hid hr5
      clear hr5
      go_wp2_with fail
      refine (kQ.out _ r_6.sl).mono ?_
      rintro e V7 ⟨rfl, hb7⟩
      have hB7 := bl_trans (a := V6) (bl_refl _) hb7
      have hk7 := bl_trans hk6 hB7
      have z7 := Lib.hid hB7.size
      have r_7 := r_6.below hB7
      clear hk6 r_6
      go_wp2_with fail
      refine (kA.out _ r_7.sl).mono ?_
      rintro e V8 ⟨rfl, hb8⟩
      have hB8 := bl_trans (a := V7) (bl_refl _) hb8
      have hk8 := bl_trans hk7 hB8
      have z8 := Lib.hid hB8.size
      have r_8 := r_7.below hB8
      clear hk7 r_7
      by_cases hu : u < 20000
      · have hud : decide (u < 20000) = true := decide_eq_true hu
        have hw1 : IntKind.i64.wrap (u + 1) = u + 1 := IntWalk.i64_in _ (by omega)
        go_wp2_with fail
        refine (kN.out hu _ r_8.sl).mono ?_
        rintro e V9 ⟨rfl, hb9⟩
        have hB9 := bl_trans (a := V8) (bl_refl _) hb9
        have hk9 := bl_trans hk8 hB9
        have z9 := Lib.hid hB9.size
        have r_9 := r_8.below hB9
        clear hk8 r_8
        go_wp2_with fail
        go_meet
        exact (bl_trans (bl_trans hB7 hB8) hB9)
      · have hud : decide (u < 20000) = false := decide_eq_false hu
        go_wp2_with fail
        go_meet
        exact (bl_trans hB7 hB8)
  case rest => as_aux_lemma =>
    obtain ⟨V10, hVV⟩ : ∃ V, V = wc := ⟨_, rfl⟩
    have hb10 := hcut
    clear hcut
    subst hVV
    have hB10 := bl_trans (a := V6) (bl_refl _) hb10
    have hk10 := bl_trans hk6 hB10
    have z10 := Lib.hid hB10.size
    have r_10 := r_6.below hB10
    clear hk6 r_6
    clear r_10
    clear kRi kRs Hhrf HhR Hhcl Hhlp hll hpz hkk huu hRz
    go_wp2_with fail
    refine (drawDrop_any A1 n1 c1 x1 _ (hx1.below hk10)).mono ?_
    rintro e V11 ⟨m, A_m, c_m, q, rfl, hml, hmp, hqz, ho_m, hb11⟩
    have hB11 := bl_trans (a := V10) (bl_refl _) hb11
    have hk11 := bl_trans hk10 hB11
    have z11 := Lib.hid hB11.size
    clear hk10
    obtain ⟨⟨D, dk⟩, hD⟩ : ∃ C, dropF m q = C := ⟨_, rfl⟩
    have hDz : D.length ≤ 1048576 := by have := dropF_len m q; rw [hD] at this; exact this
    have hdf : dk = true → dropF D q = ([], false) ∧ (∀ y, y ∈ D → y ∈ m) ∧ D.length ≤ 24 := fun h => drop_law (by rw [← h]; exact hD)
    have kDi := Lib.hid (show ∀ (W : World) (hs0 : Sl W A_m m.length m), Calls Tryz.prog 12 #[.slice A_m m.length c_m, .string q] W fun e w' => ∃ A c, e = .returned (.tuple #[.slice A D.length c, .bool dk]) ∧ Own w' W.heap.size 62 (.slice A D.length c) D ∧ Below W.heap.size W w' from fun W hs0 => by have h := implDropPerson_any m q A_m _ c_m W (by unfold maxLen; omega) (by omega) hs0 (fun x hx => by have := hmp x hx; unfold maxLen; omega); rw [hD] at h; exact h)
    have kDs := Lib.hid (show ∀ (W : World) (hs0 : Sl W A_m m.length m), Calls Tryz.prog 13 #[.slice A_m m.length c_m, .string q] W fun e w' => ∃ A c, e = .returned (.tuple #[.slice A D.length c, .bool dk]) ∧ Own w' W.heap.size 62 (.slice A D.length c) D ∧ Below W.heap.size W w' from fun W hs0 => by have h := specDropPerson_any m q A_m _ c_m W (by unfold maxLen; omega) (by omega) hs0 (fun x hx => by have := hmp x hx; unfold maxLen; omega); rw [hD] at h; exact h)
    have Hhdf := Lib.hid hdf
    clear hdf
    have HhD := Lib.hid hD
    clear hD
    have Hhmp := Lib.hid hmp
    clear hmp
    go_wp2_with fail
    refine (kDi.out _ ho_m.sl).mono ?_
    rintro e V12 ⟨A_d, c_d, rfl, ho_d, hb12⟩
    have hB12 := bl_trans (a := V11) (bl_refl _) hb12
    have hk12 := bl_trans hk11 hB12
    have z12 := Lib.hid hB12.size
    have m_12 := ho_m.below hB12
    clear hk11 ho_m
    go_wp2_with fail
    refine (kDs.out _ m_12.sl).mono ?_
    rintro e V13 ⟨A_f, c_f, rfl, ho_f, hb13⟩
    have hB13 := bl_trans (a := V12) (bl_refl _) hb13
    have hk13 := bl_trans hk12 hB13
    have z13 := Lib.hid hB13.size
    have m_13 := m_12.below hB13
    have d_13 := ho_d.below hB13
    clear hk12 m_12 ho_d
    go_wp2_with fail
    refine (pSameSkills_same _ _ _ _ _ D _ (by omega) d_13.sl ho_f.sl).mono ?_
    rintro e V14 ⟨rfl, hb14⟩
    have hB14 := bl_trans (a := V13) (bl_refl _) hb14
    have hk14 := bl_trans hk13 hB14
    have z14 := Lib.hid hB14.size
    have m_14 := m_13.below hB14
    have d_14 := d_13.below hB14
    have f_14 := ho_f.below hB14
    clear hk13 m_13 d_13 ho_f
    clear m_14 f_14
    go_upto_if 156 with fail
    refine wp_below (fun V15 hb15 => ?_)
    have hB15 := bl_trans (a := V14) (bl_refl _) hb15
    have hk15 := bl_trans hk14 hB15
    have z15 := Lib.hid hB15.size
    have d_15 := d_14.below hB15
    clear hk14 d_14
    go_cut [] (fun wx => Below V15.heap.size V15 wx)
    case first => as_aux_lemma =>
      cases dk
      · skip
        go_wp2_with fail
        go_meet
        exact (bl_refl _)
      · obtain ⟨hd1, hd2, hd3⟩ := Hhdf.out rfl
        have kE := Lib.hid (show ∀ (W : World) (hs0 : Sl W A_d D.length D), Calls Tryz.prog 12 #[.slice A_d D.length c_d, .string q] W fun e w' => ∃ A c, e = .returned (.tuple #[.slice A 0 c, .bool false]) ∧ Own w' W.heap.size 62 (.slice A 0 c) ([] : List Skill) ∧ Below W.heap.size W w' from fun W hs0 => by have h := implDropPerson_any D q A_d _ c_d W (by unfold maxLen; omega) (by omega) hs0 (fun x hx => by have := Hhmp.out x (hd2 x hx); unfold maxLen; omega); rw [hd1] at h; exact h)
        have Hhd1 := Lib.hid hd1
        clear hd1
        have Hhd2 := Lib.hid hd2
        clear hd2
        go_wp2_with fail
        refine (kE.out _ d_15.sl).mono ?_
        rintro e V16 ⟨A_e, c_e, rfl, ho_e, hb16⟩
        have hB16 := bl_trans (a := V15) (bl_refl _) hb16
        have hk16 := bl_trans hk15 hB16
        have z16 := Lib.hid hB16.size
        have d_16 := d_15.below hB16
        clear hk15 d_15
        clear ho_e
        go_wp2_with fail
        go_meet
        exact hB16
    case rest => as_aux_lemma =>
      obtain ⟨V17, hVV⟩ : ∃ V, V = wc := ⟨_, rfl⟩
      have hb17 := hcut
      clear hcut
      subst hVV
      have hB17 := bl_trans (a := V15) (bl_refl _) hb17
      have hk17 := bl_trans hk15 hB17
      have z17 := Lib.hid hB17.size
      have d_17 := d_15.below hB17
      clear hk15 d_15
      clear d_17
      clear kDi kDs Hhdf HhD Hhmp hml hqz hDz
      go_wp2_with fail
      refine (drawLapse_any A1 n1 c1 x1 _ (hx1.below hk17)).mono ?_
      rintro e V18 ⟨v, A_v, c_v, kd, nd, fr, rfl, hvl, hvp, hkd, hnd, hfr, ho_v, hb18⟩
      have hB18 := bl_trans (a := V17) (bl_refl _) hb18
      have hk18 := bl_trans hk17 hB18
      have z18 := Lib.hid hB18.size
      clear hk17
      obtain ⟨⟨lp, lk⟩, hL⟩ : ∃ C, lapF v kd nd fr = C := ⟨_, rfl⟩
      have hlf : lk = true → ∃ kk : Nat, kd = (kk : Int) ∧ kk < 6 ∧ cntF v lp = (cntL v lp, true) ∧ nth (cntL v lp) kk < nd ∧ fr ≤ lp ∧ (fr < lp → cntF v (lp - 1) = (cntL v (lp - 1), true) ∧ ¬ nth (cntL v (lp - 1)) kk < nd) ∧ (0 ≤ lp ∧ lp ≤ 20000) := fun h => lapse_law (by rw [← h]; exact hL)
      have kLi := Lib.hid (show ∀ (W : World) (hs0 : Sl W A_v v.length v), Calls Tryz.prog 15 #[.slice A_v v.length c_v, .int .i64 kd, .int .i64 nd, .int .i64 fr] W fun e w' => e = .returned (.tuple #[.int .i64 lp, .bool lk]) ∧ Below W.heap.size W w' from fun W hs0 => by have h := implFirstLapse_any v kd nd fr A_v _ c_v W (by omega) hs0 (fun x hx => by have := hvp x hx; unfold maxLen; omega); rw [hL] at h; exact h)
      have kLs := Lib.hid (show ∀ (W : World) (hs0 : Sl W A_v v.length v), Calls Tryz.prog 16 #[.slice A_v v.length c_v, .int .i64 kd, .int .i64 nd, .int .i64 fr] W fun e w' => e = .returned (.tuple #[.int .i64 lp, .bool lk]) ∧ Below W.heap.size W w' from fun W hs0 => by have h := specFirstLapse_any v kd nd fr A_v _ c_v W (by omega) hs0 (fun x hx => by have := hvp x hx; unfold maxLen; omega); rw [hL] at h; exact h)
      have Hhlf := Lib.hid hlf
      clear hlf
      have HhL := Lib.hid hL
      clear hL
      have Hhvp := Lib.hid hvp
      clear hvp
      go_wp2_with fail
      refine (kLi.out _ ho_v.sl).mono ?_
      rintro e V19 ⟨rfl, hb19⟩
      have hB19 := bl_trans (a := V18) (bl_refl _) hb19
      have hk19 := bl_trans hk18 hB19
      have z19 := Lib.hid hB19.size
      have v_19 := ho_v.below hB19
      clear hk18 ho_v
      go_wp2_with fail
      refine (kLs.out _ v_19.sl).mono ?_
      rintro e V20 ⟨rfl, hb20⟩
      have hB20 := bl_trans (a := V19) (bl_refl _) hb20
      have hk20 := bl_trans hk19 hB20
      have z20 := Lib.hid hB20.size
      have v_20 := v_19.below hB20
      clear hk19 v_19
      go_upto_if 195 with fail
      refine wp_below (fun V21 hb21 => ?_)
      have hB21 := bl_trans (a := V20) (bl_refl _) hb21
      have hk21 := bl_trans hk20 hB21
      have z21 := Lib.hid hB21.size
      have v_21 := v_20.below hB21
      clear hk20 v_20
      go_cut [] (fun wx => Below V21.heap.size V21 wx)
      case first => as_aux_lemma =>
        cases lk
        · skip
          go_wp2_with fail
          go_meet
          exact (bl_refl _)
        · obtain ⟨kk, rfl, hk6, hc1, hc2, hc3, hc4, hc5⟩ := Hhlf.out rfl
          clear kLi kLs HhL Hhlf
          obtain ⟨C, hC⟩ : ∃ C, cntL v lp = C := ⟨_, rfl⟩
          have hCn : C.length = 6 := by rw [← hC]; exact cntL_len _ _
          rw [hC] at hc1 hc2
          obtain ⟨N, hN⟩ : ∃ N, nth C kk = N := ⟨_, rfl⟩
          rw [hN] at hc2
          have kCi := Lib.hid (show ∀ (W : World) (hs0 : Sl W A_v v.length v), Calls Tryz.prog 17 #[.slice A_v v.length c_v, .int .i64 lp] W fun e w' => ∃ A c, e = .returned (.tuple #[.slice A 6 c, .bool true]) ∧ Own w' W.heap.size 3 (.slice A 6 c) C ∧ Below W.heap.size W w' from fun W hs0 => by have h := implCountsOn_any v lp A_v _ c_v W (by omega) hs0 (fun x hx => by have := Hhvp.out x hx; unfold maxLen; omega); rw [hc1] at h; exact h.mono fun e w' h => by obtain ⟨A, c, h1, h2, h3⟩ := h; exact ⟨A, c, by rw [← hCn]; exact h1, by rw [← hCn]; exact h2, h3⟩)
          have kCs := Lib.hid (show ∀ (W : World) (hs0 : Sl W A_v v.length v), Calls Tryz.prog 18 #[.slice A_v v.length c_v, .int .i64 lp] W fun e w' => ∃ A c, e = .returned (.tuple #[.slice A 6 c, .bool true]) ∧ Own w' W.heap.size 3 (.slice A 6 c) C ∧ Below W.heap.size W w' from fun W hs0 => by have h := specCountsOn_any v lp A_v _ c_v W (by omega) hs0 (fun x hx => by have := Hhvp.out x hx; unfold maxLen; omega); rw [hc1] at h; exact h.mono fun e w' h => by obtain ⟨A, c, h1, h2, h3⟩ := h; exact ⟨A, c, by rw [← hCn]; exact h1, by rw [← hCn]; exact h2, h3⟩)
          have HCn := Lib.hid hCn
          have HN := Lib.hid hN
          have Hhc1 := Lib.hid hc1
          clear hc1
          have Hhc4 := Lib.hid hc4
          clear hc4
          have HhC := Lib.hid hC
          clear hC
          clear hCn hN
          go_wp2_with fail
          refine (kCi.out _ v_21.sl).mono ?_
          rintro e V22 ⟨A_a, c_a, rfl, ho_a, hb22⟩
          have hB22 := bl_trans (a := V21) (bl_refl _) hb22
          have hk22 := bl_trans hk21 hB22
          have z22 := Lib.hid hB22.size
          have v_22 := v_21.below hB22
          clear hk21 v_21
          go_wp2_with fail
          refine (kCs.out _ v_22.sl).mono ?_
          rintro e V23 ⟨A_b, c_b, rfl, ho_b, hb23⟩
          have hB23 := bl_trans (a := V22) (bl_refl _) hb23
          have hk23 := bl_trans hk22 hB23
          have z23 := Lib.hid hB23.size
          have v_23 := v_22.below hB23
          have a_23 := ho_a.below hB23
          clear hk22 v_22 ho_a
          have hsa := Lib.hid a_23.sl
          have hsb := Lib.hid ho_b.sl
          clear a_23 ho_b
          obtain ⟨bb, ob, rfl, hbb, e0⟩ := hsb.out.int (k := kk) (by omega)
          rw [HN.out] at e0
          go_wp2_with fail
          refine (sameInts_same _ _ _ _ _ C _ (by omega) hsa.out hsb.out).mono ?_
          rintro e V24 ⟨rfl, hb24⟩
          have hB24 := bl_trans (a := V23) (bl_refl _) hb24
          have hk24 := bl_trans hk23 hB24
          have z24 := Lib.hid hB24.size
          have v_24 := v_23.below hB24
          clear hk23 v_23
          have e1 := cell_later hb24 e0
          clear e0 hsa hsb
          have hbl := World.block_lt_of_cell? _ _ e1
          have hkd6 : (kk : Int) < 6 := by omega
          have hnn : decide (N ≥ nd) = false := decide_eq_false (by omega)
          have hnl : decide (lp < fr) = false := decide_eq_false (by omega)
          by_cases hlg : fr < lp
          · have hgd : decide (lp > fr) = true := decide_eq_true hlg
            have hw1 : IntKind.i64.wrap (lp - 1) = lp - 1 := IntWalk.i64_in _ (by omega)
            obtain ⟨hc6, hc7⟩ := Hhc4.out hlg
            obtain ⟨C2, hC2⟩ : ∃ C, cntL v (lp - 1) = C := ⟨_, rfl⟩
            have hCn2 : C2.length = 6 := by rw [← hC2]; exact cntL_len _ _
            rw [hC2] at hc6 hc7
            obtain ⟨N2, hN2⟩ : ∃ N, nth C2 kk = N := ⟨_, rfl⟩
            rw [hN2] at hc7
            have kG := Lib.hid (show ∀ (W : World) (hs0 : Sl W A_v v.length v), Calls Tryz.prog 18 #[.slice A_v v.length c_v, .int .i64 (lp - 1)] W fun e w' => ∃ A c, e = .returned (.tuple #[.slice A 6 c, .bool true]) ∧ Own w' W.heap.size 3 (.slice A 6 c) C2 ∧ Below W.heap.size W w' from fun W hs0 => by have h := specCountsOn_any v (lp - 1) A_v _ c_v W (by omega) hs0 (fun x hx => by have := Hhvp.out x hx; unfold maxLen; omega); rw [hc6] at h; exact h.mono fun e w' h => by obtain ⟨A, c, h1, h2, h3⟩ := h; exact ⟨A, c, by rw [← hCn2]; exact h1, by rw [← hCn2]; exact h2, h3⟩)
            have HN2 := Lib.hid hN2
            have Hhc6 := Lib.hid hc6
            clear hc6
            have HhC2 := Lib.hid hC2
            clear hC2
            clear hCn2 hN2
            go_wp2_with fail
            refine (kG.out _ v_24.sl).mono ?_
            rintro e V25 ⟨A_g, c_g, rfl, ho_g, hb25⟩
            have hB25 := bl_trans (a := V24) (bl_refl _) hb25
            have hk25 := bl_trans hk24 hB25
            have z25 := Lib.hid hB25.size
            have v_25 := v_24.below hB25
            clear hk24 v_24
            obtain ⟨bg, og, rfl, hbg, g0⟩ := ho_g.sl.int (k := kk) (by omega)
            rw [HN2.out] at g0
            clear ho_g e1
            have hnd2 : decide (N2 < nd) = false := decide_eq_false (by omega)
            go_wp2_with fail
            go_meet
            exact (bl_trans (bl_trans (bl_trans hB22 hB23) hB24) hB25)
          · have hgd : decide (lp > fr) = false := decide_eq_false (by omega)
            go_wp2_with fail
            go_meet
            exact (bl_trans (bl_trans hB22 hB23) hB24)
      case rest => as_aux_lemma =>
        obtain ⟨V26, hVV⟩ : ∃ V, V = wc := ⟨_, rfl⟩
        have hb26 := hcut
        clear hcut
        subst hVV
        have hB26 := bl_trans (a := V21) (bl_refl _) hb26
        have hk26 := bl_trans hk21 hB26
        have z26 := Lib.hid hB26.size
        have v_26 := v_21.below hB26
        clear hk21 v_21
        clear v_26
        clear kLi kLs Hhlf HhL Hhvp hvl hkd hnd hfr
        go_wp2_with fail
        refine (drawRarest_any A1 n1 c1 x1 _ (hx1.below hk26)).mono ?_
        rintro e V27 ⟨y, A_y, c_y, dy, rfl, hyl, hyp, hdy, ho_y, hb27⟩
        have hB27 := bl_trans (a := V26) (bl_refl _) hb27
        have hk27 := bl_trans hk26 hB27
        have z27 := Lib.hid hB27.size
        clear hk26
        obtain ⟨⟨ra, rn, rk⟩, hA⟩ : ∃ C, rareF y dy = C := ⟨_, rfl⟩
        have kAi := Lib.hid (show ∀ (W : World) (hs0 : Sl W A_y y.length y), Calls Tryz.prog 21 #[.slice A_y y.length c_y, .int .i64 dy] W fun e w' => e = .returned (.tuple #[.int .i64 ra, .int .i64 rn, .bool rk]) ∧ Below W.heap.size W w' from fun W hs0 => by have h := implRarestKind_any y dy A_y _ c_y W (by omega) hs0 (fun x hx => by have := hyp x hx; unfold maxLen; omega); rw [hA] at h; exact h)
        have kAs := Lib.hid (show ∀ (W : World) (hs0 : Sl W A_y y.length y), Calls Tryz.prog 22 #[.slice A_y y.length c_y, .int .i64 dy] W fun e w' => e = .returned (.tuple #[.int .i64 ra, .int .i64 rn, .bool rk]) ∧ Below W.heap.size W w' from fun W hs0 => by have h := specRarestKind_any y dy A_y _ c_y W (by omega) hs0 (fun x hx => by have := hyp x hx; unfold maxLen; omega); rw [hA] at h; exact h)
        have HhA := Lib.hid hA
        clear hA
        have Hhyp := Lib.hid hyp
        clear hyp
        go_wp2_with fail
        refine (kAi.out _ ho_y.sl).mono ?_
        rintro e V28 ⟨rfl, hb28⟩
        have hB28 := bl_trans (a := V27) (bl_refl _) hb28
        have hk28 := bl_trans hk27 hB28
        have z28 := Lib.hid hB28.size
        have y_28 := ho_y.below hB28
        clear hk27 ho_y
        go_wp2_with fail
        refine (kAs.out _ y_28.sl).mono ?_
        rintro e V29 ⟨rfl, hb29⟩
        have hB29 := bl_trans (a := V28) (bl_refl _) hb29
        have hk29 := bl_trans hk28 hB29
        have z29 := Lib.hid hB29.size
        have y_29 := y_28.below hB29
        clear hk28 y_28
        clear y_29
        clear kAi kAs HhA Hhyp hyl hdy
        go_wp2_with fail
        refine (drawText_any A1 n1 c1 x1 _ (hx1.below hk29)).mono ?_
        rintro e V30 ⟨z, A_z, c_z, rfl, hzl, hzp, ho_z, hb30⟩
        have hB30 := bl_trans (a := V29) (bl_refl _) hb30
        have hk30 := bl_trans hk29 hB30
        have z30 := Lib.hid hB30.size
        clear hk29
        obtain ⟨⟨T, tk⟩, hT⟩ : ∃ C, stF z = C := ⟨_, rfl⟩
        have htk : skillsB z = tk := by have := stK_snd z; rw [hT] at this; exact this.symm
        have htf : tk = true → pkF T = (z, true) ∧ T.size ≤ 1048576 := fun h => text_law (by rw [← h]; exact hT)
        have kTi := Lib.hid (show ∀ (W : World) (_ : Env W) (hs0 : Sl W A_z z.length z), Calls Tryz.prog 24 #[.slice A_z z.length c_z] W fun e w' => e = .returned (.tuple #[.string T, .bool tk]) ∧ Below W.heap.size W w' from fun W he hs0 => by have h := implSkillsText_any z A_z _ c_z W (by omega) hs0 (fun x hx => by have := hzp x hx; unfold maxLen; omega) he.tab; rw [hT] at h; exact h)
        have kTs := Lib.hid (show ∀ (W : World) (hs0 : Sl W A_z z.length z), Calls Tryz.prog 25 #[.slice A_z z.length c_z] W fun e w' => e = .returned (.tuple #[.string T, .bool tk]) ∧ Below W.heap.size W w' from fun W hs0 => by have h := specSkillsText_any z A_z _ c_z W (by omega) hs0 (fun x hx => by have := hzp x hx; unfold maxLen; omega); rw [hT] at h; exact h)
        have kZ := Lib.hid (show ∀ (W : World) (hs0 : Sl W A_z z.length z), Calls Tryz.prog 10 #[.slice A_z z.length c_z] W fun e w' => e = .returned (.bool tk) ∧ Below W.heap.size W w' from fun W hs0 => by have h := implAreSkills_any z A_z _ c_z W (by omega) hs0 (fun x hx => by have := hzp x hx; unfold maxLen; omega); rw [htk] at h; exact h)
        have HhT := Lib.hid hT
        clear hT
        have Hhtk := Lib.hid htk
        clear htk
        have Hhtf := Lib.hid htf
        clear htf
        have Hhzp := Lib.hid hzp
        clear hzp
        go_wp2_with fail
        refine (kTi.out _ (he.below hk30) ho_z.sl).mono ?_
        rintro e V31 ⟨rfl, hb31⟩
        have hB31 := bl_trans (a := V30) (bl_refl _) hb31
        have hk31 := bl_trans hk30 hB31
        have z31 := Lib.hid hB31.size
        have z_31 := ho_z.below hB31
        clear hk30 ho_z
        go_wp2_with fail
        refine (kTs.out _ z_31.sl).mono ?_
        rintro e V32 ⟨rfl, hb32⟩
        have hB32 := bl_trans (a := V31) (bl_refl _) hb32
        have hk32 := bl_trans hk31 hB32
        have z32 := Lib.hid hB32.size
        have z_32 := z_31.below hB32
        clear hk31 z_31
        go_wp2_with fail
        refine (drawParse_any A1 n1 c1 x1 _ (hx1.below hk32)).mono ?_
        rintro e V33 ⟨s, rfl, hsz, hb33⟩
        have hB33 := bl_trans (a := V32) (bl_refl _) hb33
        have hk33 := bl_trans hk32 hB33
        have z33 := Lib.hid hB33.size
        have z_33 := z_32.below hB33
        clear hk32 z_32
        obtain ⟨⟨Q, qk⟩, hQ⟩ : ∃ C, pkF s = C := ⟨_, rfl⟩
        have hQz : Q.length ≤ 1048576 := by have := pkF_len s; rw [hQ] at this; exact this
        have kPi := Lib.hid (show ∀ (W : World) (_ : Env W), Calls Tryz.prog 27 #[.string s] W fun e w' => ∃ A c, e = .returned (.tuple #[.slice A Q.length c, .bool qk]) ∧ Own w' W.heap.size 62 (.slice A Q.length c) Q ∧ Below W.heap.size W w' from fun W he => by have h := implParseSkills_any s W (by omega) he; rw [hQ] at h; exact h)
        have kPs := Lib.hid (show ∀ (W : World), Calls Tryz.prog 28 #[.string s] W fun e w' => ∃ A c, e = .returned (.tuple #[.slice A Q.length c, .bool qk]) ∧ Own w' W.heap.size 62 (.slice A Q.length c) Q ∧ Below W.heap.size W w' from fun W => by have h := specParseSkills_any s W (by omega); rw [hQ] at h; exact h)
        have HhQ := Lib.hid hQ
        clear hQ
        go_wp2_with fail
        refine (kPi.out _ (he.below hk33)).mono ?_
        rintro e V34 ⟨A_p, c_p, rfl, ho_p, hb34⟩
        have hB34 := bl_trans (a := V33) (bl_refl _) hb34
        have hk34 := bl_trans hk33 hB34
        have z34 := Lib.hid hB34.size
        have z_34 := z_33.below hB34
        clear hk33 z_33
        go_wp2_with fail
        refine (kPs.out _).mono ?_
        rintro e V35 ⟨A_q, c_q, rfl, ho_q, hb35⟩
        have hB35 := bl_trans (a := V34) (bl_refl _) hb35
        have hk35 := bl_trans hk34 hB35
        have z35 := Lib.hid hB35.size
        have z_35 := z_34.below hB35
        have p_35 := ho_p.below hB35
        clear hk34 z_34 ho_p
        go_wp2_with fail
        refine (pSameSkills_same _ _ _ _ _ Q _ (by omega) p_35.sl ho_q.sl).mono ?_
        rintro e V36 ⟨rfl, hb36⟩
        have hB36 := bl_trans (a := V35) (bl_refl _) hb36
        have hk36 := bl_trans hk35 hB36
        have z36 := Lib.hid hB36.size
        have z_36 := z_35.below hB36
        have p_36 := p_35.below hB36
        have q_36 := ho_q.below hB36
        clear hk35 z_35 p_35 ho_q
        clear p_36 q_36
        go_wp2_with fail
        refine (kZ.out _ z_36.sl).mono ?_
        rintro e V37 ⟨rfl, hb37⟩
        have hB37 := bl_trans (a := V36) (bl_refl _) hb37
        have hk37 := bl_trans hk36 hB37
        have z37 := Lib.hid hB37.size
        have z_37 := z_36.below hB37
        clear hk36 z_36
        cases tk
        · skip
          go_wp2
          go_ret
          exact ⟨rfl, hk37⟩
        · obtain ⟨ht1, ht2⟩ := Hhtf.out rfl
          have kB := Lib.hid (show ∀ (W : World) (_ : Env W), Calls Tryz.prog 27 #[.string T] W fun e w' => ∃ A c, e = .returned (.tuple #[.slice A z.length c, .bool true]) ∧ Own w' W.heap.size 62 (.slice A z.length c) z ∧ Below W.heap.size W w' from fun W he => by have h := implParseSkills_any T W ht2 he; rw [ht1] at h; exact h)
          have Hht1 := Lib.hid ht1
          clear ht1
          clear ht2
          go_wp2_with fail
          refine (kB.out _ (he.below hk37)).mono ?_
          rintro e V38 ⟨A_k, c_k, rfl, ho_k, hb38⟩
          have hB38 := bl_trans (a := V37) (bl_refl _) hb38
          have hk38 := bl_trans hk37 hB38
          have z38 := Lib.hid hB38.size
          have z_38 := z_37.below hB38
          clear hk37 z_37
          go_wp2_with fail
          refine (pSameSkills_same _ _ _ _ _ z _ (by omega) ho_k.sl z_38.sl).mono ?_
          rintro e V39 ⟨rfl, hb39⟩
          have hB39 := bl_trans (a := V38) (bl_refl _) hb39
          have hk39 := bl_trans hk38 hB39
          have z39 := Lib.hid hB39.size
          have z_39 := z_38.below hB39
          have k_39 := ho_k.below hB39
          clear hk38 z_38 ho_k
          go_wp2
          go_ret
          exact ⟨rfl, hk39⟩
instance : Ok Byt := ⟨fun x => 0 ≤ x.v ∧ x.v ≤ 255⟩
theorem opens_u8 {P : Program} {t : TypeId} (ht : P.underlying t = some (.int .u8)) : Opens P t Byt := fun h => by
  obtain ⟨n, rfl, _, hw⟩ := DataW.trod_int ht h
  exact ⟨⟨n⟩, rfl, by simpa [Ok.ok, Lit.wf, IntKind.min, IntKind.max, IntKind.signed, IntKind.bits] using hw⟩

open Go.WideShapes Go.ChangeShapes Go.ChangeAt
theorem own_ : ownKnob Tryz.prog.godebug = none := by kernel_rfl
theorem laid_ : laidOutB Tryz.prog = true := by kernel_rfl
theorem of_change_and_shaped {H : Type} {enc : TypeId × Value → H} {a : Assume} {C : Checked} {os : Os} {f : FuncId} {fn : Func} {s : ChangeSpec} {conds : List PathCond} {apart fresh handsOn again : Bool} {X : World → Array Value → Prop}
    (hX : ∀ (w w' : World) (args : Array Value), w.heap = w'.heap → X w args → X w' args)
    (own : ownKnob C.prog.godebug = none) (started : os.Started) (noInit : C.prog.inits.idxOf? f = none) (hfn : C.prog.funcs[f]? = some fn)
    (witness : ∃ (w : World) (tape : Tape) (i : Input), w.os = os ∧ (w.forCall tape i).Shaped C.prog ∧ i.vars = [] ∧ Input.okWide C.prog (w.forCall tape i) .any w.heap.size f i ∧
      ((s.pre enc C.prog fn conds apart (w.forCall tape i).memory i.args ∧ X (w.forCall tape i).memory i.args) ∧ sizedMet enc C.prog fn (OpenSpec.ofChange s) apart (w.forCall tape i).memory i.args) ∧ a.holds C.prog (lone (Frame.enter C.prog f i.args .normal) [] (w.forCall tape i)))
    (contract : ∀ (W : World) (base : Nat) (args : Array Value) (ds gs : List (DataW H)) (before : List MemPlace),
      (∀ (j : Nat) t v, fn.params[j]? = some t → args[j]? = some v → Value.okWide C.prog W .any base t v) →
      DataW.Whole enc C.prog fn.params.toList s.vars apart W args.toList ds gs before → X W args → W.ShapedOpen C.prog →
      Calls C.prog f args W fun e W' => ∃ v, e = .returned v ∧ s.post enc C.prog fn apart fresh handsOn again W args v W') :
    ReturnsInHanded a C os f .any (fun w args => (s.pre enc C.prog fn conds apart w args ∧ X w args) ∧ sizedMet enc C.prog fn (OpenSpec.ofChange s) apart w args) (s.post enc C.prog fn apart fresh handsOn again) := by
  refine returnsInHanded_of_calls own started noInit witness ?_
  intro w tape i _ hsh _ hok hpre hholds
  obtain ⟨_, _, _, fn', hfn', _, _, _, _, hval⟩ := hok
  have e : fn' = fn := Option.some.inj (hfn'.symm.trans hfn)
  subst e
  obtain ⟨⟨⟨ds, gs, before, hw, _⟩, hx⟩, _⟩ := hpre
  have hw' := DataW.Whole.of_heap (w' := w.forCall tape i) (by rfl) hw
  refine (contract (w.forCall tape i) w.heap.size i.args ds gs before hval hw' (hX _ _ _ (by rfl) hx) hsh).mono fun e W' ⟨v, he, hp⟩ => ?_
  subst he
  exact ChangeSpec.post_blind hp
set_option maxRecDepth 100000 in
theorem contract_ (H : Type) (enc : TypeId × Value → H) (W : World) (base : Nat) (args : Array Value) (ds gs : List (DataW H)) (before : List MemPlace)
    (hval : ∀ (j : Nat) t v, Tryz.f3.params[j]? = some t → args[j]? = some v → Value.okWide Tryz.prog W .any base t v)
    (hW : DataW.Whole enc Tryz.prog Tryz.f3.params.toList Rows.fnSkillsSpec.vars false W args.toList ds gs before) (hL : laidMetH Tryz.prog Rows.fnSkillsRow.laid W) (hS : W.ShapedOpen Tryz.prog) :
    Calls Tryz.prog 3 args W fun e W' => ∃ v, e = .returned v ∧ Rows.fnSkillsSpec.post enc Tryz.prog Tryz.f3 false true false false W args v W' := by
  have hW' := hW
  obtain ⟨p, q, hA0, hV, rfl, hfz, hnd⟩ := hW
  have hA : DataW.TrodAll enc Tryz.prog W 0 (fun _ => true) true Tryz.f3.params.toList args.toList ds p := hA0
  rw [Tryz.params3] at hA hval
  obtain ⟨v0, vs0, d0, ds0, p0, q0, hargs, rfl, rfl, h0, r0⟩ := trodAll_cons hA
  obtain ⟨v1, vs1, d1, ds1, p1, q1, rfl, rfl, rfl, h1, r1⟩ := trodAll_cons r0
  obtain ⟨rfl, rfl, rfl⟩ := trodAll_nil r1
  obtain rfl : args = #[v0, v1] := by cases args; simp_all
  obtain ⟨rfl, rfl⟩ := trodVars_none hV
  obtain ⟨A0, n0, c0, rfl⟩ := okWide_slice Tryz.underlying22 (hval 0 _ v0 rfl rfl)
  obtain ⟨fuel0, h0⟩ := h0
  obtain ⟨x0, ⟨A0', c0', e0, hs0, hm0⟩, ho0⟩ := opens_slice Tryz.underlying22 (by kernel_rfl) ((opens_u8 Tryz.underlying5)) h0
  obtain ⟨rfl, rfl, rfl⟩ : A0 = A0' ∧ n0 = x0.length ∧ c0 = c0' := by simpa [Value.cells] using e0
  have hm0 : (x0.length : Int) ≤ 9223372036854775807 := by unfold maxLen at hm0; omega
  obtain ⟨A1, n1, c1, rfl⟩ := okWide_slice Tryz.underlying22 (hval 1 _ v1 rfl rfl)
  obtain ⟨fuel1, h1⟩ := h1
  obtain ⟨x1, ⟨A1', c1', e1, hs1, hm1⟩, ho1⟩ := opens_slice Tryz.underlying22 (by kernel_rfl) ((opens_u8 Tryz.underlying5)) h1
  obtain ⟨rfl, rfl, rfl⟩ : A1 = A1' ∧ n1 = x1.length ∧ c1 = c1' := by simpa [Value.cells] using e1
  have hm1 : (x1.length : Int) ≤ 9223372036854775807 := by unfold maxLen at hm1; omega
  refine (walk A0 _ c0 x0 A1 _ c1 x1 W (env_of hL hS) ⟨hs0, hm0, ho0⟩ ⟨hs1, hm1, ho1⟩).mono fun e W' ⟨he, hb⟩ => ?_
  exact ⟨_, he, post_law laid_ Tryz.underlying4 rfl rfl (by kernel_rfl) ⟨rfl, rfl, rfl⟩ hW' hb⟩

set_option maxRecDepth 100000 in
theorem lifted_ (os : Os) (started : os.Started) (H : Type) (enc : TypeId × Value → H) :
    ReturnsInHanded {} Tryz.checked os 3 .any (fun w args => (Rows.fnSkillsSpec.pre enc Tryz.prog Tryz.f3 [] false w args ∧ laidMetH Tryz.prog Rows.fnSkillsRow.laid w) ∧ sizedMet enc Tryz.prog Tryz.f3 (OpenSpec.ofChange Rows.fnSkillsSpec) false w args) (Rows.fnSkillsSpec.post enc Tryz.prog Tryz.f3 false true false false) := by
  refine of_change_and_shaped (C := Tryz.checked) (X := fun w _ => laidMetH Tryz.prog Rows.fnSkillsRow.laid w) (fun _ _ _ hh h => h.of_heap hh) own_ started (by kernel_rfl) Tryz.func3
    (ChangeSpec.witness_shaped (enc := enc) (C := Tryz.checked) (os := os) (X := fun w _ => laidMetH Tryz.prog Rows.fnSkillsRow.laid w) false (World.laidAll Tryz.prog os Rows.fnSkillsRow.laid) #[.slice none 0 0, .slice none 0 0] 8 (World.laidAll_os _ _ _)
      (World.shaped_of_ZipB (by kernel_rfl) (by kernel_rfl)) (by kernel_rfl) (by kernel_rfl) (by kernel_rfl)
      (by rw [MakeChecks.laidMetH_plain _ _ _ (by kernel_rfl)]; exact laidMet_laidAll _ (by kernel_rfl) (by kernel_rfl))) ?_
  intro W base args ds gs before hval0 hW hL hS
  exact contract_ H enc W base args ds gs before hval0 hW hL hS

theorem said : Rows.FnSkillsSaid :=
  OpenClaim.holds_of_wide 3 Tryz.f3 rfl rfl rfl rfl rfl rfl rfl ⟨rfl, rfl, rfl, rfl, rfl⟩ rfl rfl rfl rfl rfl (by kernel_rfl) Tryz.func3 (by kernel_rfl)
    (of_decide_eq_true (by kernel_rfl)) (by unfold Func.isWrapper; first | (rw [if_pos (by decide +kernel)]; kernel_rfl) | (rw [if_neg (by decide +kernel)]; exact ⟨rfl, rfl⟩))
    (fun os started H enc _ => lifted_ os started H enc)
/-- No parameter wants a stand-in. -/
theorem plain (f : FuncId) (fn : Func) (hf : Tryz.pinned.checked.prog.funcNamed "loop.example/g01020/laws.FnSkills" = some f) (hfn : Tryz.pinned.checked.prog.funcs[f]? = some fn) :
    true = Tryz.pinned.checked.prog.looks [] ∧ ∀ (j : Nat) t, fn.params[j]? = some t → Tryz.pinned.checked.prog.wantsStandIn t = false := by
  obtain rfl : f = 3 := Option.some.inj ((show Tryz.prog.funcNamed "loop.example/g01020/laws.FnSkills" = some 3 by kernel_rfl).symm.trans hf) |>.symm
  obtain rfl : fn = Tryz.f3 := (Option.some.inj (Tryz.func3.symm.trans hfn)).symm
  refine ⟨by kernel_rfl, fun j t ht => ?_⟩
  have hall : (Tryz.f3.params.toList.all fun u => !Tryz.prog.wantsStandIn u) = true := by kernel_rfl
  have hm : t ∈ Tryz.f3.params.toList := by simpa using Array.mem_of_getElem? ht
  exact (show Tryz.prog.wantsStandIn t = false by simpa using List.all_eq_true.1 hall t hm)
theorem proved : Rows.FnSkillsCardSaid :=
  Claim7.holds_tied_plain_at .later [] _ _ _ _ said (fun _ h => by cases h) (by kernel_rfl) (fun _ h => by cases h) fnSkills_row_tie rfl ⟨rfl, rfl⟩ (by kernel_rfl) rfl plain (by kernel_rfl)

end Go.Proofs.YtjcjedolhejnaaaGreatDoor.lawSkills
