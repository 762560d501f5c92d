/-
  The law on Sessions: it answers true at every input, and every argument reads as before. No conditions.
-/
import Derived.Test.YtgjnjfaohpmhkaaSesSm
import Derived.Test.YtgjnjfaohpmhkaaSesC
import Derived.Test.YtgjnjfaohpmhkaaSesB
import Derived.Test.YtgjnjfaohpmhkaaRow
import Derived.Test.YtgjnjfaohpmhkaaRows
import Derived.Test.YtgjnjfaohpmhkaaMem3
import Derived.Deep.DeepCutAuto
namespace Go.Proofs.Ytgjnjfaohpmhkaa.lawSessions
open Go.RowKit

set_option maxHeartbeats 2000000 in
theorem big_any (A B : Option Addr) (n m c d : Nat) (w : World) :
    Calls Try.prog 14 #[.slice A n c, .slice B m d] w fun e w' => (∃ b : Bool, e = .returned (.bool b)) ∧ Below w.heap.size w w' := by
  obtain ⟨L, hL⟩ : ∃ L, IntKind.i64.wrap (1048576 - (n : Int)) = L := ⟨_, rfl⟩
  by_cases h : 1048576 < n
  · have h2 : (1048576 : Int) < n := by omega
    have h3 : decide (1048576 < n) = true := decide_eq_true h
    go_enter Try.func14, Try.ntmps14
    go_wp2
    go_ret
    exact ⟨⟨_, rfl⟩, bl_refl _⟩
  · have h2 : ¬ (1048576 : Int) < n := by omega
    have h3 : decide (1048576 < n) = false := decide_eq_false h
    go_enter Try.func14, Try.ntmps14
    go_wp2
    go_ret
    refine ⟨?_, bl_refl _⟩
    cases decide (L < (m : Int))
    · exact .inl rfl
    · exact .inr rfl
set_option maxRecDepth 100000 in
set_option maxHeartbeats 16000000 in
theorem walk (A0 : Option Addr) (n0 c0 : Nat) (x0 : List Byt) (A1 : Option Addr) (n1 c1 : Nat) (x1 : List Byt) (w : World) (hx0 : CodeIs w A0 n0 x0) (hx1 : CodeIs w A1 n1 x1) :
    Calls Try.prog 4 #[.slice A0 n0 c0, .slice A1 n1 c1] w fun e w' => e = .returned (.bool true) ∧ Below w.heap.size w w' := by
  go_enter Try.func4, Try.ntmps4
  have hk0 := bl_refl w
  go_wp2_with fail
  refine (big_any A0 A1 n0 n1 c0 c1 _).mono ?_
  rintro e V1 ⟨⟨bb, rfl⟩, hb1⟩
  have hB1 := bl_trans (a := w) (bl_refl _) hb1
  have hk1 := bl_trans hk0 hB1
  have z1 := Lib.hid hB1.size
  cases bb
  case true =>
    go_wp2
    go_ret
    exact ⟨rfl, hk1⟩
  go_wp2_with fail
  refine (drawSessions_any A0 n0 c0 x0 _ (hx0.below hk1)).mono ?_
  rintro e V2 ⟨l, A_l, c_l, dy, ah, st, rfl, hll, hlp, hdy, hah, hst, ho_l, hb2⟩
  have hB2 := bl_trans (a := V1) (bl_refl _) hb2
  have hk2 := bl_trans hk1 hB2
  have z2 := Lib.hid hB2.size
  clear hk1
  obtain ⟨⟨R, ok⟩, hR⟩ : ∃ C, ssF l dy ah st = C := ⟨_, rfl⟩
  obtain ⟨⟨D, dk⟩, hD⟩ : ∃ C, dueF l dy ah = C := ⟨_, rfl⟩
  have hRz : R.length ≤ 1048576 ∧ (R.length : Int) + sumInts R ≤ 1048576 := by have := ssF_len l dy ah st; rw [hR] at this; exact this
  have hDz : D.length ≤ 1048576 := by have := dueF_len l dy ah; rw [hD] at this; exact this
  have hsf : ok = true → SesLaw l dy ah st R D dk := fun h => ses_law (by rw [← h]; exact hR) hD
  have kRi := Lib.hid (show ∀ (W : World) (hs0 : Sl W A_l l.length l), Calls Try.prog 8 #[.slice A_l l.length c_l, .int .i64 dy, .int .i64 ah, .int .i64 st] W fun e w' => ∃ A c F, e = .returned (.tuple #[.slice A R.length c, .bool ok]) ∧ OwnX intsN w' W.heap.size 38 3 (.slice A R.length c) R F ∧ Below W.heap.size W w' from fun W hs0 => by have h := implSessionsFor_any l dy ah st A_l _ c_l W (by omega) hs0 (fun x hx => by have := hlp x hx; unfold maxLen; omega); rw [hR] at h; exact h)
  have kDi := Lib.hid (show ∀ (W : World) (hs0 : Sl W A_l l.length l), Calls Try.prog 16 #[.slice A_l l.length c_l, .int .i64 dy, .int .i64 ah] W fun e w' => ∃ A c, e = .returned (.tuple #[.slice A D.length c, .bool dk]) ∧ Own w' W.heap.size 3 (.slice A D.length c) D ∧ Below W.heap.size W w' from fun W hs0 => by have h := implDueSkills_any l dy ah A_l _ c_l W (by omega) hs0 (fun x hx => by have := hlp x hx; unfold maxLen; omega); rw [hD] at h; exact h)
  have kRs := Lib.hid (show ∀ (W : World) (hs0 : Sl W A_l l.length l), Calls Try.prog 6 #[.slice A_l l.length c_l, .int .i64 dy, .int .i64 ah, .int .i64 st] W fun e w' => ∃ A c F, e = .returned (.tuple #[.slice A R.length c, .bool ok]) ∧ OwnX intsN w' W.heap.size 38 3 (.slice A R.length c) R F ∧ Below W.heap.size W w' from fun W hs0 => by have h := specSessionsFor_any l dy ah st A_l _ c_l W (by omega) hs0 (fun x hx => by have := hlp x hx; unfold maxLen; omega); rw [hR] at h; exact h)
  have kDs := Lib.hid (show ∀ (W : World) (hs0 : Sl W A_l l.length l), Calls Try.prog 17 #[.slice A_l l.length c_l, .int .i64 dy, .int .i64 ah] W fun e w' => ∃ A c, e = .returned (.tuple #[.slice A D.length c, .bool dk]) ∧ Own w' W.heap.size 3 (.slice A D.length c) D ∧ Below W.heap.size W w' from fun W hs0 => by have h := specDueSkills_any l dy ah A_l _ c_l W (by omega) hs0 (fun x hx => by have := hlp x hx; unfold maxLen; omega); rw [hD] at h; exact h)
  have hRi := ints_in hRz.2
  have hRl := hRz.1
  have Hhsf := Lib.hid hsf
  clear hsf
  have HhR := Lib.hid hR
  clear hR
  have HhD := Lib.hid hD
  clear hD
  have Hhlp := Lib.hid hlp
  clear hlp
  have HhRz := Lib.hid hRz
  clear hRz
  have HhRi := Lib.hid hRi
  clear hRi
  go_wp2_with fail
  refine (kRi.out _ ho_l.sl).mono ?_
  rintro e V3 ⟨A_r, c_r, F_r, rfl, ho_r, hb3⟩
  have hB3 := bl_trans (a := V2) (bl_refl _) hb3
  have hk3 := bl_trans hk2 hB3
  have z3 := Lib.hid hB3.size
  have l_3 := ho_l.below hB3
  clear hk2 ho_l
  go_wp2_with fail
  refine (kRs.out _ l_3.sl).mono ?_
  rintro e V4 ⟨A_s, c_s, F_s, rfl, ho_s, hb4⟩
  have hB4 := bl_trans (a := V3) (bl_refl _) hb4
  have hk4 := bl_trans hk3 hB4
  have z4 := Lib.hid hB4.size
  have l_4 := l_3.below hB4
  have r_4 := ho_r.below hB4
  clear hk3 l_3 ho_r
  go_wp2_with fail
  refine (kDi.out _ l_4.sl).mono ?_
  rintro e V5 ⟨A_d, c_d, rfl, ho_d, hb5⟩
  have hB5 := bl_trans (a := V4) (bl_refl _) hb5
  have hk5 := bl_trans hk4 hB5
  have z5 := Lib.hid hB5.size
  have l_5 := l_4.below hB5
  have r_5 := r_4.below hB5
  have s_5 := ho_s.below hB5
  clear hk4 l_4 r_4 ho_s
  go_wp2_with fail
  refine (kDs.out _ l_5.sl).mono ?_
  rintro e V6 ⟨A_f, c_f, rfl, ho_f, hb6⟩
  have hB6 := bl_trans (a := V5) (bl_refl _) hb6
  have hk6 := bl_trans hk5 hB6
  have z6 := Lib.hid hB6.size
  have l_6 := l_5.below hB6
  have r_6 := r_5.below hB6
  have s_6 := s_5.below hB6
  have d_6 := ho_d.below hB6
  clear hk5 l_5 r_5 s_5 ho_d
  go_upto_region 8 with fail
  refine wp_below (fun V7 hb7 => ?_)
  have hB7 := bl_trans (a := V6) (bl_refl _) hb7
  have hk7 := bl_trans hk6 hB7
  have z7 := Lib.hid hB7.size
  have l_7 := l_6.below hB7
  have r_7 := r_6.below hB7
  have s_7 := s_6.below hB7
  have d_7 := d_6.below hB7
  have f_7 := ho_f.below hB7
  clear hk6 l_6 r_6 s_6 d_6 ho_f
  go_cut [122] (fun sb wx => sb = .bool false ∧ Below V7.heap.size V7 wx)
  case first => as_aux_lemma =>
    go_wp2_with fail
    refine (sameLists_same _ _ _ _ _ R _ (by omega) HhRi.out r_7.sl s_7.sl).mono ?_
    rintro e V8 ⟨rfl, hb8⟩
    have hB8 := bl_trans (a := V7) (bl_refl _) hb8
    have hk8 := bl_trans hk7 hB8
    have z8 := Lib.hid hB8.size
    have l_8 := l_7.below hB8
    have r_8 := r_7.below hB8
    have s_8 := s_7.below hB8
    have d_8 := d_7.below hB8
    have f_8 := f_7.below hB8
    clear hk7 l_7 r_7 s_7 d_7 f_7
    go_wp2_with fail
    refine (sameInts_same _ _ _ _ _ D _ (by omega) d_8.sl f_8.sl).mono ?_
    rintro e V9 ⟨rfl, hb9⟩
    have hB9 := bl_trans (a := V8) (bl_refl _) hb9
    have hk9 := bl_trans hk8 hB9
    have z9 := Lib.hid hB9.size
    have l_9 := l_8.below hB9
    have r_9 := r_8.below hB9
    have s_9 := s_8.below hB9
    have d_9 := d_8.below hB9
    have f_9 := f_8.below hB9
    clear hk8 l_8 r_8 s_8 d_8 f_8
    cases ok
    · skip
      go_wp2_with fail
      go_meet
      exact ⟨rfl, (bl_trans hB8 hB9)⟩
    · obtain rfl := (Hhsf.out rfl).dk
      go_wp2_with fail
      go_meet
      exact ⟨rfl, (bl_trans hB8 hB9)⟩
  case rest => as_aux_lemma =>
    obtain ⟨rfl, hb10⟩ := hcut
    obtain ⟨V10, hVV⟩ : ∃ V, V = wc := ⟨_, rfl⟩
    subst hVV
    have hB10 := bl_trans (a := V7) (bl_refl _) hb10
    have hk10 := bl_trans hk7 hB10
    have z10 := Lib.hid hB10.size
    have l_10 := l_7.below hB10
    have r_10 := r_7.below hB10
    have s_10 := s_7.below hB10
    have d_10 := d_7.below hB10
    have f_10 := f_7.below hB10
    clear hk7 l_7 r_7 s_7 d_7 f_7
    clear r_10 d_10
    go_upto_if 123 with fail
    refine wp_below (fun V11 hb11 => ?_)
    have hB11 := bl_trans (a := V10) (bl_refl _) hb11
    have hk11 := bl_trans hk10 hB11
    have z11 := Lib.hid hB11.size
    have l_11 := l_10.below hB11
    have s_11 := s_10.below hB11
    have f_11 := f_10.below hB11
    clear hk10 l_10 s_10 f_10
    go_cut [] (fun wx => Below V11.heap.size V11 wx)
    case first => as_aux_lemma =>
      cases ok
      · skip
        go_wp2_with fail
        go_meet
        exact (bl_refl _)
      · have HA := Hhsf.out rfl
        clear kRi kRs kDi kDs HhR HhD Hhsf HhRi
        have HL := Lib.hid l_11.sl
        have HS := Lib.hid s_11.sl
        have HF := Lib.hid f_11.sl
        clear l_11 s_11 f_11
        have hRel : Below V11.heap.size V11 V11 := (bl_refl _)
        go_wp2
        go_loopw [17, 126] (fun cv iv wr => ∃ i p : Nat, i ≤ R.length ∧ iv = .int .i64 i ∧ cv = .int .i64 p ∧ p ≤ 1048576 ∧ Hid (p = sumInts (R.take i)) ∧ Below V11.heap.size V11 wr) (fun _ iv _ => R.length - (intOf iv).toNat)
        case atStart => exact ⟨0, 0, Nat.zero_le _, rfl, rfl, by omega, rfl, bl_refl _⟩
        case round =>
          obtain ⟨i, p, hi, rfl, rfl, hp, hps, hbr⟩ := hrel
          by_cases hlt : i < R.length
          · obtain ⟨bn, on, A2, e2, rfl, hbn, c0, hr1, _⟩ := (HS.out.below hbr).ints hlt
            obtain ⟨h1, h2, hat⟩ := HA.at_ hlt
            obtain ⟨r, hr⟩ : ∃ r, nth R i = r := ⟨_, rfl⟩
            rw [hr] at c0 hr1 h1 h2 hat
            obtain ⟨rl, hrl⟩ : ∃ rl, r.length = rl := ⟨_, rfl⟩
            rw [hrl] at c0 hr1 h1 h2 hat
            obtain ⟨p2, hp2⟩ : ∃ p2 : Nat, p + rl = p2 := ⟨_, rfl⟩
            have HP2 : Hid (p2 = sumInts (R.take (i + 1))) := by rw [Hid, sumInts_take hlt, ← hps.out, hr, hrl]; exact hp2.symm
            have hp3 : p2 ≤ 1048576 := by have := HP2.out; have h5 := sumInts_le R (i + 1); have := HhRz.out; omega
            have wp2 : IntKind.i64.wrap ((p : Int) + (rl : Int)) = (p2 : Int) := by rw [IntWalk.i64_in _ (by omega)]; omega
            have hl1 : decide ((rl : Int) < 1) = false := decide_eq_false (by omega)
            have hl2 : decide (rl < 1) = false := decide_eq_false (by omega)
            have hl3 : decide (st < (rl : Int)) = false := decide_eq_false (by omega)
            obtain ⟨zN, hz1, hv3, hat⟩ := hat
            have hv3 := Lib.hid hv3
            have hat := Lib.hid hat
            have HR1 := Lib.hid hr1
            have hrl0 : 0 < rl := by omega
            have hrl9 : rl ≤ 1048576 := by omega
            clear hr1 hp2 hrl hr h1 h2
            obtain ⟨wo, hwo⟩ : ∃ W, W = wr := ⟨_, rfl⟩
            subst hwo
            go_wp2
            go_loopw [145] (fun jv wr => ∃ j : Nat, j ≤ rl ∧ jv = .int .i64 j ∧ Below wo.heap.size wo wr) (fun jv _ => rl - (intOf jv).toNat)
            case atStart => exact ⟨0, Nat.zero_le _, rfl, bl_refl _⟩
            case round =>
              obtain ⟨j, hj, rfl, hbq⟩ := hrel
              by_cases hjl : j < rl
              · obtain ⟨vN, hv1, hv2, kd, hk1, hk2, hun⟩ := hat.out j hjl
                obtain ⟨b1, o1, he1, hb1, e1⟩ := (HR1.out.below hbq).int hjl
                obtain ⟨b0, o0, he0, hb0, e0⟩ := (HR1.out.below hbq).int (k := 0) (by omega)
                rw [he1] at he0
                injection he0 with he0
                injection he0 with ha hb0'
                subst ha hb0'
                subst he1
                rw [← hv2] at e1
                rw [hv3.out] at e0
                obtain ⟨b2, o2, hf1, hbl1, g0, g1, g2⟩ := (HL.out.below (bl_trans hbr hbq)).skill hv1
                obtain ⟨b3, o3, hf2, hbl2, h0, k0, h2⟩ := (HL.out.below (bl_trans hbr hbq)).skill hz1
                rw [hf1] at hf2
                injection hf2 with hf2
                injection hf2 with ha2 hb2
                subst ha2 hb2
                subst hf1
                rw [hk1] at g1
                rw [hk2] at k0
                rw [Nat.add_zero] at e0
                have hpi := Lib.hid (show ∀ (W : World) (hs0 : Sl W A_f D.length D), Calls Try.prog 20 #[.slice A_f D.length c_f, .int .i64 (vN : Int)] W fun e w' => e = .returned (.bool true) ∧ Below W.heap.size W w' from fun W hs0 => by have h := pIn_any D (vN : Int) A_f _ c_f W (by omega) hs0; rw [hun.1] at h; exact h)
                obtain ⟨uv, huv⟩ : ∃ uv, (nth l vN).Until = uv := ⟨_, rfl⟩
                rw [huv] at g2
                have HUN := Lib.hid hun.2
                have HUV := Lib.hid huv
                clear hun huv g0 h0 h2 hk1 hk2 hv2
                by_cases hj0 : 0 < j
                · have hjd : decide (0 < j) = true := decide_eq_true hj0
                  obtain ⟨j', hj'⟩ : ∃ j', j = j' + 1 := ⟨j - 1, by omega⟩
                  have wj : IntKind.i64.wrap ((j : Int) - 1) = (j' : Int) := by rw [IntWalk.i64_in _ (by omega)]; omega
                  obtain ⟨pN, hp1, hp2, hp3⟩ := HUN.out j' hj'
                  obtain ⟨b4, o4, he4, hb4, q1⟩ := (HR1.out.below hbq).int (k := j') (by omega)
                  injection he4 with he4
                  injection he4 with ha4 hb4'
                  subst ha4 hb4'
                  rw [← hp2] at q1
                  obtain ⟨b5, o5, hf5, hbl5, t0, t1', t1⟩ := (HL.out.below (bl_trans hbr hbq)).skill hp1
                  injection hf5 with hf5
                  injection hf5 with ha5 hb5
                  subst ha5 hb5
                  have t2 := g2
                  obtain ⟨up, hup⟩ : ∃ up, (nth l pN).Until = up := ⟨_, rfl⟩
                  rw [hup] at t1 hp3
                  rw [HUV.out] at hp3
                  have hgt : decide (uv < up) = false := decide_eq_false (by omega)
                  have HJ := Lib.hid hj'
                  have hjl2 : j' < rl := by omega
                  clear t0 t1' hup hp2 hp3 hj' g2
                  go_upto_region 21 with fail
                  refine wp_region_grow (by kernel_rfl) (by kernel_rfl) (fun Y hY => ?_)
                  have hbY : Below wr.heap.size wr Y := by rw [hY]; exact bl_refl _
                  have z0 := Gw.cell (cell_later hbY g1)
                  have z1 := Gw.cell (cell_later hbY k0)
                  have z2 := Gw.cell (cell_later hbY e0)
                  have z3 := Gw.cell (cell_later hbY q1)
                  have z4 := Gw.cell (cell_later hbY t1)
                  have z5 := Gw.cell (cell_later hbY t2)
                  have HY := Lib.hid hY
                  have HFY := Lib.hid ((HF.out.below (bl_trans hbr hbq)).below hbY)
                  clear hY
                  repeat (go_big_quiet_step ((go_at_call 20; exact Calls.grow_of (hpi.out _ (HFY.out.below (Subtype.property _))))))
                  refine wpGrow_nil (fun VV hV => ?_)
                  have hbV := bl_trans hbq (bl_trans hbY hV)
                  clear hV hbY HY HFY z0 z1 z2 z3 z4 z5 g1 k0 e0 q1 t1 t2
                  go_wp2
                  go_roundw
                  case rel => exact ⟨j + 1, by omega, by go_num, hbV⟩
                  case measure => simp [intOf]; omega
                · have hjd : decide (0 < j) = false := decide_eq_false hj0
                  clear g2 hj0
                  go_upto_region 21 with fail
                  refine wp_region_grow (by kernel_rfl) (by kernel_rfl) (fun Y hY => ?_)
                  have hbY : Below wr.heap.size wr Y := by rw [hY]; exact bl_refl _
                  have z0 := Gw.cell (cell_later hbY g1)
                  have z1 := Gw.cell (cell_later hbY k0)
                  have z2 := Gw.cell (cell_later hbY e0)
                  have HY := Lib.hid hY
                  have HFY := Lib.hid ((HF.out.below (bl_trans hbr hbq)).below hbY)
                  clear hY
                  repeat (go_big_quiet_step ((go_at_call 20; exact Calls.grow_of (hpi.out _ (HFY.out.below (Subtype.property _))))))
                  refine wpGrow_nil (fun VV hV => ?_)
                  have hbV := bl_trans hbq (bl_trans hbY hV)
                  clear hV hbY HY HFY z0 z1 z2 g1 k0 e0
                  go_wp2
                  go_roundw
                  case rel => exact ⟨j + 1, by omega, by go_num, hbV⟩
                  case measure => simp [intOf]; omega
              · obtain rfl : j = rl := by omega
                have hjn : decide (j < j) = false := decide_eq_false (Nat.lt_irrefl _)
                have hb8 := bl_trans hbr hbq
                go_wp2
                go_roundw
                case rel => exact ⟨i + 1, p2, by omega, by go_num, rfl, by omega, HP2.out, hb8⟩
                case measure => simp [intOf]; omega
          · obtain rfl : i = R.length := by omega
            have hpe : p = D.length := by have h5 := hps.out; rw [List.take_length] at h5; rw [h5]; exact HA.all
            subst hpe
            have hb7 := bl_trans hRel hbr
            have hnn : decide (R.length < R.length) = false := decide_eq_false (Nat.lt_irrefl _)
            go_wp2_with fail
            go_meet
            exact hb7
    case rest => as_aux_lemma =>
      obtain ⟨V12, hVV⟩ : ∃ V, V = wc := ⟨_, rfl⟩
      have hb12 := hcut
      clear hcut
      subst hVV
      have hB12 := bl_trans (a := V11) (bl_refl _) hb12
      have hk12 := bl_trans hk11 hB12
      have z12 := Lib.hid hB12.size
      have l_12 := l_11.below hB12
      have s_12 := s_11.below hB12
      have f_12 := f_11.below hB12
      clear hk11 l_11 s_11 f_11
      clear l_12 s_12 f_12
      clear kRi kRs kDi kDs Hhsf HhR HhD Hhlp HhRz HhRi hll hdy hah hst hRl hDz
      go_wp2_with fail
      refine (drawQfor_any A1 n1 c1 x1 _ (hx1.below hk12)).mono ?_
      rintro e V13 ⟨u, A_u, c_u, ks, B_k, d_k, ta, rfl, hul, hup, hkl, hta, ho_u, ho_k, hb13⟩
      have hB13 := bl_trans (a := V12) (bl_refl _) hb13
      have hk13 := bl_trans hk12 hB13
      have z13 := Lib.hid hB13.size
      clear hk12
      obtain ⟨⟨Q, qk⟩, hQ⟩ : ∃ C, qforF u ks ta = C := ⟨_, rfl⟩
      have hQz : Q.length ≤ 1048576 := by have := qforF_len u ks ta; rw [hQ] at this; exact this
      have hqf : qk = true → u.length ≤ 24 ∧ ks.length ≤ 6 ∧ (∀ i, i < u.length → hasS Q (nth u i).Person = ks.all (fun k => hasB u (nth u i).Person k ta)) ∧ (∀ i, i < u.length → ∀ j, j < ks.length → qualF u (nth u i).Person (nth ks j) ta = (hasB u (nth u i).Person (nth ks j) ta, true)) := fun h => qualified_law (by rw [← h]; exact hQ)
      have kQi := Lib.hid (show ∀ (W : World) (hs0 : Sl W A_u u.length u) (hs1 : Sl W B_k ks.length ks), Calls Try.prog 22 #[.slice A_u u.length c_u, .slice B_k ks.length d_k, .int .i64 ta] W fun e w' => ∃ A c, e = .returned (.tuple #[.slice A Q.length c, .bool qk]) ∧ Own w' W.heap.size 9 (.slice A Q.length c) Q ∧ Below W.heap.size W w' from fun W hs0 hs1 => by have h := implQualifiedFor_any u ks ta A_u B_k _ c_u _ d_k W (by omega) (by omega) hs0 hs1 (fun x hx => by have := hup x hx; unfold maxLen; omega); rw [hQ] at h; exact h)
      have kQs := Lib.hid (show ∀ (W : World) (hs0 : Sl W A_u u.length u) (hs1 : Sl W B_k ks.length ks), Calls Try.prog 23 #[.slice A_u u.length c_u, .slice B_k ks.length d_k, .int .i64 ta] W fun e w' => ∃ A c, e = .returned (.tuple #[.slice A Q.length c, .bool qk]) ∧ Own w' W.heap.size 9 (.slice A Q.length c) Q ∧ Below W.heap.size W w' from fun W hs0 hs1 => by have h := specQualifiedFor_any u ks ta A_u B_k _ c_u _ d_k W (by omega) (by omega) hs0 hs1 (fun x hx => by have := hup x hx; unfold maxLen; omega); rw [hQ] at h; exact h)
      have Hhqf := Lib.hid hqf
      clear hqf
      have HhQ := Lib.hid hQ
      clear hQ
      have Hhup := Lib.hid hup
      clear hup
      go_wp2_with fail
      refine (kQi.out _ ho_u.sl ho_k.sl).mono ?_
      rintro e V14 ⟨A_p, c_p, rfl, ho_p, hb14⟩
      have hB14 := bl_trans (a := V13) (bl_refl _) hb14
      have hk14 := bl_trans hk13 hB14
      have z14 := Lib.hid hB14.size
      have u_14 := ho_u.below hB14
      have k_14 := ho_k.below hB14
      clear hk13 ho_u ho_k
      go_wp2_with fail
      refine (kQs.out _ u_14.sl k_14.sl).mono ?_
      rintro e V15 ⟨A_q, c_q, rfl, ho_q, hb15⟩
      have hB15 := bl_trans (a := V14) (bl_refl _) hb15
      have hk15 := bl_trans hk14 hB15
      have z15 := Lib.hid hB15.size
      have u_15 := u_14.below hB15
      have k_15 := k_14.below hB15
      have p_15 := ho_p.below hB15
      clear hk14 u_14 k_14 ho_p
      go_wp2_with fail
      refine (pSameTexts_same _ _ _ _ _ Q _ (by omega) p_15.sl ho_q.sl).mono ?_
      rintro e V16 ⟨rfl, hb16⟩
      have hB16 := bl_trans (a := V15) (bl_refl _) hb16
      have hk16 := bl_trans hk15 hB16
      have z16 := Lib.hid hB16.size
      have u_16 := u_15.below hB16
      have k_16 := k_15.below hB16
      have p_16 := p_15.below hB16
      have q_16 := ho_q.below hB16
      clear hk15 u_15 k_15 p_15 ho_q
      clear p_16
      go_upto_if 225 with fail
      refine wp_below (fun V17 hb17 => ?_)
      have hB17 := bl_trans (a := V16) (bl_refl _) hb17
      have hk17 := bl_trans hk16 hB17
      have z17 := Lib.hid hB17.size
      have u_17 := u_16.below hB17
      have k_17 := k_16.below hB17
      have q_17 := q_16.below hB17
      clear hk16 u_16 k_16 q_16
      go_cut [] (fun wx => Below V17.heap.size V17 wx)
      case first => as_aux_lemma =>
        cases qk
        · skip
          go_wp2_with fail
          go_meet
          exact (bl_refl _)
        · obtain ⟨hl24, hk6, hq1, hq2⟩ := Hhqf.out rfl
          clear kQi kQs HhQ Hhqf
          have HU := Lib.hid u_17.sl
          have HKs := Lib.hid k_17.sl
          have HQs := Lib.hid q_17.sl
          clear u_17 k_17 q_17
          have hRel : Below V17.heap.size V17 V17 := (bl_refl _)
          have Hhq1 := Lib.hid hq1
          clear hq1
          have Hhq2 := Lib.hid hq2
          clear hq2
          go_wp2
          go_loopw [228] (fun iv wr => ∃ i : Nat, i ≤ u.length ∧ iv = .int .i64 i ∧ Below V17.heap.size V17 wr) (fun iv _ => u.length - (intOf iv).toNat)
          case atStart => exact ⟨0, Nat.zero_le _, rfl, bl_refl _⟩
          case round =>
            obtain ⟨i, hi, rfl, hbr⟩ := hrel
            by_cases hlt : i < u.length
            · obtain ⟨bn, on, rfl, hbn, c0, c1, c2⟩ := (HU.out.below hbr).skill hlt
              obtain ⟨s, hs⟩ : ∃ s, (nth u i).Person = s := ⟨_, rfl⟩
              rw [hs] at c0
              have HSs := Lib.hid hs
              have hsz : Hid (s.size ≤ maxLen) := by rw [Hid, ← hs]; have := Hhup.out _ (nth_mem hlt); unfold maxLen; omega
              clear hs
              obtain ⟨wo, hwo⟩ : ∃ W, W = wr := ⟨_, rfl⟩
              subst hwo
              go_upto_region 37 with fail
              refine wp_below (fun X hX => ?_)
              have y0 : X.cell? ⟨wo.heap.size, 0, none⟩ = some (.string s) := cell_later hX (by go_simp)
              have hbX : Below wo.heap.size wo X := bl_trans (by repeat' (first | exact bl_refl _ | refine bl_alloc ?_ _ | refine bl_drew ?_ | refine bl_set ?_ (by simp) _)) hX
              clear hX c0 c1 c2
              go_wp2
              go_loopw [31, 234] (fun av jv wr => ∃ (j : Nat) (a : Bool), j ≤ ks.length ∧ jv = .int .i64 j ∧ av = .bool a ∧ Hid ((ks.take j).all (fun k => hasB u s k ta) = a) ∧ Below wo.heap.size wo wr ∧ wr.cell? ⟨wo.heap.size, 0, none⟩ = some (.string s)) (fun _ jv _ => ks.length - (intOf jv).toNat)
              case atStart => exact ⟨0, true, Nat.zero_le _, rfl, rfl, rfl, hbX, y0⟩
              case round =>
                clear y0 hbX
                obtain ⟨j, a, hj, rfl, rfl, hall, hbq, y0⟩ := hrel
                have lyr : wo.heap.size < wr.heap.size := World.block_lt_of_cell? _ _ y0
                by_cases hjl : j < ks.length
                · obtain ⟨bk, ok, rfl, hbk, kk0⟩ := (HKs.out.below (bl_trans hbr hbq)).int hjl
                  obtain ⟨kd, hkd⟩ : ∃ kd, nth ks j = kd := ⟨_, rfl⟩
                  rw [hkd] at kk0
                  have hqq := Hhq2.out i hlt j hjl
                  rw [HSs.out, hkd] at hqq
                  obtain ⟨b, hbb⟩ : ∃ b, hasB u s kd ta = b := ⟨_, rfl⟩
                  rw [hbb] at hqq
                  have hnext : Hid ((ks.take (j + 1)).all (fun k => hasB u s k ta) = (a && b)) := by rw [Hid, all_take_succ hjl, hall.out, hkd, hbb]
                  have kIi := Lib.hid (show ∀ (W : World) (hs0 : Sl W (some ⟨bn, on, none⟩) u.length u), Calls Try.prog 25 #[.slice (some ⟨bn, on, none⟩) u.length c_u, .string s, .int .i64 kd, .int .i64 ta] W fun e w' => e = .returned (.tuple #[.bool b, .bool true]) ∧ Below W.heap.size W w' from fun W hs0 => by have h := implIsQualified_any u s kd ta (some ⟨bn, on, none⟩) _ c_u W hsz.out (by omega) hs0 (fun x hx => by have := Hhup.out x hx; unfold maxLen; omega); rw [hqq] at h; exact h)
                  have kIs := Lib.hid (show ∀ (W : World) (hs0 : Sl W (some ⟨bn, on, none⟩) u.length u), Calls Try.prog 26 #[.slice (some ⟨bn, on, none⟩) u.length c_u, .string s, .int .i64 kd, .int .i64 ta] W fun e w' => e = .returned (.tuple #[.bool b, .bool true]) ∧ Below W.heap.size W w' from fun W hs0 => by have h := specIsQualified_any u s kd ta (some ⟨bn, on, none⟩) _ c_u W hsz.out (by omega) hs0 (fun x hx => by have := Hhup.out x hx; unfold maxLen; omega); rw [hqq] at h; exact h)
                  clear hqq hkd hbb
                  go_wp2_with fail
                  refine (kIi.out _ ((HU.out.below (bl_trans hbr hbq)))).mono ?_
                  rintro e VV ⟨rfl, hbv⟩
                  have y1 := cell_later hbv y0
                  have hbv2 := bl_trans hbq hbv
                  clear y0 kk0 hbv
                  go_wp2_with fail
                  refine (kIs.out _ ((HU.out.below (bl_trans hbr hbv2)))).mono ?_
                  rintro e VX ⟨rfl, hbv⟩
                  have y2 := cell_later hbv y1
                  have hbv3 := bl_trans hbv2 hbv
                  clear y1 hbv hbv2 hbq kIi kIs
                  cases a
                  · cases b
                    · go_wp2
                      go_roundw
                      case rel => exact ⟨j + 1, _, by omega, by go_num, rfl, hnext.out, hbv3, y2⟩
                      case measure => simp [intOf]; omega
                    · go_wp2
                      go_roundw
                      case rel => exact ⟨j + 1, _, by omega, by go_num, rfl, hnext.out, hbv3, y2⟩
                      case measure => simp [intOf]; omega
                  · cases b
                    · go_wp2
                      go_roundw
                      case rel => exact ⟨j + 1, _, by omega, by go_num, rfl, hnext.out, hbv3, y2⟩
                      case measure => simp [intOf]; omega
                    · go_wp2
                      go_roundw
                      case rel => exact ⟨j + 1, _, by omega, by go_num, rfl, hnext.out, hbv3, y2⟩
                      case measure => simp [intOf]; omega
                · obtain rfl : j = ks.length := by omega
                  have hjn : decide (ks.length < ks.length) = false := decide_eq_false (Nat.lt_irrefl _)
                  have hfin : hasS Q s = a := by have h5 := Hhq1.out i hlt; rw [HSs.out] at h5; rw [h5, ← hall.out, List.take_length]
                  have kH := Lib.hid (show ∀ (W : World) (hs0 : Sl W A_q Q.length Q), Calls Try.prog 27 #[.slice A_q Q.length c_q, .string s] W fun e w' => e = .returned (.bool a) ∧ Below W.heap.size W w' from fun W hs0 => by have h := pHas_any Q s A_q _ c_q W (by omega) hs0; rw [hfin] at h; exact h)
                  clear hfin
                  go_wp2_with fail
                  refine (kH.out _ ((HQs.out.below (bl_trans hbr hbq)))).mono ?_
                  rintro e VV ⟨rfl, hbv⟩
                  have hb9 := bl_trans (bl_trans hbr hbq) hbv
                  clear y0 hbv kH
                  cases a
                  · go_wp2
                    go_roundw
                    case rel => exact ⟨i + 1, by omega, by go_num, hb9⟩
                    case measure => simp [intOf]; omega
                  · go_wp2
                    go_roundw
                    case rel => exact ⟨i + 1, by omega, by go_num, hb9⟩
                    case measure => simp [intOf]; omega
            · obtain rfl : i = u.length := by omega
              have hnn : decide (u.length < u.length) = false := decide_eq_false (Nat.lt_irrefl _)
              have hb7 := bl_trans hRel hbr
              go_wp2_with fail
              go_meet
              exact hb7
      case rest => as_aux_lemma =>
        obtain ⟨V18, hVV⟩ : ∃ V, V = wc := ⟨_, rfl⟩
        have hb18 := hcut
        clear hcut
        subst hVV
        have hB18 := bl_trans (a := V17) (bl_refl _) hb18
        have hk18 := bl_trans hk17 hB18
        have z18 := Lib.hid hB18.size
        have u_18 := u_17.below hB18
        have k_18 := k_17.below hB18
        have q_18 := q_17.below hB18
        clear hk17 u_17 k_17 q_17
        clear u_18 k_18 q_18
        clear kQi kQs Hhqf HhQ Hhup hul hkl hta hQz
        go_wp2_with fail
        refine (drawCounts_any A1 n1 c1 x1 _ (hx1.below hk18)).mono ?_
        rintro e V19 ⟨v, A_v, c_v, wn, rfl, hvl, hvp, hwn, ho_v, hb19⟩
        have hB19 := bl_trans (a := V18) (bl_refl _) hb19
        have hk19 := bl_trans hk18 hB19
        have z19 := Lib.hid hB19.size
        clear hk18
        obtain ⟨⟨C, ck⟩, hC⟩ : ∃ C, cntF v wn = C := ⟨_, rfl⟩
        have hCz : C.length ≤ 1048576 := by have := cntF_len v wn; rw [hC] at this; exact this
        have hcf : ck = true → C.length = 6 ∧ v.length ≤ 24 ∧ ∀ j : Nat, j < 6 → qforF v [(j : Int)] wn = (qualL v [(j : Int)] wn v, true) ∧ ((qualL v [(j : Int)] wn v).length : Int) = nth C j := fun h => counts_law (by rw [← h]; exact hC)
        have kCi := Lib.hid (show ∀ (W : World) (hs0 : Sl W A_v v.length v), Calls Try.prog 29 #[.slice A_v v.length c_v, .int .i64 wn] W fun e w' => ∃ A c, e = .returned (.tuple #[.slice A C.length c, .bool ck]) ∧ Own w' W.heap.size 3 (.slice A C.length c) C ∧ Below W.heap.size W w' from fun W hs0 => by have h := implCountsOn_any v wn A_v _ c_v W (by omega) hs0 (fun x hx => by have := hvp x hx; unfold maxLen; omega); rw [hC] at h; exact h)
        have kCs := Lib.hid (show ∀ (W : World) (hs0 : Sl W A_v v.length v), Calls Try.prog 30 #[.slice A_v v.length c_v, .int .i64 wn] W fun e w' => ∃ A c, e = .returned (.tuple #[.slice A C.length c, .bool ck]) ∧ Own w' W.heap.size 3 (.slice A C.length c) C ∧ Below W.heap.size W w' from fun W hs0 => by have h := specCountsOn_any v wn A_v _ c_v W (by omega) hs0 (fun x hx => by have := hvp x hx; unfold maxLen; omega); rw [hC] at h; exact h)
        have Hhcf := Lib.hid hcf
        clear hcf
        have HhC := Lib.hid hC
        clear hC
        have Hhvp := Lib.hid hvp
        clear hvp
        go_wp2_with fail
        refine (kCi.out _ ho_v.sl).mono ?_
        rintro e V20 ⟨A_a, c_a, rfl, ho_a, hb20⟩
        have hB20 := bl_trans (a := V19) (bl_refl _) hb20
        have hk20 := bl_trans hk19 hB20
        have z20 := Lib.hid hB20.size
        have v_20 := ho_v.below hB20
        clear hk19 ho_v
        go_wp2_with fail
        refine (kCs.out _ v_20.sl).mono ?_
        rintro e V21 ⟨A_b, c_b, rfl, ho_b, hb21⟩
        have hB21 := bl_trans (a := V20) (bl_refl _) hb21
        have hk21 := bl_trans hk20 hB21
        have z21 := Lib.hid hB21.size
        have v_21 := v_20.below hB21
        have a_21 := ho_a.below hB21
        clear hk20 v_20 ho_a
        go_wp2_with fail
        refine (sameInts_same _ _ _ _ _ C _ (by omega) a_21.sl ho_b.sl).mono ?_
        rintro e V22 ⟨rfl, hb22⟩
        have hB22 := bl_trans (a := V21) (bl_refl _) hb22
        have hk22 := bl_trans hk21 hB22
        have z22 := Lib.hid hB22.size
        have v_22 := v_21.below hB22
        have a_22 := a_21.below hB22
        have b_22 := ho_b.below hB22
        clear hk21 v_21 a_21 ho_b
        clear a_22
        go_upto_if 305 with fail
        refine wp_below (fun V23 hb23 => ?_)
        have hB23 := bl_trans (a := V22) (bl_refl _) hb23
        have hk23 := bl_trans hk22 hB23
        have z23 := Lib.hid hB23.size
        have v_23 := v_22.below hB23
        have b_23 := b_22.below hB23
        clear hk22 v_22 b_22
        go_cut [] (fun wx => Below V23.heap.size V23 wx)
        case first => as_aux_lemma =>
          cases ck
          · skip
            go_wp2_with fail
            go_meet
            exact (bl_refl _)
          · obtain ⟨hc6e, hv24, hcc⟩ := Hhcf.out rfl
            have hc6 : C.length ≤ 6 := by omega
            clear kCi kCs HhC Hhcf hc6e
            have HVs := Lib.hid v_23.sl
            have HB := Lib.hid b_23.sl
            clear v_23 b_23
            have hRel : Below V23.heap.size V23 V23 := (bl_refl _)
            have Hhcc := Lib.hid hcc
            clear hcc
            go_wp2
            go_loopw [308] (fun iv wr => ∃ i : Nat, i ≤ C.length ∧ iv = .int .i64 i ∧ Below V23.heap.size V23 wr) (fun iv _ => C.length - (intOf iv).toNat)
            case atStart => exact ⟨0, Nat.zero_le _, rfl, bl_refl _⟩
            case round =>
              obtain ⟨i, hi, rfl, hbr⟩ := hrel
              by_cases hlt : i < C.length
              · obtain ⟨bn, on, rfl, hbn, c0⟩ := (HB.out.below hbr).int hlt
                obtain ⟨h1, h2⟩ := Hhcc.out i (by omega)
                obtain ⟨L, hL⟩ : ∃ L, qualL v [(i : Int)] wn v = L := ⟨_, rfl⟩
                rw [hL] at h1 h2
                rw [← h2] at c0
                have kQ := Lib.hid (show ∀ (W : World) (b : Nat) (hs0 : Sl W A_v v.length v) (hs1 : W.cell? ⟨b, 0, none⟩ = some (.int .i64 (i : Int))), Calls Try.prog 22 #[.slice A_v v.length c_v, .slice (some ⟨b, 0, none⟩) 1 1, .int .i64 wn] W fun e w' => ∃ A c, e = .returned (.tuple #[.slice A L.length c, .bool true]) ∧ Own w' W.heap.size 9 (.slice A L.length c) L ∧ Below W.heap.size W w' from fun W b hs0 hs1 => by have h := implQualifiedFor_any v [(i : Int)] wn A_v (some ⟨b, 0, none⟩) _ c_v 1 1 W (by omega) (by omega) hs0 (sl_int1 hs1) (fun x hx => by have := Hhvp.out x hx; unfold maxLen; omega); rw [h1] at h; exact h)
                have hbx := bl_trans hbr (bl_alloc (bl_refl wr) (.cells #[.int .i64 (i : Int)] 3))
                clear h1 h2 hL
                go_wp2_with fail
                refine (kQ.out _ _ (HVs.out.below hbx) (by go_simp)).mono ?_
                rintro e VV ⟨A_z, c_z, rfl, ho_z, hbv⟩
                have hb9 := bl_trans hbx hbv
                clear ho_z hbv hbx kQ c0
                go_wp2
                go_roundw
                case rel => exact ⟨i + 1, by omega, by go_num, hb9⟩
                case measure => simp [intOf]; omega
              · obtain rfl : i = C.length := by omega
                have hnn : decide (C.length < C.length) = false := decide_eq_false (Nat.lt_irrefl _)
                have hb7 := bl_trans hRel hbr
                go_wp2_with fail
                go_meet
                exact hb7
        case rest => as_aux_lemma =>
          obtain ⟨V24, hVV⟩ : ∃ V, V = wc := ⟨_, rfl⟩
          have hb24 := hcut
          clear hcut
          subst hVV
          have hB24 := bl_trans (a := V23) (bl_refl _) hb24
          have hk24 := bl_trans hk23 hB24
          have z24 := Lib.hid hB24.size
          have v_24 := v_23.below hB24
          have b_24 := b_23.below hB24
          clear hk23 v_23 b_23
          clear v_24 b_24
          clear kCi kCs Hhcf HhC Hhvp hvl hwn hCz
          go_wp2_with fail
          refine (drawIsQ_any A1 n1 c1 x1 _ (hx1.below hk24)).mono ?_
          rintro e V25 ⟨z, A_z, c_z, pz, kz, dz, rfl, hzl, hzp, hpz, hkz, hdz, ho_z, hb25⟩
          have hB25 := bl_trans (a := V24) (bl_refl _) hb25
          have hk25 := bl_trans hk24 hB25
          have z25 := Lib.hid hB25.size
          clear hk24
          obtain ⟨⟨z1, z2⟩, hZ⟩ : ∃ C, qualF z pz kz dz = C := ⟨_, rfl⟩
          have kZi := Lib.hid (show ∀ (W : World) (hs0 : Sl W A_z z.length z), Calls Try.prog 25 #[.slice A_z z.length c_z, .string pz, .int .i64 kz, .int .i64 dz] W fun e w' => e = .returned (.tuple #[.bool z1, .bool z2]) ∧ Below W.heap.size W w' from fun W hs0 => by have h := implIsQualified_any z pz kz dz A_z _ c_z W (by unfold maxLen; omega) (by omega) hs0 (fun x hx => by have := hzp x hx; unfold maxLen; omega); rw [hZ] at h; exact h)
          have kZs := Lib.hid (show ∀ (W : World) (hs0 : Sl W A_z z.length z), Calls Try.prog 26 #[.slice A_z z.length c_z, .string pz, .int .i64 kz, .int .i64 dz] W fun e w' => e = .returned (.tuple #[.bool z1, .bool z2]) ∧ Below W.heap.size W w' from fun W hs0 => by have h := specIsQualified_any z pz kz dz A_z _ c_z W (by unfold maxLen; omega) (by omega) hs0 (fun x hx => by have := hzp x hx; unfold maxLen; omega); rw [hZ] at h; exact h)
          have HhZ := Lib.hid hZ
          clear hZ
          have Hhzp := Lib.hid hzp
          clear hzp
          go_wp2_with fail
          refine (kZi.out _ ho_z.sl).mono ?_
          rintro e V26 ⟨rfl, hb26⟩
          have hB26 := bl_trans (a := V25) (bl_refl _) hb26
          have hk26 := bl_trans hk25 hB26
          have z26 := Lib.hid hB26.size
          have z_26 := ho_z.below hB26
          clear hk25 ho_z
          go_wp2_with fail
          refine (kZs.out _ z_26.sl).mono ?_
          rintro e V27 ⟨rfl, hb27⟩
          have hB27 := bl_trans (a := V26) (bl_refl _) hb27
          have hk27 := bl_trans hk26 hB27
          have z27 := Lib.hid hB27.size
          have z_27 := z_26.below hB27
          clear hk26 z_26
          clear z_27
          go_wp2
          go_ret
          exact ⟨rfl, hk27⟩
instance : Ok Byt := ⟨fun x => 0 ≤ x.v ∧ x.v ≤ 255⟩
theorem opens_u8 {P : Program} {t : TypeId} (ht : P.underlying t = some (.int .u8)) : Opens P t Byt := fun h => by
  obtain ⟨n, rfl, _, hw⟩ := DataW.trod_int ht h
  exact ⟨⟨n⟩, rfl, by simpa [Ok.ok, Lit.wf, IntKind.min, IntKind.max, IntKind.signed, IntKind.bits] using hw⟩

open Go.WideShapes Go.ChangeShapes Go.ChangeAt
theorem own_ : ownKnob Try.prog.godebug = none := by kernel_rfl
theorem laid_ : laidOutB Try.prog = true := by kernel_rfl
set_option maxRecDepth 100000 in
theorem contract_ (H : Type) (enc : TypeId × Value → H) (W : World) (base : Nat) (args : Array Value) (ds gs : List (DataW H)) (before : List MemPlace)
    (hval : ∀ (j : Nat) t v, Try.f4.params[j]? = some t → args[j]? = some v → Value.okWide Try.prog W .any base t v)
    (hW : DataW.Whole enc Try.prog Try.f4.params.toList Rows.fnSessionsSpec.vars false W args.toList ds gs before) :
    Calls Try.prog 4 args W fun e W' => ∃ v, e = .returned v ∧ Rows.fnSessionsSpec.post enc Try.prog Try.f4 false true false false W args v W' := by
  have hW' := hW
  obtain ⟨p, q, hA0, hV, rfl, hfz, hnd⟩ := hW
  have hA : DataW.TrodAll enc Try.prog W 0 (fun _ => true) true Try.f4.params.toList args.toList ds p := hA0
  rw [Try.params4] at hA hval
  obtain ⟨v0, vs0, d0, ds0, p0, q0, hargs, rfl, rfl, h0, r0⟩ := trodAll_cons hA
  obtain ⟨v1, vs1, d1, ds1, p1, q1, rfl, rfl, rfl, h1, r1⟩ := trodAll_cons r0
  obtain ⟨rfl, rfl, rfl⟩ := trodAll_nil r1
  obtain rfl : args = #[v0, v1] := by cases args; simp_all
  obtain ⟨rfl, rfl⟩ := trodVars_none hV
  obtain ⟨A0, n0, c0, rfl⟩ := okWide_slice Try.underlying34 (hval 0 _ v0 rfl rfl)
  obtain ⟨fuel0, h0⟩ := h0
  obtain ⟨x0, ⟨A0', c0', e0, hs0, hm0⟩, ho0⟩ := opens_slice Try.underlying34 (by kernel_rfl) ((opens_u8 Try.underlying5)) h0
  obtain ⟨rfl, rfl, rfl⟩ : A0 = A0' ∧ n0 = x0.length ∧ c0 = c0' := by simpa [Value.cells] using e0
  have hm0 : (x0.length : Int) ≤ 9223372036854775807 := by unfold maxLen at hm0; omega
  obtain ⟨A1, n1, c1, rfl⟩ := okWide_slice Try.underlying34 (hval 1 _ v1 rfl rfl)
  obtain ⟨fuel1, h1⟩ := h1
  obtain ⟨x1, ⟨A1', c1', e1, hs1, hm1⟩, ho1⟩ := opens_slice Try.underlying34 (by kernel_rfl) ((opens_u8 Try.underlying5)) h1
  obtain ⟨rfl, rfl, rfl⟩ : A1 = A1' ∧ n1 = x1.length ∧ c1 = c1' := by simpa [Value.cells] using e1
  have hm1 : (x1.length : Int) ≤ 9223372036854775807 := by unfold maxLen at hm1; omega
  refine (walk A0 _ c0 x0 A1 _ c1 x1 W ⟨hs0, hm0, ho0⟩ ⟨hs1, hm1, ho1⟩).mono fun e W' ⟨he, hb⟩ => ?_
  exact ⟨_, he, post_law laid_ Try.underlying4 rfl rfl (by kernel_rfl) ⟨rfl, rfl, rfl⟩ hW' hb⟩

set_option maxRecDepth 100000 in
theorem lifted_ (os : Os) (started : os.Started) (H : Type) (enc : TypeId × Value → H) :
    ReturnsInHanded {} Try.checked os 4 .any (Rows.fnSessionsSpec.pre6 enc Try.prog Try.f4 Rows.fnSessionsRow.domain false) (Rows.fnSessionsSpec.post enc Try.prog Try.f4 false true false false) := by
  refine returnsInHanded_of_change (C := Try.checked) own_ started (by kernel_rfl) Try.func4
    (ChangeSpec.witness6 (enc := enc) (C := Try.checked) false ⟨#[], #[.slice none 0 0, .slice none 0 0], []⟩ 8 (by kernel_rfl) (by kernel_rfl) (by kernel_rfl) (by kernel_rfl)) ?_
  intro W base args ds gs before hval0 hW _ _
  exact contract_ H enc W base args ds gs before hval0 hW

theorem proved : Rows.FnSessionsSaid :=
  OpenClaim.holds_of_wide 4 Try.f4 rfl rfl rfl rfl rfl rfl rfl ⟨rfl, rfl, rfl, rfl, rfl⟩ rfl rfl rfl rfl rfl (by kernel_rfl) Try.func4 (by kernel_rfl)
    (of_decide_eq_true (by kernel_rfl)) (by unfold Func.isWrapper; first | (rw [if_pos (by decide +kernel)]; kernel_rfl) | (rw [if_neg (by decide +kernel)]; exact ⟨rfl, rfl⟩))
    (fun os started H enc _ => lifted_ os started H enc)

end Go.Proofs.Ytgjnjfaohpmhkaa.lawSessions
