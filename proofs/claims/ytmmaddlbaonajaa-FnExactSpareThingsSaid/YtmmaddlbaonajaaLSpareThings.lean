/-
  The law on SpareThings: it answers true at every input, and every argument reads as before. No conditions.
-/
import Derived.Test.YtmmaddlbaonajaaSpareF
import Derived.Test.YtmmaddlbaonajaaOpS
import Derived.Test.YtmmaddlbaonajaaRows
import Derived.Test.YtmmaddlbaonajaaMem3
namespace Go.Proofs.Ytmmaddlbaonajaa.lawSpareThings
open Go.RowKit

set_option maxHeartbeats 4000000 in
theorem walk (x0 : List Thing) (A0 : Option Addr) (n0 c0 : Nat) (x1 : List Thing) (A1 : Option Addr) (n1 c1 : Nat) (w : World) (hn0 : (n0 : Int) ≤ 9223372036854775807) (hs0 : Sl w A0 n0 x0) (hv0 : ∀ x, x ∈ x0 → x.Name.size ≤ maxLen) (hn1 : (n1 : Int) ≤ 9223372036854775807) (hs1 : Sl w A1 n1 x1) (hv1 : ∀ x, x ∈ x1 → x.Name.size ≤ maxLen) :
    Calls Try.prog 5 #[.slice A0 n0 c0, .slice A1 n1 c1] w fun e w' => e = .returned (.bool true) ∧ Below w.heap.size w w' := by
  go_enter Try.func5, Try.ntmps5
  have hk0 := bl_refl w
  go_wp2_with fail
  refine (szThingS_any _ _ _ x0 _ _ hn0 hs0 hv0 (by omega) (by omega)).mono ?_
  rintro e Z0 ⟨r0, rfl, hr0, hz0⟩
  have z900 := Lib.hid hz0.size
  have hkz0 := bl_trans hk0 hz0
  rcases hr0 with rfl | ⟨ha0, hc0, hp0⟩
  · go_wp2
    go_ret
    exact ⟨rfl, hkz0⟩
  have hl0 : n0 ≤ 1048576 := by have := hp0.1; omega
  have hL0 : x0.length ≤ 1048576 := by rw [hs0.1]; exact hl0
  clear hp0
  go_wp2_with fail
  refine (szThingS_any _ _ _ x1 _ _ hn1 (hs1.below hkz0) hv1 (by omega) (by omega)).mono ?_
  rintro e Z1 ⟨r1, rfl, hr1, hz1⟩
  have z901 := Lib.hid hz1.size
  have hkz1 := bl_trans hkz0 hz1
  rcases hr1 with rfl | ⟨ha1, hc1, hp1⟩
  · go_wp2
    go_ret
    exact ⟨rfl, hkz1⟩
  have hl1 : n1 ≤ 1048576 := by have := hp1.1; omega
  have hL1 : x1.length ≤ 1048576 := by rw [hs1.1]; exact hl1
  clear hp1
  go_wp2_with fail
  refine (toThingS_any _ _ _ x0 _ hl0 (hs0.below hkz1)).mono ?_
  rintro e V1 ⟨A_s0, c_s0, rfl, ho_s0, hb1⟩
  have hk1 := bl_trans hkz1 hb1
  have z1 := Lib.hid hb1.size
  clear hkz1
  have hi_s0 := Lib.hid ho_s0.lies
  go_wp2_with fail
  refine (toThingS_any _ _ _ x1 _ hl1 (hs1.below hk1)).mono ?_
  rintro e V2 ⟨A_s1, c_s1, rfl, ho_s1, hb2⟩
  have hk2 := bl_trans hk1 hb2
  have z2 := Lib.hid hb2.size
  have s0_2 := ho_s0.below hb2
  clear hk1 ho_s0
  have hi_s1 := Lib.hid ho_s1.lies
  have hR : (spareF x0 x1).1.length ≤ 1048576 := spareF_len x0 x1
  go_wp2_with fail
  refine (specSpareThings_any x0 x1 _ _ _ _ _ _ _ (by have := s0_2.sl.1; omega) (by have := ho_s1.sl.1; omega) s0_2.sl ho_s1.sl hv0 hv1).mono ?_
  rintro e V3 ⟨A_w0, c_w0, rfl, ho_w0, hb3⟩
  have hk3 := bl_trans hk2 hb3
  have z3 := Lib.hid hb3.size
  have s0_3 := s0_2.below hb3
  have s1_3 := ho_s1.below hb3
  clear hk2 s0_2 ho_s1
  have hi_w0 := Lib.hid ho_w0.lies
  clear s0_3 hi_s0
  clear s1_3 hi_s1
  go_wp2_with fail
  refine (toThingS_any _ _ _ x0 _ hl0 (hs0.below hk3)).mono ?_
  rintro e V4 ⟨A_x0, c_x0, rfl, ho_x0, hb4⟩
  have hk4 := bl_trans hk3 hb4
  have z4 := Lib.hid hb4.size
  have w0_4 := ho_w0.below hb4
  clear hk3 ho_w0
  have hi_x0 := Lib.hid ho_x0.lies
  go_wp2_with fail
  refine (toThingS_any _ _ _ x1 _ hl1 (hs1.below hk4)).mono ?_
  rintro e V5 ⟨A_x1, c_x1, rfl, ho_x1, hb5⟩
  have hk5 := bl_trans hk4 hb5
  have z5 := Lib.hid hb5.size
  have w0_5 := w0_4.below hb5
  have x0_5 := ho_x0.below hb5
  clear hk4 w0_4 ho_x0
  have hi_x1 := Lib.hid ho_x1.lies
  go_wp2_with fail
  refine (implSpareThings_any x0 x1 _ _ _ _ _ _ _ (by have := x0_5.sl.1; omega) (by have := ho_x1.sl.1; omega) x0_5.sl ho_x1.sl hv0 hv1).mono ?_
  rintro e V6 ⟨A_g0, c_g0, rfl, ho_g0, hb6⟩
  have hk6 := bl_trans hk5 hb6
  have z6 := Lib.hid hb6.size
  have w0_6 := w0_5.below hb6
  have x0_6 := x0_5.below hb6
  have x1_6 := ho_x1.below hb6
  clear hk5 w0_5 x0_5 ho_x1
  have hi_g0 := Lib.hid ho_g0.lies
  go_wp2_with fail
  refine (eqThingS_any _ _ _ _ _ _ _ _ _ (by omega) ho_g0.sl w0_6.sl).mono ?_
  rintro e V7 ⟨rfl, hb7⟩
  rw [sameB_refl]
  have hk7 := bl_trans hk6 hb7
  have z7 := Lib.hid hb7.size
  have w0_7 := w0_6.below hb7
  have x0_7 := x0_6.below hb7
  have x1_7 := x1_6.below hb7
  have g0_7 := ho_g0.below hb7
  clear hk6 w0_6 x0_6 x1_6 ho_g0
  go_wp2_with fail
  refine (toThingS_any _ _ _ x0 _ hl0 (hs0.below hk7)).mono ?_
  rintro e V8 ⟨A_y0, c_y0, rfl, ho_y0, hb8⟩
  have hk8 := bl_trans hk7 hb8
  have z8 := Lib.hid hb8.size
  have w0_8 := w0_7.below hb8
  have x0_8 := x0_7.below hb8
  have x1_8 := x1_7.below hb8
  have g0_8 := g0_7.below hb8
  clear hk7 w0_7 x0_7 x1_7 g0_7
  have hi_y0 := Lib.hid ho_y0.lies
  go_wp2_with fail
  refine (eqThingS_any _ _ _ _ _ _ _ _ _ (by omega) x0_8.sl ho_y0.sl).mono ?_
  rintro e V9 ⟨rfl, hb9⟩
  rw [sameB_refl]
  have hk9 := bl_trans hk8 hb9
  have z9 := Lib.hid hb9.size
  have w0_9 := w0_8.below hb9
  have x0_9 := x0_8.below hb9
  have x1_9 := x1_8.below hb9
  have g0_9 := g0_8.below hb9
  have y0_9 := ho_y0.below hb9
  clear hk8 w0_8 x0_8 x1_8 g0_8 ho_y0
  clear y0_9 hi_y0
  go_wp2_with fail
  refine (toThingS_any _ _ _ x1 _ hl1 (hs1.below hk9)).mono ?_
  rintro e V10 ⟨A_y1, c_y1, rfl, ho_y1, hb10⟩
  have hk10 := bl_trans hk9 hb10
  have z10 := Lib.hid hb10.size
  have w0_10 := w0_9.below hb10
  have x0_10 := x0_9.below hb10
  have x1_10 := x1_9.below hb10
  have g0_10 := g0_9.below hb10
  clear hk9 w0_9 x0_9 x1_9 g0_9
  have hi_y1 := Lib.hid ho_y1.lies
  go_wp2_with fail
  refine (eqThingS_any _ _ _ _ _ _ _ _ _ (by omega) x1_10.sl ho_y1.sl).mono ?_
  rintro e V11 ⟨rfl, hb11⟩
  rw [sameB_refl]
  have hk11 := bl_trans hk10 hb11
  have z11 := Lib.hid hb11.size
  have w0_11 := w0_10.below hb11
  have x0_11 := x0_10.below hb11
  have x1_11 := x1_10.below hb11
  have g0_11 := g0_10.below hb11
  have y1_11 := ho_y1.below hb11
  clear hk10 w0_10 x0_10 x1_10 g0_10 ho_y1
  clear y1_11 hi_y1
  go_wp2_with fail
  refine (markThingS_any _ _ _ _ _ _ _ (by omega) (by omega) (by omega) x0_11).mono ?_
  rintro e V12 ⟨rfl, hm12, hg12⟩
  have hf12 := OnlyF.of_gb hg12
  have hk12 := below_only hk11 hf12 hi_x0.out (by have := z900.out; have := z901.out; have := z1.out; have := z2.out; have := z3.out; have := z4.out; have := z5.out; have := z6.out; have := z7.out; have := z8.out; have := z9.out; have := z10.out; have := z11.out; omega)
  have z12 := Lib.hid hf12.size
  have w0_12 := w0_11.only hf12 (hi_w0.out.apart hi_x0.out (by have := z900.out; have := z901.out; have := z1.out; have := z2.out; have := z3.out; have := z4.out; have := z5.out; have := z6.out; have := z7.out; have := z8.out; have := z9.out; have := z10.out; have := z11.out; have := z12.out; omega))
  have x1_12 := x1_11.only hf12 (hi_x1.out.apart hi_x0.out (by have := z900.out; have := z901.out; have := z1.out; have := z2.out; have := z3.out; have := z4.out; have := z5.out; have := z6.out; have := z7.out; have := z8.out; have := z9.out; have := z10.out; have := z11.out; have := z12.out; omega))
  have g0_12 := g0_11.only hf12 (hi_g0.out.apart hi_x0.out (by have := z900.out; have := z901.out; have := z1.out; have := z2.out; have := z3.out; have := z4.out; have := z5.out; have := z6.out; have := z7.out; have := z8.out; have := z9.out; have := z10.out; have := z11.out; have := z12.out; omega))
  clear hk11 x0_11 w0_11 x1_11 g0_11 hg12 hf12
  go_wp2_with fail
  refine (markThingS_any _ _ _ _ _ _ _ (by omega) (by omega) (by omega) x1_12).mono ?_
  rintro e V13 ⟨rfl, hm13, hg13⟩
  have hf13 := OnlyF.of_gb hg13
  have hk13 := below_only hk12 hf13 hi_x1.out (by have := z900.out; have := z901.out; have := z1.out; have := z2.out; have := z3.out; have := z4.out; have := z5.out; have := z6.out; have := z7.out; have := z8.out; have := z9.out; have := z10.out; have := z11.out; have := z12.out; omega)
  have z13 := Lib.hid hf13.size
  have w0_13 := w0_12.only hf13 (hi_w0.out.apart hi_x1.out (by have := z900.out; have := z901.out; have := z1.out; have := z2.out; have := z3.out; have := z4.out; have := z5.out; have := z6.out; have := z7.out; have := z8.out; have := z9.out; have := z10.out; have := z11.out; have := z12.out; have := z13.out; omega))
  have x0_13 := hm12.only hf13 (hi_x0.out.apart hi_x1.out (by have := z900.out; have := z901.out; have := z1.out; have := z2.out; have := z3.out; have := z4.out; have := z5.out; have := z6.out; have := z7.out; have := z8.out; have := z9.out; have := z10.out; have := z11.out; have := z12.out; have := z13.out; omega))
  have g0_13 := g0_12.only hf13 (hi_g0.out.apart hi_x1.out (by have := z900.out; have := z901.out; have := z1.out; have := z2.out; have := z3.out; have := z4.out; have := z5.out; have := z6.out; have := z7.out; have := z8.out; have := z9.out; have := z10.out; have := z11.out; have := z12.out; have := z13.out; omega))
  clear hk12 x1_12 w0_12 hm12 g0_12 hg13 hf13
  clear x0_13 hi_x0
  clear hm13 hi_x1
  go_wp2_with fail
  refine (eqThingS_any _ _ _ _ _ _ _ _ _ (by omega) g0_13.sl w0_13.sl).mono ?_
  rintro e V14 ⟨rfl, hb14⟩
  rw [sameB_refl]
  have hk14 := bl_trans hk13 hb14
  have z14 := Lib.hid hb14.size
  have w0_14 := w0_13.below hb14
  have g0_14 := g0_13.below hb14
  clear hk13 w0_13 g0_13
  go_wp2_with fail
  refine (markThingS_any _ _ _ _ _ _ _ (by omega) (by omega) (by omega) g0_14).mono ?_
  rintro e V15 ⟨rfl, hm15, hg15⟩
  have hf15 := OnlyF.of_gb hg15
  have hk15 := below_only hk14 hf15 hi_g0.out (by have := z900.out; have := z901.out; have := z1.out; have := z2.out; have := z3.out; have := z4.out; have := z5.out; have := z6.out; have := z7.out; have := z8.out; have := z9.out; have := z10.out; have := z11.out; have := z12.out; have := z13.out; have := z14.out; omega)
  have z15 := Lib.hid hf15.size
  have w0_15 := w0_14.only hf15 (hi_w0.out.apart hi_g0.out (by have := z900.out; have := z901.out; have := z1.out; have := z2.out; have := z3.out; have := z4.out; have := z5.out; have := z6.out; have := z7.out; have := z8.out; have := z9.out; have := z10.out; have := z11.out; have := z12.out; have := z13.out; have := z14.out; have := z15.out; omega))
  clear hk14 g0_14 w0_14 hg15 hf15
  go_wp2_with fail
  refine (heldThingS_any _ _ _ _ _ (by omega) (by omega) (by omega) hm15.sl).mono ?_
  rintro e V16 ⟨rfl, hb16⟩
  have hk16 := bl_trans hk15 hb16
  have z16 := Lib.hid hb16.size
  have w0_16 := w0_15.below hb16
  have g0_16 := hm15.below hb16
  clear hk15 w0_15 hm15
  go_wp2_with fail
  refine (toThingS_any _ _ _ x0 _ hl0 (hs0.below hk16)).mono ?_
  rintro e V17 ⟨A_t0, c_t0, rfl, ho_t0, hb17⟩
  have hk17 := bl_trans hk16 hb17
  have z17 := Lib.hid hb17.size
  have w0_17 := w0_16.below hb17
  have g0_17 := g0_16.below hb17
  clear hk16 w0_16 g0_16
  have hi_t0 := Lib.hid ho_t0.lies
  go_wp2_with fail
  refine (toThingS_any _ _ _ x1 _ hl1 (hs1.below hk17)).mono ?_
  rintro e V18 ⟨A_t1, c_t1, rfl, ho_t1, hb18⟩
  have hk18 := bl_trans hk17 hb18
  have z18 := Lib.hid hb18.size
  have w0_18 := w0_17.below hb18
  have g0_18 := g0_17.below hb18
  have t0_18 := ho_t0.below hb18
  clear hk17 w0_17 g0_17 ho_t0
  have hi_t1 := Lib.hid ho_t1.lies
  go_wp2_with fail
  refine (implSpareThings_any x0 x1 _ _ _ _ _ _ _ (by have := t0_18.sl.1; omega) (by have := ho_t1.sl.1; omega) t0_18.sl ho_t1.sl hv0 hv1).mono ?_
  rintro e V19 ⟨A_h0, c_h0, rfl, ho_h0, hb19⟩
  have hk19 := bl_trans hk18 hb19
  have z19 := Lib.hid hb19.size
  have w0_19 := w0_18.below hb19
  have g0_19 := g0_18.below hb19
  have t0_19 := t0_18.below hb19
  have t1_19 := ho_t1.below hb19
  clear hk18 w0_18 g0_18 t0_18 ho_t1
  have hi_h0 := Lib.hid ho_h0.lies
  clear t0_19 hi_t0
  clear t1_19 hi_t1
  go_wp2_with fail
  refine (eqThingS_any _ _ _ _ _ _ _ _ _ (by omega) ho_h0.sl w0_19.sl).mono ?_
  rintro e V20 ⟨rfl, hb20⟩
  rw [sameB_refl]
  have hk20 := bl_trans hk19 hb20
  have z20 := Lib.hid hb20.size
  have w0_20 := w0_19.below hb20
  have g0_20 := g0_19.below hb20
  have h0_20 := ho_h0.below hb20
  clear hk19 w0_19 g0_19 ho_h0
  clear h0_20 hi_h0
  clear w0_20 hi_w0
  go_wp2_with fail
  refine (heldThingS_any _ _ _ _ _ (by omega) (by omega) (by omega) g0_20.sl).mono ?_
  rintro e V21 ⟨rfl, hb21⟩
  have hk21 := bl_trans hk20 hb21
  have z21 := Lib.hid hb21.size
  have g0_21 := g0_20.below hb21
  clear hk20 g0_20
  clear g0_21 hi_g0
  go_wp2
  go_ret
  exact ⟨rfl, hk21⟩

open Go.WideShapes Go.ChangeShapes Go.ChangeAt
theorem own_ : ownKnob Try.prog.godebug = none := by kernel_rfl
theorem laid_ : laidOutB Try.prog = true := by kernel_rfl
theorem contract_ (H : Type) (enc : TypeId × Value → H) (W : World) (base : Nat) (args : Array Value) (ds gs : List (DataW H)) (before : List MemPlace)
    (hval : ∀ (j : Nat) t v, Try.f5.params[j]? = some t → args[j]? = some v → Value.okWide Try.prog W .any base t v)
    (hW : DataW.Whole enc Try.prog Try.f5.params.toList Rows.fnExactSpareThingsSpec.vars false W args.toList ds gs before) :
    Calls Try.prog 5 args W fun e W' => ∃ v, e = .returned v ∧ Rows.fnExactSpareThingsSpec.post enc Try.prog Try.f5 false true false false W args v W' := by
  have hW' := hW
  obtain ⟨p, q, hA0, hV, rfl, hfz, hnd⟩ := hW
  have hA : DataW.TrodAll enc Try.prog W 0 (fun _ => true) true Try.f5.params.toList args.toList ds p := hA0
  rw [Try.params5] at hA hval
  obtain ⟨v0, vs0, d0, ds0, p0, q0, hargs, rfl, rfl, h0, r0⟩ := trodAll_cons hA
  obtain ⟨v1, vs1, d1, ds1, p1, q1, rfl, rfl, rfl, h1, r1⟩ := trodAll_cons r0
  obtain ⟨rfl, rfl, rfl⟩ := trodAll_nil r1
  obtain rfl : args = #[v0, v1] := by cases args; simp_all
  obtain ⟨rfl, rfl⟩ := trodVars_none hV
  obtain ⟨A0, n0, c0, rfl⟩ := okWide_slice Try.underlying22 (hval 0 _ v0 rfl rfl)
  obtain ⟨fuel0, h0⟩ := h0
  obtain ⟨x0, ⟨A0', c0', e0, hs0, hm0⟩, ho0⟩ := opens_slice Try.underlying22 (by kernel_rfl) (opens_thing) h0
  obtain ⟨rfl, rfl, rfl⟩ : A0 = A0' ∧ n0 = x0.length ∧ c0 = c0' := by simpa [Value.cells] using e0
  have hm0 : (x0.length : Int) ≤ 9223372036854775807 := by unfold maxLen at hm0; omega
  obtain ⟨A1, n1, c1, rfl⟩ := okWide_slice Try.underlying22 (hval 1 _ v1 rfl rfl)
  obtain ⟨fuel1, h1⟩ := h1
  obtain ⟨x1, ⟨A1', c1', e1, hs1, hm1⟩, ho1⟩ := opens_slice Try.underlying22 (by kernel_rfl) (opens_thing) h1
  obtain ⟨rfl, rfl, rfl⟩ : A1 = A1' ∧ n1 = x1.length ∧ c1 = c1' := by simpa [Value.cells] using e1
  have hm1 : (x1.length : Int) ≤ 9223372036854775807 := by unfold maxLen at hm1; omega
  refine (walk x0 A0 _ c0 x1 A1 _ c1 W hm0 hs0 (fun x hx => (ho0 x hx).1) hm1 hs1 (fun x hx => (ho1 x hx).1)).mono fun e W' ⟨he, hb⟩ => ?_
  exact ⟨_, he, post_law laid_ Try.underlying4 rfl rfl (by kernel_rfl) ⟨rfl, rfl, rfl⟩ hW' hb⟩

set_option maxRecDepth 100000 in
theorem lifted_ (os : Os) (started : os.Started) (H : Type) (enc : TypeId × Value → H) :
    ReturnsInHanded {} Try.checked os 5 .any (Rows.fnExactSpareThingsSpec.pre6 enc Try.prog Try.f5 Rows.fnExactSpareThingsRow.domain false) (Rows.fnExactSpareThingsSpec.post enc Try.prog Try.f5 false true false false) := by
  refine returnsInHanded_of_change (C := Try.checked) own_ started (by kernel_rfl) Try.func5
    (ChangeSpec.witness6 (enc := enc) (C := Try.checked) false ⟨#[], #[.slice none 0 0, .slice none 0 0], []⟩ 8 (by kernel_rfl) (by kernel_rfl) (by kernel_rfl) (by kernel_rfl)) ?_
  intro W base args ds gs before hval0 hW _ _
  exact contract_ H enc W base args ds gs before hval0 hW

theorem proved : Rows.FnExactSpareThingsSaid :=
  OpenClaim.holds_of_wide 5 Try.f5 rfl rfl rfl rfl rfl rfl rfl ⟨rfl, rfl, rfl, rfl, rfl⟩ rfl rfl rfl rfl rfl (by kernel_rfl) Try.func5 (by kernel_rfl)
    (of_decide_eq_true (by kernel_rfl)) (by unfold Func.isWrapper; first | (rw [if_pos (by decide +kernel)]; kernel_rfl) | (rw [if_neg (by decide +kernel)]; exact ⟨rfl, rfl⟩))
    (fun os started H enc _ => lifted_ os started H enc)

end Go.Proofs.Ytmmaddlbaonajaa.lawSpareThings
