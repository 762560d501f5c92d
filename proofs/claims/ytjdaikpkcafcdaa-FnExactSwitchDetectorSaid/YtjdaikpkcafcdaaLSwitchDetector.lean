/-
  The law on SwitchDetector: it answers true at every input, and every argument reads as before. No conditions.
-/
import Derived.Test.YtjdaikpkcafcdaaSwDet
import Derived.Test.YtjdaikpkcafcdaaOp
import Derived.Test.YtjdaikpkcafcdaaRows
import Derived.Test.YtjdaikpkcafcdaaMem3
namespace Go.Proofs.Ytjdaikpkcafcdaa.lawSwitchDetector
open Go.RowKit

set_option maxHeartbeats 4000000 in
theorem walk (x0 : List Det) (A0 : Option Addr) (n0 c0 : Nat) (x1 : Int) (x2 : Bool) (w : World) (hn0 : (n0 : Int) ≤ 9223372036854775807) (hs0 : Sl w A0 n0 x0) (_hx1 : -9223372036854775808 ≤ x1 ∧ x1 ≤ 9223372036854775807) :
    Calls Try.prog 6 #[.slice A0 n0 c0, .int .i64 x1, .bool x2] w fun e w' => e = .returned (.bool true) ∧ Below w.heap.size w w' := by
  by_cases hb0 : 1048576 < (n0 : Int)
  · have hq0 : szF (1048576) n0 = -1 := by unfold szF; rw [if_pos hb0]
    go_enter Try.func6, Try.ntmps6
    go_wp2_with fail
    refine (szDetectorS_any _ _ _ _ _ hn0 (by omega) (by omega)).mono ?_
    rintro e V ⟨rfl, rfl⟩
    rw [hq0]
    clear hq0
    go_wp2
    go_ret
    exact ⟨rfl, bl_refl _⟩
  have hq0 : szF (1048576) n0 = 1048576 - n0 := by unfold szF; rw [if_neg hb0]
  have hl0 : n0 ≤ 1048576 := by omega
  have hL0 : x0.length ≤ 1048576 := by rw [hs0.1]; exact hl0
  go_enter Try.func6, Try.ntmps6
  go_wp2_with fail
  refine (szDetectorS_any _ _ _ _ _ hn0 (by omega) (by omega)).mono ?_
  rintro e V ⟨rfl, rfl⟩
  rw [hq0]
  clear hq0
  have hk0 := bl_refl w
  go_wp2_with fail
  refine (toDetectorS_any _ _ _ x0 _ hl0 (hs0.below hk0)).mono ?_
  rintro e V1 ⟨A_s0, c_s0, rfl, ho_s0, hb1⟩
  have hk1 := bl_trans hk0 hb1
  have z1 := Lib.hid hb1.size
  have hi_s0 := Lib.hid ho_s0.lies
  have hR : (swF x0 x1 x2).1.length ≤ 1048576 := swF_len x0 x1 x2
  go_wp2_with fail
  refine (specSwitchDetector_any x0 x1 x2 _ _ _ _ (by have := ho_s0.sl.1; omega) ho_s0.sl).mono ?_
  rintro e V2 ⟨A_w0, c_w0, rfl, ho_w0, hb2⟩
  have hk2 := bl_trans hk1 hb2
  have z2 := Lib.hid hb2.size
  have s0_2 := ho_s0.below hb2
  clear hk1 ho_s0
  have hi_w0 := Lib.hid ho_w0.lies
  clear s0_2 hi_s0
  go_wp2_with fail
  refine (toDetectorS_any _ _ _ x0 _ hl0 (hs0.below hk2)).mono ?_
  rintro e V3 ⟨A_x0, c_x0, rfl, ho_x0, hb3⟩
  have hk3 := bl_trans hk2 hb3
  have z3 := Lib.hid hb3.size
  have w0_3 := ho_w0.below hb3
  clear hk2 ho_w0
  have hi_x0 := Lib.hid ho_x0.lies
  go_wp2_with fail
  refine (implSwitchDetector_any x0 x1 x2 _ _ _ _ (by have := ho_x0.sl.1; omega) ho_x0.sl).mono ?_
  rintro e V4 ⟨A_g0, c_g0, rfl, ho_g0, hb4⟩
  have hk4 := bl_trans hk3 hb4
  have z4 := Lib.hid hb4.size
  have w0_4 := w0_3.below hb4
  have x0_4 := ho_x0.below hb4
  clear hk3 w0_3 ho_x0
  have hi_g0 := Lib.hid ho_g0.lies
  go_wp2_with fail
  refine (eqDetectorS_any _ _ _ _ _ _ _ _ _ (by omega) ho_g0.sl w0_4.sl).mono ?_
  rintro e V5 ⟨rfl, hb5⟩
  rw [sameB_refl]
  have hk5 := bl_trans hk4 hb5
  have z5 := Lib.hid hb5.size
  have w0_5 := w0_4.below hb5
  have x0_5 := x0_4.below hb5
  have g0_5 := ho_g0.below hb5
  clear hk4 w0_4 x0_4 ho_g0
  go_wp2_with fail
  refine (toDetectorS_any _ _ _ x0 _ hl0 (hs0.below hk5)).mono ?_
  rintro e V6 ⟨A_y0, c_y0, rfl, ho_y0, hb6⟩
  have hk6 := bl_trans hk5 hb6
  have z6 := Lib.hid hb6.size
  have w0_6 := w0_5.below hb6
  have x0_6 := x0_5.below hb6
  have g0_6 := g0_5.below hb6
  clear hk5 w0_5 x0_5 g0_5
  have hi_y0 := Lib.hid ho_y0.lies
  go_wp2_with fail
  refine (eqDetectorS_any _ _ _ _ _ _ _ _ _ (by omega) x0_6.sl ho_y0.sl).mono ?_
  rintro e V7 ⟨rfl, hb7⟩
  rw [sameB_refl]
  have hk7 := bl_trans hk6 hb7
  have z7 := Lib.hid hb7.size
  have w0_7 := w0_6.below hb7
  have x0_7 := x0_6.below hb7
  have g0_7 := g0_6.below hb7
  have y0_7 := ho_y0.below hb7
  clear hk6 w0_6 x0_6 g0_6 ho_y0
  clear y0_7 hi_y0
  go_wp2_with fail
  refine (markDetectorS_any _ _ _ _ _ _ _ (by omega) (by omega) (by omega) x0_7).mono ?_
  rintro e V8 ⟨rfl, hm8, hg8⟩
  have hf8 := OnlyF.of_gb hg8
  have hk8 := below_only hk7 hf8 hi_x0.out (by have := z1.out; have := z2.out; have := z3.out; have := z4.out; have := z5.out; have := z6.out; have := z7.out; omega)
  have z8 := Lib.hid hf8.size
  have w0_8 := w0_7.only hf8 (hi_w0.out.apart hi_x0.out (by have := z1.out; have := z2.out; have := z3.out; have := z4.out; have := z5.out; have := z6.out; have := z7.out; have := z8.out; omega))
  have g0_8 := g0_7.only hf8 (hi_g0.out.apart hi_x0.out (by have := z1.out; have := z2.out; have := z3.out; have := z4.out; have := z5.out; have := z6.out; have := z7.out; have := z8.out; omega))
  clear hk7 x0_7 w0_7 g0_7 hg8 hf8
  clear hm8 hi_x0
  go_wp2_with fail
  refine (eqDetectorS_any _ _ _ _ _ _ _ _ _ (by omega) g0_8.sl w0_8.sl).mono ?_
  rintro e V9 ⟨rfl, hb9⟩
  rw [sameB_refl]
  have hk9 := bl_trans hk8 hb9
  have z9 := Lib.hid hb9.size
  have w0_9 := w0_8.below hb9
  have g0_9 := g0_8.below hb9
  clear hk8 w0_8 g0_8
  go_wp2_with fail
  refine (markDetectorS_any _ _ _ _ _ _ _ (by omega) (by omega) (by omega) g0_9).mono ?_
  rintro e V10 ⟨rfl, hm10, hg10⟩
  have hf10 := OnlyF.of_gb hg10
  have hk10 := below_only hk9 hf10 hi_g0.out (by have := z1.out; have := z2.out; have := z3.out; have := z4.out; have := z5.out; have := z6.out; have := z7.out; have := z8.out; have := z9.out; omega)
  have z10 := Lib.hid hf10.size
  have w0_10 := w0_9.only hf10 (hi_w0.out.apart hi_g0.out (by have := z1.out; have := z2.out; have := z3.out; have := z4.out; have := z5.out; have := z6.out; have := z7.out; have := z8.out; have := z9.out; have := z10.out; omega))
  clear hk9 g0_9 w0_9 hg10 hf10
  go_wp2_with fail
  refine (heldDetectorS_any _ _ _ _ _ (by omega) (by omega) (by omega) hm10.sl).mono ?_
  rintro e V11 ⟨rfl, hb11⟩
  have hk11 := bl_trans hk10 hb11
  have z11 := Lib.hid hb11.size
  have w0_11 := w0_10.below hb11
  have g0_11 := hm10.below hb11
  clear hk10 w0_10 hm10
  go_wp2_with fail
  refine (toDetectorS_any _ _ _ x0 _ hl0 (hs0.below hk11)).mono ?_
  rintro e V12 ⟨A_t0, c_t0, rfl, ho_t0, hb12⟩
  have hk12 := bl_trans hk11 hb12
  have z12 := Lib.hid hb12.size
  have w0_12 := w0_11.below hb12
  have g0_12 := g0_11.below hb12
  clear hk11 w0_11 g0_11
  have hi_t0 := Lib.hid ho_t0.lies
  go_wp2_with fail
  refine (implSwitchDetector_any x0 x1 x2 _ _ _ _ (by have := ho_t0.sl.1; omega) ho_t0.sl).mono ?_
  rintro e V13 ⟨A_h0, c_h0, rfl, ho_h0, hb13⟩
  have hk13 := bl_trans hk12 hb13
  have z13 := Lib.hid hb13.size
  have w0_13 := w0_12.below hb13
  have g0_13 := g0_12.below hb13
  have t0_13 := ho_t0.below hb13
  clear hk12 w0_12 g0_12 ho_t0
  have hi_h0 := Lib.hid ho_h0.lies
  clear t0_13 hi_t0
  go_wp2_with fail
  refine (eqDetectorS_any _ _ _ _ _ _ _ _ _ (by omega) ho_h0.sl w0_13.sl).mono ?_
  rintro e V14 ⟨rfl, hb14⟩
  rw [sameB_refl]
  have hk14 := bl_trans hk13 hb14
  have z14 := Lib.hid hb14.size
  have w0_14 := w0_13.below hb14
  have g0_14 := g0_13.below hb14
  have h0_14 := ho_h0.below hb14
  clear hk13 w0_13 g0_13 ho_h0
  clear h0_14 hi_h0
  clear w0_14 hi_w0
  go_wp2_with fail
  refine (heldDetectorS_any _ _ _ _ _ (by omega) (by omega) (by omega) g0_14.sl).mono ?_
  rintro e V15 ⟨rfl, hb15⟩
  have hk15 := bl_trans hk14 hb15
  have z15 := Lib.hid hb15.size
  have g0_15 := g0_14.below hb15
  clear hk14 g0_14
  clear g0_15 hi_g0
  go_wp2
  go_ret
  exact ⟨rfl, hk15⟩

open Go.WideShapes Go.ChangeShapes Go.ChangeAt
theorem own_ : ownKnob Try.prog.godebug = none := by kernel_rfl
theorem laid_ : laidOutB Try.prog = true := by kernel_rfl
theorem contract_ (H : Type) (enc : TypeId × Value → H) (W : World) (base : Nat) (args : Array Value) (ds gs : List (DataW H)) (before : List MemPlace)
    (hval : ∀ (j : Nat) t v, Try.f6.params[j]? = some t → args[j]? = some v → Value.okWide Try.prog W .any base t v)
    (hW : DataW.Whole enc Try.prog Try.f6.params.toList Rows.fnExactSwitchDetectorSpec.vars false W args.toList ds gs before) :
    Calls Try.prog 6 args W fun e W' => ∃ v, e = .returned v ∧ Rows.fnExactSwitchDetectorSpec.post enc Try.prog Try.f6 false true false false W args v W' := by
  have hW' := hW
  obtain ⟨p, q, hA0, hV, rfl, hfz, hnd⟩ := hW
  have hA : DataW.TrodAll enc Try.prog W 0 (fun _ => true) true Try.f6.params.toList args.toList ds p := hA0
  rw [Try.params6] at hA hval
  obtain ⟨v0, vs0, d0, ds0, p0, q0, hargs, rfl, rfl, h0, r0⟩ := trodAll_cons hA
  obtain ⟨v1, vs1, d1, ds1, p1, q1, rfl, rfl, rfl, h1, r1⟩ := trodAll_cons r0
  obtain ⟨v2, vs2, d2, ds2, p2, q2, rfl, rfl, rfl, h2, r2⟩ := trodAll_cons r1
  obtain ⟨rfl, rfl, rfl⟩ := trodAll_nil r2
  obtain rfl : args = #[v0, v1, v2] := by cases args; simp_all
  obtain ⟨rfl, rfl⟩ := trodVars_none hV
  obtain ⟨A0, n0, c0, rfl⟩ := okWide_slice Try.underlying29 (hval 0 _ v0 rfl rfl)
  obtain ⟨fuel0, h0⟩ := h0
  obtain ⟨x0, A0', c0', e0, hs0, hm0⟩ := opens_slice Try.underlying29 (by kernel_rfl) (opens_det) h0
  obtain ⟨rfl, rfl, rfl⟩ : A0 = A0' ∧ n0 = x0.length ∧ c0 = c0' := by simpa [Value.cells] using e0
  have hm0 : (x0.length : Int) ≤ 9223372036854775807 := by unfold maxLen at hm0; omega
  obtain ⟨x1, rfl, rfl, rfl, wx1⟩ := open_int Try.underlying3 (hval 1 _ v1 rfl rfl) h1
  have hx1 : -9223372036854775808 ≤ x1 ∧ x1 ≤ 9223372036854775807 := by simpa [Lit.wf, IntKind.min, IntKind.max, IntKind.signed, IntKind.bits] using wx1
  obtain ⟨x2, rfl, rfl, rfl⟩ := open_bool Try.underlying4 (hval 2 _ v2 rfl rfl) h2
  refine (walk x0 A0 _ c0 x1 x2 W hm0 hs0 hx1).mono fun e W' ⟨he, hb⟩ => ?_
  exact ⟨_, he, post_law laid_ Try.underlying4 rfl rfl (by kernel_rfl) ⟨rfl, rfl, rfl⟩ hW' hb⟩

set_option maxRecDepth 100000 in
theorem lifted_ (os : Os) (started : os.Started) (H : Type) (enc : TypeId × Value → H) :
    ReturnsInHanded {} Try.checked os 6 .any (Rows.fnExactSwitchDetectorSpec.pre6 enc Try.prog Try.f6 Rows.fnExactSwitchDetectorRow.domain false) (Rows.fnExactSwitchDetectorSpec.post enc Try.prog Try.f6 false true false false) := by
  refine returnsInHanded_of_change (C := Try.checked) own_ started (by kernel_rfl) Try.func6
    (ChangeSpec.witness6 (enc := enc) (C := Try.checked) false ⟨#[], #[.slice none 0 0, .int .i64 0, .bool false], []⟩ 8 (by kernel_rfl) (by kernel_rfl) (by kernel_rfl) (by kernel_rfl)) ?_
  intro W base args ds gs before hval0 hW _ _
  exact contract_ H enc W base args ds gs before hval0 hW

theorem proved : Rows.FnExactSwitchDetectorSaid :=
  OpenClaim.holds_of_wide 6 Try.f6 rfl rfl rfl rfl rfl rfl rfl ⟨rfl, rfl, rfl, rfl, rfl⟩ rfl rfl rfl rfl rfl (by kernel_rfl) Try.func6 (by kernel_rfl)
    (of_decide_eq_true (by kernel_rfl)) (by unfold Func.isWrapper; first | (rw [if_pos (by decide +kernel)]; kernel_rfl) | (rw [if_neg (by decide +kernel)]; exact ⟨rfl, rfl⟩))
    (fun os started H enc _ => lifted_ os started H enc)

end Go.Proofs.Ytjdaikpkcafcdaa.lawSwitchDetector
