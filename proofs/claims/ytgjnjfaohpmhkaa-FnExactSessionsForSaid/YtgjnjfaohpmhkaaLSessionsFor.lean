/-
  The law on SessionsFor: it answers true at every input, and every argument reads as before. No conditions.
-/
import Derived.Test.YtgjnjfaohpmhkaaSsZ
import Derived.Test.YtgjnjfaohpmhkaaOpK
import Derived.Test.YtgjnjfaohpmhkaaRow
import Derived.Test.YtgjnjfaohpmhkaaRows
import Derived.Test.YtgjnjfaohpmhkaaMem3
namespace Go.Proofs.Ytgjnjfaohpmhkaa.lawSessionsFor
open Go.RowKit

set_option maxRecDepth 100000 in
set_option maxHeartbeats 4000000 in
theorem walk (x0 : List Skill) (A0 : Option Addr) (n0 c0 : Nat) (x1 : Int) (x2 : Int) (x3 : Int) (w : World) (hn0 : (n0 : Int) ≤ 9223372036854775807) (hs0 : Sl w A0 n0 x0) (hv0 : ∀ x, x ∈ x0 → x.Person.size ≤ maxLen) (_hx1 : -9223372036854775808 ≤ x1 ∧ x1 ≤ 9223372036854775807) (_hx2 : -9223372036854775808 ≤ x2 ∧ x2 ≤ 9223372036854775807) (_hx3 : -9223372036854775808 ≤ x3 ∧ x3 ≤ 9223372036854775807) :
    Calls Try.prog 3 #[.slice A0 n0 c0, .int .i64 x1, .int .i64 x2, .int .i64 x3] w fun e w' => e = .returned (.bool true) ∧ Below w.heap.size w w' := by
  go_enter Try.func3, Try.ntmps3
  have hk0 := bl_refl w
  go_wp2_with fail
  refine (szSkillS_any _ _ _ x0 _ _ hn0 (hs0.below hk0) hv0 (by omega) (by omega)).mono ?_
  rintro e V1 ⟨r0, rfl, hr0, hb1⟩
  have hB1 := bl_trans (a := w) (bl_refl _) hb1
  have hk1 := bl_trans hk0 hB1
  have z1 := Lib.hid hB1.size
  clear hb1
  rcases hr0 with rfl | ⟨ha0, hc0, hp0⟩
  · go_wp2
    go_ret
    exact ⟨rfl, hk1⟩
  have hl0 : n0 ≤ 1048576 := by have := hp0.1; omega
  have hL0 : x0.length ≤ 1048576 := by rw [hs0.1]; exact hl0
  clear hp0
  go_wp2_with fail
  refine (toSkillS_any _ _ _ x0 _ hl0 (hs0.below hk1)).mono ?_
  rintro e V2 ⟨A_s0, c_s0, rfl, ho_s0, hb2⟩
  have hi_s0 := ho_s0.lies
  have Hi_s0 := Lib.hid hi_s0
  clear hi_s0
  have hB2 := bl_trans (a := V1) (bl_refl _) hb2
  have hk2 := bl_trans hk1 hB2
  have z2 := Lib.hid hB2.size
  clear hk1
  clear hb2
  have hR : (ssF x0 x1 x2 x3).1.length ≤ 1048576 ∧ ((ssF x0 x1 x2 x3).1.length : Int) + sumInts (ssF x0 x1 x2 x3).1 ≤ 1048576 := ssF_len x0 x1 x2 x3
  obtain ⟨hR, hRS0⟩ := hR
  go_wp2_with fail
  refine (specSessionsFor_any x0 x1 x2 x3 _ _ _ _ (by omega) ho_s0.sl hv0).mono ?_
  rintro e V3 ⟨A_w0, c_w0, F_w0, rfl, ho_w0, hb3⟩
  have hi_w0 := ho_w0.lies
  have Hi_w0 := Lib.hid hi_w0
  clear hi_w0
  clear ho_s0 Hi_s0
  have hB3 := bl_trans (a := V2) (bl_refl _) hb3
  have hk3 := bl_trans hk2 hB3
  have z3 := Lib.hid hB3.size
  clear hk2
  clear hb3
  go_wp2_with fail
  refine (toSkillS_any _ _ _ x0 _ hl0 (hs0.below hk3)).mono ?_
  rintro e V4 ⟨A_x0, c_x0, rfl, ho_x0, hb4⟩
  have hi_x0 := ho_x0.lies
  have Hi_x0 := Lib.hid hi_x0
  clear hi_x0
  have hB4 := bl_trans (a := V3) (bl_refl _) hb4
  have hk4 := bl_trans hk3 hB4
  have z4 := Lib.hid hB4.size
  have w0_4 := ho_w0.below hB4
  clear hk3 ho_w0
  clear hb4
  go_wp2_with fail
  refine (implSessionsFor_any x0 x1 x2 x3 _ _ _ _ (by omega) ho_x0.sl hv0).mono ?_
  rintro e V5 ⟨A_g0, c_g0, F_g0, rfl, ho_g0, hb5⟩
  have hi_g0 := ho_g0.lies
  have Hi_g0 := Lib.hid hi_g0
  clear hi_g0
  have hB5 := bl_trans (a := V4) (bl_refl _) hb5
  have hk5 := bl_trans hk4 hB5
  have z5 := Lib.hid hB5.size
  have w0_5 := w0_4.below hB5
  have x0_5 := ho_x0.below hB5
  clear hk4 w0_4 ho_x0
  clear hb5
  go_wp2_with fail
  refine (eqIntSS_any _ _ _ _ _ _ _ _ _ (by omega) ho_g0.sl w0_5.sl).mono ?_
  rintro e V6 ⟨rfl, hb6⟩
  rw [sameB_refl]
  have hB6 := bl_trans (a := V5) (bl_refl _) hb6
  have hk6 := bl_trans hk5 hB6
  have z6 := Lib.hid hB6.size
  have w0_6 := w0_5.below hB6
  have x0_6 := x0_5.below hB6
  have g0_6 := ho_g0.below hB6
  clear hk5 w0_5 x0_5 ho_g0
  clear hb6
  go_wp2_with fail
  refine (toSkillS_any _ _ _ x0 _ hl0 (hs0.below hk6)).mono ?_
  rintro e V7 ⟨A_y0, c_y0, rfl, ho_y0, hb7⟩
  have hi_y0 := ho_y0.lies
  have Hi_y0 := Lib.hid hi_y0
  clear hi_y0
  have hB7 := bl_trans (a := V6) (bl_refl _) hb7
  have hk7 := bl_trans hk6 hB7
  have z7 := Lib.hid hB7.size
  have w0_7 := w0_6.below hB7
  have x0_7 := x0_6.below hB7
  have g0_7 := g0_6.below hB7
  clear hk6 w0_6 x0_6 g0_6
  clear hb7
  go_wp2_with fail
  refine (eqSkillS_any _ _ _ _ _ _ _ _ _ (by omega) x0_7.sl ho_y0.sl).mono ?_
  rintro e V8 ⟨rfl, hb8⟩
  rw [sameB_refl]
  have hB8 := bl_trans (a := V7) (bl_refl _) hb8
  have hk8 := bl_trans hk7 hB8
  have z8 := Lib.hid hB8.size
  have w0_8 := w0_7.below hB8
  have x0_8 := x0_7.below hB8
  have g0_8 := g0_7.below hB8
  have y0_8 := ho_y0.below hB8
  clear hk7 w0_7 x0_7 g0_7 ho_y0
  clear hb8
  clear y0_8 Hi_y0
  go_wp2_with fail
  refine (markSkillS_any _ _ _ _ _ _ _ (by omega) (by omega) (by omega) x0_8).mono ?_
  rintro e V9 ⟨rfl, hm9, hg9⟩
  have hf9 := OnlyF.of_gb hg9
  have hk9 := below_only hk8 hf9 Hi_x0.out (by (try simp only [World.size_alloc]); (try simp only [World.size_drew]); have := z1.out; have := z2.out; have := z3.out; have := z4.out; have := z5.out; have := z6.out; have := z7.out; have := z8.out; omega)
  have z9 := Lib.hid hf9.size
  have w0_9 := w0_8.only hf9 (Hi_w0.out.apart Hi_x0.out (by (try simp only [World.size_alloc]); (try simp only [World.size_drew]); have := z1.out; have := z2.out; have := z3.out; have := z4.out; have := z5.out; have := z6.out; have := z7.out; have := z8.out; have := z9.out; omega))
  have g0_9 := g0_8.only hf9 (Hi_g0.out.apart Hi_x0.out (by (try simp only [World.size_alloc]); (try simp only [World.size_drew]); have := z1.out; have := z2.out; have := z3.out; have := z4.out; have := z5.out; have := z6.out; have := z7.out; have := z8.out; have := z9.out; omega))
  clear hk8 x0_8 w0_8 g0_8 hg9 hf9
  clear hm9 Hi_x0
  go_wp2_with fail
  refine (eqIntSS_any _ _ _ _ _ _ _ _ _ (by omega) g0_9.sl w0_9.sl).mono ?_
  rintro e V10 ⟨rfl, hb10⟩
  rw [sameB_refl]
  have hB10 := bl_trans (a := V9) (bl_refl _) hb10
  have hk10 := bl_trans hk9 hB10
  have z10 := Lib.hid hB10.size
  have w0_10 := w0_9.below hB10
  have g0_10 := g0_9.below hB10
  clear hk9 w0_9 g0_9
  clear hb10
  go_wp2_with fail
  refine (markIntSS_any _ _ _ _ _ (ssF x0 x1 x2 x3).1 _ _ (by omega) (by omega) hRS0 g0_10).mono ?_
  rintro e V11 ⟨rfl, hm11, hf11⟩
  have hk11 := below_only hk10 hf11 Hi_g0.out (by (try simp only [World.size_alloc]); (try simp only [World.size_drew]); have := z1.out; have := z2.out; have := z3.out; have := z4.out; have := z5.out; have := z6.out; have := z7.out; have := z8.out; have := z9.out; have := z10.out; omega)
  have z11 := Lib.hid hf11.size
  have w0_11 := w0_10.only hf11 (Hi_w0.out.apart Hi_g0.out (by (try simp only [World.size_alloc]); (try simp only [World.size_drew]); have := z1.out; have := z2.out; have := z3.out; have := z4.out; have := z5.out; have := z6.out; have := z7.out; have := z8.out; have := z9.out; have := z10.out; have := z11.out; omega))
  clear hk10 g0_10 w0_10 hf11
  go_wp2_with fail
  refine (heldIntSS_x _ _ _ _ (ssF x0 x1 x2 x3).1 _ (by omega) (by omega) rfl hRS0 hm11.sl).mono ?_
  rintro e V12 ⟨rfl, hb12⟩
  have hB12 := bl_trans (a := V11) (bl_refl _) hb12
  have hk12 := bl_trans hk11 hB12
  have z12 := Lib.hid hB12.size
  have w0_12 := w0_11.below hB12
  have g0_12 := hm11.below hB12
  clear hk11 w0_11 hm11
  clear hb12
  go_wp2_with fail
  refine (toSkillS_any _ _ _ x0 _ hl0 (hs0.below hk12)).mono ?_
  rintro e V13 ⟨A_t0, c_t0, rfl, ho_t0, hb13⟩
  have hi_t0 := ho_t0.lies
  have Hi_t0 := Lib.hid hi_t0
  clear hi_t0
  have hB13 := bl_trans (a := V12) (bl_refl _) hb13
  have hk13 := bl_trans hk12 hB13
  have z13 := Lib.hid hB13.size
  have w0_13 := w0_12.below hB13
  have g0_13 := g0_12.below hB13
  clear hk12 w0_12 g0_12
  clear hb13
  go_wp2_with fail
  refine (implSessionsFor_any x0 x1 x2 x3 _ _ _ _ (by omega) ho_t0.sl hv0).mono ?_
  rintro e V14 ⟨A_h0, c_h0, F_h0, rfl, ho_h0, hb14⟩
  have hi_h0 := ho_h0.lies
  have Hi_h0 := Lib.hid hi_h0
  clear hi_h0
  clear ho_t0 Hi_t0
  have hB14 := bl_trans (a := V13) (bl_refl _) hb14
  have hk14 := bl_trans hk13 hB14
  have z14 := Lib.hid hB14.size
  have w0_14 := w0_13.below hB14
  have g0_14 := g0_13.below hB14
  clear hk13 w0_13 g0_13
  clear hb14
  go_wp2_with fail
  refine (eqIntSS_any _ _ _ _ _ _ _ _ _ (by omega) ho_h0.sl w0_14.sl).mono ?_
  rintro e V15 ⟨rfl, hb15⟩
  rw [sameB_refl]
  have hB15 := bl_trans (a := V14) (bl_refl _) hb15
  have hk15 := bl_trans hk14 hB15
  have z15 := Lib.hid hB15.size
  have w0_15 := w0_14.below hB15
  have g0_15 := g0_14.below hB15
  have h0_15 := ho_h0.below hB15
  clear hk14 w0_14 g0_14 ho_h0
  clear hb15
  clear h0_15 Hi_h0
  clear w0_15 Hi_w0
  go_wp2_with fail
  refine (heldIntSS_x _ _ _ _ (ssF x0 x1 x2 x3).1 _ (by omega) (by omega) rfl hRS0 g0_15.sl).mono ?_
  rintro e V16 ⟨rfl, hb16⟩
  have hB16 := bl_trans (a := V15) (bl_refl _) hb16
  have hk16 := bl_trans hk15 hB16
  have z16 := Lib.hid hB16.size
  have g0_16 := g0_15.below hB16
  clear hk15 g0_15
  clear hb16
  clear g0_16 Hi_g0
  go_wp2
  go_ret
  exact ⟨rfl, hk16⟩

open Go.WideShapes Go.ChangeShapes Go.ChangeAt
theorem own_ : ownKnob Try.prog.godebug = none := by kernel_rfl
theorem laid_ : laidOutB Try.prog = true := by kernel_rfl
set_option maxRecDepth 100000 in
theorem contract_ (H : Type) (enc : TypeId × Value → H) (W : World) (base : Nat) (args : Array Value) (ds gs : List (DataW H)) (before : List MemPlace)
    (hval : ∀ (j : Nat) t v, Try.f3.params[j]? = some t → args[j]? = some v → Value.okWide Try.prog W .any base t v)
    (hW : DataW.Whole enc Try.prog Try.f3.params.toList Rows.fnExactSessionsForSpec.vars false W args.toList ds gs before) :
    Calls Try.prog 3 args W fun e W' => ∃ v, e = .returned v ∧ Rows.fnExactSessionsForSpec.post enc Try.prog Try.f3 false true false false W args v W' := by
  have hW' := hW
  obtain ⟨p, q, hA0, hV, rfl, hfz, hnd⟩ := hW
  have hA : DataW.TrodAll enc Try.prog W 0 (fun _ => true) true Try.f3.params.toList args.toList ds p := hA0
  rw [Try.params3] at hA hval
  obtain ⟨v0, vs0, d0, ds0, p0, q0, hargs, rfl, rfl, h0, r0⟩ := trodAll_cons hA
  obtain ⟨v1, vs1, d1, ds1, p1, q1, rfl, rfl, rfl, h1, r1⟩ := trodAll_cons r0
  obtain ⟨v2, vs2, d2, ds2, p2, q2, rfl, rfl, rfl, h2, r2⟩ := trodAll_cons r1
  obtain ⟨v3, vs3, d3, ds3, p3, q3, rfl, rfl, rfl, h3, r3⟩ := trodAll_cons r2
  obtain ⟨rfl, rfl, rfl⟩ := trodAll_nil r3
  obtain rfl : args = #[v0, v1, v2, v3] := by cases args; simp_all
  obtain ⟨rfl, rfl⟩ := trodVars_none hV
  obtain ⟨A0, n0, c0, rfl⟩ := okWide_slice Try.underlying22 (hval 0 _ v0 rfl rfl)
  obtain ⟨fuel0, h0⟩ := h0
  obtain ⟨x0, ⟨A0', c0', e0, hs0, hm0⟩, ho0⟩ := opens_slice Try.underlying22 (by kernel_rfl) (opens_skill) h0
  obtain ⟨rfl, rfl, rfl⟩ : A0 = A0' ∧ n0 = x0.length ∧ c0 = c0' := by simpa [Value.cells] using e0
  have hm0 : (x0.length : Int) ≤ 9223372036854775807 := by unfold maxLen at hm0; omega
  obtain ⟨x1, rfl, rfl, rfl, wx1⟩ := open_int Try.underlying3 (hval 1 _ v1 rfl rfl) h1
  have hx1 : -9223372036854775808 ≤ x1 ∧ x1 ≤ 9223372036854775807 := by simpa [Lit.wf, IntKind.min, IntKind.max, IntKind.signed, IntKind.bits] using wx1
  obtain ⟨x2, rfl, rfl, rfl, wx2⟩ := open_int Try.underlying3 (hval 2 _ v2 rfl rfl) h2
  have hx2 : -9223372036854775808 ≤ x2 ∧ x2 ≤ 9223372036854775807 := by simpa [Lit.wf, IntKind.min, IntKind.max, IntKind.signed, IntKind.bits] using wx2
  obtain ⟨x3, rfl, rfl, rfl, wx3⟩ := open_int Try.underlying3 (hval 3 _ v3 rfl rfl) h3
  have hx3 : -9223372036854775808 ≤ x3 ∧ x3 ≤ 9223372036854775807 := by simpa [Lit.wf, IntKind.min, IntKind.max, IntKind.signed, IntKind.bits] using wx3
  refine (walk x0 A0 _ c0 x1 x2 x3 W hm0 hs0 (fun x hx => (ho0 x hx).1) hx1 hx2 hx3).mono fun e W' ⟨he, hb⟩ => ?_
  exact ⟨_, he, post_law laid_ Try.underlying4 rfl rfl (by kernel_rfl) ⟨rfl, rfl, rfl⟩ hW' hb⟩

set_option maxRecDepth 100000 in
theorem lifted_ (os : Os) (started : os.Started) (H : Type) (enc : TypeId × Value → H) :
    ReturnsInHanded {} Try.checked os 3 .any (Rows.fnExactSessionsForSpec.pre6 enc Try.prog Try.f3 Rows.fnExactSessionsForRow.domain false) (Rows.fnExactSessionsForSpec.post enc Try.prog Try.f3 false true false false) := by
  refine returnsInHanded_of_change (C := Try.checked) own_ started (by kernel_rfl) Try.func3
    (ChangeSpec.witness6 (enc := enc) (C := Try.checked) false ⟨#[], #[.slice none 0 0, .int .i64 0, .int .i64 0, .int .i64 0], []⟩ 8 (by kernel_rfl) (by kernel_rfl) (by kernel_rfl) (by kernel_rfl)) ?_
  intro W base args ds gs before hval0 hW _ _
  exact contract_ H enc W base args ds gs before hval0 hW

theorem proved : Rows.FnExactSessionsForSaid :=
  OpenClaim.holds_of_wide 3 Try.f3 rfl rfl rfl rfl rfl rfl rfl ⟨rfl, rfl, rfl, rfl, rfl⟩ rfl rfl rfl rfl rfl (by kernel_rfl) Try.func3 (by kernel_rfl)
    (of_decide_eq_true (by kernel_rfl)) (by unfold Func.isWrapper; first | (rw [if_pos (by decide +kernel)]; kernel_rfl) | (rw [if_neg (by decide +kernel)]; exact ⟨rfl, rfl⟩))
    (fun os started H enc _ => lifted_ os started H enc)

end Go.Proofs.Ytgjnjfaohpmhkaa.lawSessionsFor
