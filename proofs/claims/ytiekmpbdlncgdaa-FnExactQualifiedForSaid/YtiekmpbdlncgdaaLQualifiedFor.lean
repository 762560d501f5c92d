/-
  The law on QualifiedFor: it answers true at every input, and every argument reads as before. No conditions.
-/
import Derived.Test.YtiekmpbdlncgdaaQforF
import Derived.Test.YtiekmpbdlncgdaaOpK
import Derived.Test.YtiekmpbdlncgdaaRows
import Derived.Test.YtiekmpbdlncgdaaMem3
namespace Go.Proofs.Ytiekmpbdlncgdaa.lawQualifiedFor
open Go.RowKit

set_option maxRecDepth 100000 in
set_option maxHeartbeats 4000000 in
theorem walk (x0 : List Skill) (A0 : Option Addr) (n0 c0 : Nat) (x1 : List Int) (A1 : Option Addr) (n1 c1 : Nat) (x2 : Int) (w : World) (hn0 : (n0 : Int) ≤ 9223372036854775807) (hs0 : Sl w A0 n0 x0) (hv0 : ∀ x, x ∈ x0 → x.Person.size ≤ maxLen) (hn1 : (n1 : Int) ≤ 9223372036854775807) (hs1 : Sl w A1 n1 x1) (_hv1 : ∀ x, x ∈ x1 → True) (_hx2 : -9223372036854775808 ≤ x2 ∧ x2 ≤ 9223372036854775807) :
    Calls Try.prog 10 #[.slice A0 n0 c0, .slice A1 n1 c1, .int .i64 x2] w fun e w' => e = .returned (.bool true) ∧ Below w.heap.size w w' := by
  by_cases hz1 : (1048576 : Int) < n1
  · have hz1' : decide ((n1 : Int) > 1048576) = true := by simp; omega
    go_enter Try.func10, Try.ntmps10
    go_wp2
    go_ret
    exact ⟨rfl, (by repeat' (first | exact bl_refl _ | refine bl_alloc ?_ _ | refine bl_drew ?_ | refine bl_drewN ?_ _ | refine bl_set ?_ ?_ _ | (simp; done) | (simp; omega)))⟩
  have hz1' : decide ((n1 : Int) > 1048576) = false := by simp; omega
  have hl1 : n1 ≤ 1048576 := by omega
  have hL1 : x1.length ≤ 1048576 := by rw [hs1.1]; exact hl1
  go_enter Try.func10, Try.ntmps10
  have hk0 := bl_refl w
  go_wp2_with fail
  refine (szSkillS_any _ _ _ x0 _ _ hn0 (hs0.below hk0) hv0 (by omega) (by omega)).mono ?_
  rintro e V1 ⟨r0, rfl, hr0, hb1⟩
  have hB1 := bl_trans (a := w) (bl_refl _) hb1
  have hk1 := bl_trans hk0 hB1
  have z1 := Lib.hid hB1.size
  clear hb1
  rcases hr0 with rfl | ⟨ha0, hc0, hp0⟩
  · go_wp2
    go_ret
    exact ⟨rfl, hk1⟩
  have hl0 : n0 ≤ 1048576 := by have := hp0.1; omega
  have hL0 : x0.length ≤ 1048576 := by rw [hs0.1]; exact hl0
  clear hp0
  go_wp2_with fail
  refine (toSkillS_any _ _ _ x0 _ hl0 (hs0.below hk1)).mono ?_
  rintro e V2 ⟨A_s0, c_s0, rfl, ho_s0, hb2⟩
  have hi_s0 := ho_s0.lies
  have Hi_s0 := Lib.hid hi_s0
  clear hi_s0
  have hB2 := bl_trans (a := V1) (bl_refl _) hb2
  have hk2 := bl_trans hk1 hB2
  have z2 := Lib.hid hB2.size
  clear hk1
  clear hb2
  go_wp2_with fail
  refine (toIntS_any _ _ _ x1 _ hl1 (hs1.below hk2)).mono ?_
  rintro e V3 ⟨A_s1, c_s1, rfl, ho_s1, hb3⟩
  have hi_s1 := ho_s1.lies
  have Hi_s1 := Lib.hid hi_s1
  clear hi_s1
  have hB3 := bl_trans (a := V2) (bl_refl _) hb3
  have hk3 := bl_trans hk2 hB3
  have z3 := Lib.hid hB3.size
  have s0_3 := ho_s0.below hB3
  clear hk2 ho_s0
  clear hb3
  have hR : (qforF x0 x1 x2).1.length ≤ 1048576 := qforF_len x0 x1 x2
  go_wp2_with fail
  refine (specQualifiedFor_any x0 x1 x2 _ _ _ _ _ _ _ (by omega) (by omega) s0_3.sl ho_s1.sl hv0).mono ?_
  rintro e V4 ⟨A_w0, c_w0, rfl, ho_w0, hb4⟩
  have hi_w0 := ho_w0.lies
  have Hi_w0 := Lib.hid hi_w0
  clear hi_w0
  clear s0_3 Hi_s0
  clear ho_s1 Hi_s1
  have hB4 := bl_trans (a := V3) (bl_refl _) hb4
  have hk4 := bl_trans hk3 hB4
  have z4 := Lib.hid hB4.size
  clear hk3
  clear hb4
  go_wp2_with fail
  refine (toSkillS_any _ _ _ x0 _ hl0 (hs0.below hk4)).mono ?_
  rintro e V5 ⟨A_x0, c_x0, rfl, ho_x0, hb5⟩
  have hi_x0 := ho_x0.lies
  have Hi_x0 := Lib.hid hi_x0
  clear hi_x0
  have hB5 := bl_trans (a := V4) (bl_refl _) hb5
  have hk5 := bl_trans hk4 hB5
  have z5 := Lib.hid hB5.size
  have w0_5 := ho_w0.below hB5
  clear hk4 ho_w0
  clear hb5
  go_wp2_with fail
  refine (toIntS_any _ _ _ x1 _ hl1 (hs1.below hk5)).mono ?_
  rintro e V6 ⟨A_x1, c_x1, rfl, ho_x1, hb6⟩
  have hi_x1 := ho_x1.lies
  have Hi_x1 := Lib.hid hi_x1
  clear hi_x1
  have hB6 := bl_trans (a := V5) (bl_refl _) hb6
  have hk6 := bl_trans hk5 hB6
  have z6 := Lib.hid hB6.size
  have w0_6 := w0_5.below hB6
  have x0_6 := ho_x0.below hB6
  clear hk5 w0_5 ho_x0
  clear hb6
  go_wp2_with fail
  refine (implQualifiedFor_any x0 x1 x2 _ _ _ _ _ _ _ (by omega) (by omega) x0_6.sl ho_x1.sl hv0).mono ?_
  rintro e V7 ⟨A_g0, c_g0, rfl, ho_g0, hb7⟩
  have hi_g0 := ho_g0.lies
  have Hi_g0 := Lib.hid hi_g0
  clear hi_g0
  have hB7 := bl_trans (a := V6) (bl_refl _) hb7
  have hk7 := bl_trans hk6 hB7
  have z7 := Lib.hid hB7.size
  have w0_7 := w0_6.below hB7
  have x0_7 := x0_6.below hB7
  have x1_7 := ho_x1.below hB7
  clear hk6 w0_6 x0_6 ho_x1
  clear hb7
  go_wp2_with fail
  refine (eqStringS_any _ _ _ _ _ _ _ _ _ (by omega) ho_g0.sl w0_7.sl).mono ?_
  rintro e V8 ⟨rfl, hb8⟩
  rw [sameB_refl]
  have hB8 := bl_trans (a := V7) (bl_refl _) hb8
  have hk8 := bl_trans hk7 hB8
  have z8 := Lib.hid hB8.size
  have w0_8 := w0_7.below hB8
  have x0_8 := x0_7.below hB8
  have x1_8 := x1_7.below hB8
  have g0_8 := ho_g0.below hB8
  clear hk7 w0_7 x0_7 x1_7 ho_g0
  clear hb8
  go_wp2_with fail
  refine (toSkillS_any _ _ _ x0 _ hl0 (hs0.below hk8)).mono ?_
  rintro e V9 ⟨A_y0, c_y0, rfl, ho_y0, hb9⟩
  have hi_y0 := ho_y0.lies
  have Hi_y0 := Lib.hid hi_y0
  clear hi_y0
  have hB9 := bl_trans (a := V8) (bl_refl _) hb9
  have hk9 := bl_trans hk8 hB9
  have z9 := Lib.hid hB9.size
  have w0_9 := w0_8.below hB9
  have x0_9 := x0_8.below hB9
  have x1_9 := x1_8.below hB9
  have g0_9 := g0_8.below hB9
  clear hk8 w0_8 x0_8 x1_8 g0_8
  clear hb9
  go_wp2_with fail
  refine (eqSkillS_any _ _ _ _ _ _ _ _ _ (by omega) x0_9.sl ho_y0.sl).mono ?_
  rintro e V10 ⟨rfl, hb10⟩
  rw [sameB_refl]
  have hB10 := bl_trans (a := V9) (bl_refl _) hb10
  have hk10 := bl_trans hk9 hB10
  have z10 := Lib.hid hB10.size
  have w0_10 := w0_9.below hB10
  have x0_10 := x0_9.below hB10
  have x1_10 := x1_9.below hB10
  have g0_10 := g0_9.below hB10
  have y0_10 := ho_y0.below hB10
  clear hk9 w0_9 x0_9 x1_9 g0_9 ho_y0
  clear hb10
  clear y0_10 Hi_y0
  go_wp2_with fail
  refine (toIntS_any _ _ _ x1 _ hl1 (hs1.below hk10)).mono ?_
  rintro e V11 ⟨A_y1, c_y1, rfl, ho_y1, hb11⟩
  have hi_y1 := ho_y1.lies
  have Hi_y1 := Lib.hid hi_y1
  clear hi_y1
  have hB11 := bl_trans (a := V10) (bl_refl _) hb11
  have hk11 := bl_trans hk10 hB11
  have z11 := Lib.hid hB11.size
  have w0_11 := w0_10.below hB11
  have x0_11 := x0_10.below hB11
  have x1_11 := x1_10.below hB11
  have g0_11 := g0_10.below hB11
  clear hk10 w0_10 x0_10 x1_10 g0_10
  clear hb11
  go_wp2_with fail
  refine (eqIntS_any _ _ _ _ _ _ _ _ _ (by omega) x1_11.sl ho_y1.sl).mono ?_
  rintro e V12 ⟨rfl, hb12⟩
  rw [sameB_refl]
  have hB12 := bl_trans (a := V11) (bl_refl _) hb12
  have hk12 := bl_trans hk11 hB12
  have z12 := Lib.hid hB12.size
  have w0_12 := w0_11.below hB12
  have x0_12 := x0_11.below hB12
  have x1_12 := x1_11.below hB12
  have g0_12 := g0_11.below hB12
  have y1_12 := ho_y1.below hB12
  clear hk11 w0_11 x0_11 x1_11 g0_11 ho_y1
  clear hb12
  clear y1_12 Hi_y1
  go_wp2_with fail
  refine (markSkillS_any _ _ _ _ _ _ _ (by omega) (by omega) (by omega) x0_12).mono ?_
  rintro e V13 ⟨rfl, hm13, hg13⟩
  have hf13 := OnlyF.of_gb hg13
  have hk13 := below_only hk12 hf13 Hi_x0.out (by (try simp only [World.size_alloc]); (try simp only [World.size_drew]); have := z1.out; have := z2.out; have := z3.out; have := z4.out; have := z5.out; have := z6.out; have := z7.out; have := z8.out; have := z9.out; have := z10.out; have := z11.out; have := z12.out; omega)
  have z13 := Lib.hid hf13.size
  have w0_13 := w0_12.only hf13 (Hi_w0.out.apart Hi_x0.out (by (try simp only [World.size_alloc]); (try simp only [World.size_drew]); have := z1.out; have := z2.out; have := z3.out; have := z4.out; have := z5.out; have := z6.out; have := z7.out; have := z8.out; have := z9.out; have := z10.out; have := z11.out; have := z12.out; have := z13.out; omega))
  have x1_13 := x1_12.only hf13 (Hi_x1.out.apart Hi_x0.out (by (try simp only [World.size_alloc]); (try simp only [World.size_drew]); have := z1.out; have := z2.out; have := z3.out; have := z4.out; have := z5.out; have := z6.out; have := z7.out; have := z8.out; have := z9.out; have := z10.out; have := z11.out; have := z12.out; have := z13.out; omega))
  have g0_13 := g0_12.only hf13 (Hi_g0.out.apart Hi_x0.out (by (try simp only [World.size_alloc]); (try simp only [World.size_drew]); have := z1.out; have := z2.out; have := z3.out; have := z4.out; have := z5.out; have := z6.out; have := z7.out; have := z8.out; have := z9.out; have := z10.out; have := z11.out; have := z12.out; have := z13.out; omega))
  clear hk12 x0_12 w0_12 x1_12 g0_12 hg13 hf13
  go_wp2_with fail
  refine (markIntS_any _ _ _ _ _ _ _ (by omega) (by omega) (by omega) x1_13).mono ?_
  rintro e V14 ⟨rfl, hm14, hg14⟩
  have hf14 := OnlyF.of_gb hg14
  have hk14 := below_only hk13 hf14 Hi_x1.out (by (try simp only [World.size_alloc]); (try simp only [World.size_drew]); have := z1.out; have := z2.out; have := z3.out; have := z4.out; have := z5.out; have := z6.out; have := z7.out; have := z8.out; have := z9.out; have := z10.out; have := z11.out; have := z12.out; have := z13.out; omega)
  have z14 := Lib.hid hf14.size
  have w0_14 := w0_13.only hf14 (Hi_w0.out.apart Hi_x1.out (by (try simp only [World.size_alloc]); (try simp only [World.size_drew]); have := z1.out; have := z2.out; have := z3.out; have := z4.out; have := z5.out; have := z6.out; have := z7.out; have := z8.out; have := z9.out; have := z10.out; have := z11.out; have := z12.out; have := z13.out; have := z14.out; omega))
  have x0_14 := hm13.only hf14 (Hi_x0.out.apart Hi_x1.out (by (try simp only [World.size_alloc]); (try simp only [World.size_drew]); have := z1.out; have := z2.out; have := z3.out; have := z4.out; have := z5.out; have := z6.out; have := z7.out; have := z8.out; have := z9.out; have := z10.out; have := z11.out; have := z12.out; have := z13.out; have := z14.out; omega))
  have g0_14 := g0_13.only hf14 (Hi_g0.out.apart Hi_x1.out (by (try simp only [World.size_alloc]); (try simp only [World.size_drew]); have := z1.out; have := z2.out; have := z3.out; have := z4.out; have := z5.out; have := z6.out; have := z7.out; have := z8.out; have := z9.out; have := z10.out; have := z11.out; have := z12.out; have := z13.out; have := z14.out; omega))
  clear hk13 x1_13 w0_13 hm13 g0_13 hg14 hf14
  clear x0_14 Hi_x0
  clear hm14 Hi_x1
  go_wp2_with fail
  refine (eqStringS_any _ _ _ _ _ _ _ _ _ (by omega) g0_14.sl w0_14.sl).mono ?_
  rintro e V15 ⟨rfl, hb15⟩
  rw [sameB_refl]
  have hB15 := bl_trans (a := V14) (bl_refl _) hb15
  have hk15 := bl_trans hk14 hB15
  have z15 := Lib.hid hB15.size
  have w0_15 := w0_14.below hB15
  have g0_15 := g0_14.below hB15
  clear hk14 w0_14 g0_14
  clear hb15
  go_wp2_with fail
  refine (markStringS_any _ _ _ _ _ _ _ (by omega) (by omega) (by omega) g0_15).mono ?_
  rintro e V16 ⟨rfl, hm16, hg16⟩
  have hf16 := OnlyF.of_gb hg16
  have hk16 := below_only hk15 hf16 Hi_g0.out (by (try simp only [World.size_alloc]); (try simp only [World.size_drew]); have := z1.out; have := z2.out; have := z3.out; have := z4.out; have := z5.out; have := z6.out; have := z7.out; have := z8.out; have := z9.out; have := z10.out; have := z11.out; have := z12.out; have := z13.out; have := z14.out; have := z15.out; omega)
  have z16 := Lib.hid hf16.size
  have w0_16 := w0_15.only hf16 (Hi_w0.out.apart Hi_g0.out (by (try simp only [World.size_alloc]); (try simp only [World.size_drew]); have := z1.out; have := z2.out; have := z3.out; have := z4.out; have := z5.out; have := z6.out; have := z7.out; have := z8.out; have := z9.out; have := z10.out; have := z11.out; have := z12.out; have := z13.out; have := z14.out; have := z15.out; have := z16.out; omega))
  clear hk15 g0_15 w0_15 hg16 hf16
  go_wp2_with fail
  refine (heldStringS_any _ _ _ _ _ (by omega) (by omega) (by omega) hm16.sl).mono ?_
  rintro e V17 ⟨rfl, hb17⟩
  have hB17 := bl_trans (a := V16) (bl_refl _) hb17
  have hk17 := bl_trans hk16 hB17
  have z17 := Lib.hid hB17.size
  have w0_17 := w0_16.below hB17
  have g0_17 := hm16.below hB17
  clear hk16 w0_16 hm16
  clear hb17
  go_wp2_with fail
  refine (toSkillS_any _ _ _ x0 _ hl0 (hs0.below hk17)).mono ?_
  rintro e V18 ⟨A_t0, c_t0, rfl, ho_t0, hb18⟩
  have hi_t0 := ho_t0.lies
  have Hi_t0 := Lib.hid hi_t0
  clear hi_t0
  have hB18 := bl_trans (a := V17) (bl_refl _) hb18
  have hk18 := bl_trans hk17 hB18
  have z18 := Lib.hid hB18.size
  have w0_18 := w0_17.below hB18
  have g0_18 := g0_17.below hB18
  clear hk17 w0_17 g0_17
  clear hb18
  go_wp2_with fail
  refine (toIntS_any _ _ _ x1 _ hl1 (hs1.below hk18)).mono ?_
  rintro e V19 ⟨A_t1, c_t1, rfl, ho_t1, hb19⟩
  have hi_t1 := ho_t1.lies
  have Hi_t1 := Lib.hid hi_t1
  clear hi_t1
  have hB19 := bl_trans (a := V18) (bl_refl _) hb19
  have hk19 := bl_trans hk18 hB19
  have z19 := Lib.hid hB19.size
  have w0_19 := w0_18.below hB19
  have g0_19 := g0_18.below hB19
  have t0_19 := ho_t0.below hB19
  clear hk18 w0_18 g0_18 ho_t0
  clear hb19
  go_wp2_with fail
  refine (implQualifiedFor_any x0 x1 x2 _ _ _ _ _ _ _ (by omega) (by omega) t0_19.sl ho_t1.sl hv0).mono ?_
  rintro e V20 ⟨A_h0, c_h0, rfl, ho_h0, hb20⟩
  have hi_h0 := ho_h0.lies
  have Hi_h0 := Lib.hid hi_h0
  clear hi_h0
  clear t0_19 Hi_t0
  clear ho_t1 Hi_t1
  have hB20 := bl_trans (a := V19) (bl_refl _) hb20
  have hk20 := bl_trans hk19 hB20
  have z20 := Lib.hid hB20.size
  have w0_20 := w0_19.below hB20
  have g0_20 := g0_19.below hB20
  clear hk19 w0_19 g0_19
  clear hb20
  go_wp2_with fail
  refine (eqStringS_any _ _ _ _ _ _ _ _ _ (by omega) ho_h0.sl w0_20.sl).mono ?_
  rintro e V21 ⟨rfl, hb21⟩
  rw [sameB_refl]
  have hB21 := bl_trans (a := V20) (bl_refl _) hb21
  have hk21 := bl_trans hk20 hB21
  have z21 := Lib.hid hB21.size
  have w0_21 := w0_20.below hB21
  have g0_21 := g0_20.below hB21
  have h0_21 := ho_h0.below hB21
  clear hk20 w0_20 g0_20 ho_h0
  clear hb21
  clear h0_21 Hi_h0
  clear w0_21 Hi_w0
  go_wp2_with fail
  refine (heldStringS_any _ _ _ _ _ (by omega) (by omega) (by omega) g0_21.sl).mono ?_
  rintro e V22 ⟨rfl, hb22⟩
  have hB22 := bl_trans (a := V21) (bl_refl _) hb22
  have hk22 := bl_trans hk21 hB22
  have z22 := Lib.hid hB22.size
  have g0_22 := g0_21.below hB22
  clear hk21 g0_21
  clear hb22
  clear g0_22 Hi_g0
  go_wp2
  go_ret
  exact ⟨rfl, hk22⟩

open Go.WideShapes Go.ChangeShapes Go.ChangeAt
theorem own_ : ownKnob Try.prog.godebug = none := by kernel_rfl
theorem laid_ : laidOutB Try.prog = true := by kernel_rfl
set_option maxRecDepth 100000 in
theorem contract_ (H : Type) (enc : TypeId × Value → H) (W : World) (base : Nat) (args : Array Value) (ds gs : List (DataW H)) (before : List MemPlace)
    (hval : ∀ (j : Nat) t v, Try.f10.params[j]? = some t → args[j]? = some v → Value.okWide Try.prog W .any base t v)
    (hW : DataW.Whole enc Try.prog Try.f10.params.toList Rows.fnExactQualifiedForSpec.vars false W args.toList ds gs before) :
    Calls Try.prog 10 args W fun e W' => ∃ v, e = .returned v ∧ Rows.fnExactQualifiedForSpec.post enc Try.prog Try.f10 false true false false W args v W' := by
  have hW' := hW
  obtain ⟨p, q, hA0, hV, rfl, hfz, hnd⟩ := hW
  have hA : DataW.TrodAll enc Try.prog W 0 (fun _ => true) true Try.f10.params.toList args.toList ds p := hA0
  rw [Try.params10] at hA hval
  obtain ⟨v0, vs0, d0, ds0, p0, q0, hargs, rfl, rfl, h0, r0⟩ := trodAll_cons hA
  obtain ⟨v1, vs1, d1, ds1, p1, q1, rfl, rfl, rfl, h1, r1⟩ := trodAll_cons r0
  obtain ⟨v2, vs2, d2, ds2, p2, q2, rfl, rfl, rfl, h2, r2⟩ := trodAll_cons r1
  obtain ⟨rfl, rfl, rfl⟩ := trodAll_nil r2
  obtain rfl : args = #[v0, v1, v2] := by cases args; simp_all
  obtain ⟨rfl, rfl⟩ := trodVars_none hV
  obtain ⟨A0, n0, c0, rfl⟩ := okWide_slice Try.underlying22 (hval 0 _ v0 rfl rfl)
  obtain ⟨fuel0, h0⟩ := h0
  obtain ⟨x0, ⟨A0', c0', e0, hs0, hm0⟩, ho0⟩ := opens_slice Try.underlying22 (by kernel_rfl) (opens_skill) h0
  obtain ⟨rfl, rfl, rfl⟩ : A0 = A0' ∧ n0 = x0.length ∧ c0 = c0' := by simpa [Value.cells] using e0
  have hm0 : (x0.length : Int) ≤ 9223372036854775807 := by unfold maxLen at hm0; omega
  obtain ⟨A1, n1, c1, rfl⟩ := okWide_slice Try.underlying38 (hval 1 _ v1 rfl rfl)
  obtain ⟨fuel1, h1⟩ := h1
  obtain ⟨x1, ⟨A1', c1', e1, hs1, hm1⟩, ho1⟩ := opens_slice Try.underlying38 (by kernel_rfl) ((opens_int Try.underlying3)) h1
  obtain ⟨rfl, rfl, rfl⟩ : A1 = A1' ∧ n1 = x1.length ∧ c1 = c1' := by simpa [Value.cells] using e1
  have hm1 : (x1.length : Int) ≤ 9223372036854775807 := by unfold maxLen at hm1; omega
  obtain ⟨x2, rfl, rfl, rfl, wx2⟩ := open_int Try.underlying3 (hval 2 _ v2 rfl rfl) h2
  have hx2 : -9223372036854775808 ≤ x2 ∧ x2 ≤ 9223372036854775807 := by simpa [Lit.wf, IntKind.min, IntKind.max, IntKind.signed, IntKind.bits] using wx2
  refine (walk x0 A0 _ c0 x1 A1 _ c1 x2 W hm0 hs0 (fun x hx => (ho0 x hx).1) hm1 hs1 (fun _ _ => trivial) hx2).mono fun e W' ⟨he, hb⟩ => ?_
  exact ⟨_, he, post_law laid_ Try.underlying4 rfl rfl (by kernel_rfl) ⟨rfl, rfl, rfl⟩ hW' hb⟩

set_option maxRecDepth 100000 in
theorem lifted_ (os : Os) (started : os.Started) (H : Type) (enc : TypeId × Value → H) :
    ReturnsInHanded {} Try.checked os 10 .any (Rows.fnExactQualifiedForSpec.pre6 enc Try.prog Try.f10 Rows.fnExactQualifiedForRow.domain false) (Rows.fnExactQualifiedForSpec.post enc Try.prog Try.f10 false true false false) := by
  refine returnsInHanded_of_change (C := Try.checked) own_ started (by kernel_rfl) Try.func10
    (ChangeSpec.witness6 (enc := enc) (C := Try.checked) false ⟨#[], #[.slice none 0 0, .slice none 0 0, .int .i64 0], []⟩ 8 (by kernel_rfl) (by kernel_rfl) (by kernel_rfl) (by kernel_rfl)) ?_
  intro W base args ds gs before hval0 hW _ _
  exact contract_ H enc W base args ds gs before hval0 hW

theorem proved : Rows.FnExactQualifiedForSaid :=
  OpenClaim.holds_of_wide 10 Try.f10 rfl rfl rfl rfl rfl rfl rfl ⟨rfl, rfl, rfl, rfl, rfl⟩ rfl rfl rfl rfl rfl (by kernel_rfl) Try.func10 (by kernel_rfl)
    (of_decide_eq_true (by kernel_rfl)) (by unfold Func.isWrapper; first | (rw [if_pos (by decide +kernel)]; kernel_rfl) | (rw [if_neg (by decide +kernel)]; exact ⟨rfl, rfl⟩))
    (fun os started H enc _ => lifted_ os started H enc)

end Go.Proofs.Ytiekmpbdlncgdaa.lawQualifiedFor
