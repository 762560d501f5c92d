/-
  The law on UnknownNames: it answers true at every input, and every argument reads as before. No conditions.
-/
import Derived.Test.YtkgjbijkjlmomaaUnI
import Derived.Test.YtkgjbijkjlmomaaUnR
import Derived.Test.YtkgjbijkjlmomaaIncM
import Derived.Test.YtkgjbijkjlmomaaOpI
import Derived.Test.YtkgjbijkjlmomaaOpA
import Derived.Test.YtkgjbijkjlmomaaRows
import Derived.Test.YtkgjbijkjlmomaaMem3
namespace Go.Proofs.Ytkgjbijkjlmomaa.lawUnknownNames
open Go.RowKit

set_option maxRecDepth 100000 in
set_option maxHeartbeats 4000000 in
theorem walk (x0 : List Incident) (A0 : Option Addr) (n0 c0 : Nat) (x1 : List Appliance) (A1 : Option Addr) (n1 c1 : Nat) (w : World) (hn0 : (n0 : Int) ≤ 9223372036854775807) (hs0 : Sl w A0 n0 x0) (hv0 : ∀ x, x ∈ x0 → ∀ y, y ∈ x.Names → y.size ≤ maxLen) (hn1 : (n1 : Int) ≤ 9223372036854775807) (hs1 : Sl w A1 n1 x1) (hv1 : ∀ x, x ∈ x1 → x.Name.size ≤ maxLen) :
    Calls Try.prog 9 #[.slice A0 n0 c0, .slice A1 n1 c1] w fun e w' => e = .returned (.bool true) ∧ Below w.heap.size w w' := by
  go_enter Try.func9, Try.ntmps9
  have hk0 := bl_refl w
  go_wp2_with fail
  refine (szIncidentS_any _ _ _ x0 _ _ hn0 (hs0.below hk0) hv0 (by omega) (by omega)).mono ?_
  rintro e V1 ⟨r0, rfl, hr0, hb1⟩
  have hB1 := bl_trans (a := w) (bl_refl _) hb1
  have hk1 := bl_trans hk0 hB1
  have z1 := Lib.hid hB1.size
  clear hb1
  rcases hr0 with rfl | ⟨ha0, hc0, hp0⟩
  · go_wp2
    go_ret
    exact ⟨rfl, hk1⟩
  have hl0 : n0 ≤ 1048576 := by omega
  have hL0 : x0.length ≤ 1048576 := by rw [hs0.1]; exact hl0
  have hI0 : sumIncident x0 ≤ 1048576 := by omega
  have hS0 : (n0 : Int) + sumIncident x0 ≤ 1048576 := by omega
  have hin0 := Lib.hid (fun x (hx : x ∈ x0) => Nat.le_trans (sumIncident_at hx) hI0)
  clear hp0
  go_wp2_with fail
  refine (szApplianceS_any _ _ _ x1 _ _ hn1 (hs1.below hk1) hv1 (by omega) (by omega)).mono ?_
  rintro e V2 ⟨r1, rfl, hr1, hb2⟩
  have hB2 := bl_trans (a := V1) (bl_refl _) hb2
  have hk2 := bl_trans hk1 hB2
  have z2 := Lib.hid hB2.size
  clear hk1
  clear hb2
  rcases hr1 with rfl | ⟨ha1, hc1, hp1⟩
  · go_wp2
    go_ret
    exact ⟨rfl, hk2⟩
  have hl1 : n1 ≤ 1048576 := by have := hp1.1; omega
  have hL1 : x1.length ≤ 1048576 := by rw [hs1.1]; exact hl1
  clear hp1
  go_wp2_with fail
  refine (toIncidentS_any _ _ _ x0 _ hl0 (hs0.below hk2) hin0.out).mono ?_
  rintro e V3 ⟨A_s0, c_s0, F_s0, rfl, ho_s0, hb3⟩
  have hi_s0 := ho_s0.lies
  have Hi_s0 := Lib.hid hi_s0
  clear hi_s0
  have hB3 := bl_trans (a := V2) (bl_refl _) hb3
  have hk3 := bl_trans hk2 hB3
  have z3 := Lib.hid hB3.size
  clear hk2
  clear hb3
  go_wp2_with fail
  refine (toApplianceS_any _ _ _ x1 _ hl1 (hs1.below hk3)).mono ?_
  rintro e V4 ⟨A_s1, c_s1, rfl, ho_s1, hb4⟩
  have hi_s1 := ho_s1.lies
  have Hi_s1 := Lib.hid hi_s1
  clear hi_s1
  have hB4 := bl_trans (a := V3) (bl_refl _) hb4
  have hk4 := bl_trans hk3 hB4
  have z4 := Lib.hid hB4.size
  have s0_4 := ho_s0.below hB4
  clear hk3 ho_s0
  clear hb4
  have hR : (unF x0 x1).1.length ≤ 1048576 := unF_len x0 x1
  go_wp2_with fail
  refine (specUnknownNames_any x0 x1 _ _ _ _ _ _ _ (by omega) (by omega) s0_4.cap s0_4.sl ho_s1.sl hv0 hv1).mono ?_
  rintro e V5 ⟨A_w0, c_w0, rfl, ho_w0, hb5⟩
  have hi_w0 := ho_w0.lies
  have Hi_w0 := Lib.hid hi_w0
  clear hi_w0
  clear s0_4 Hi_s0
  clear ho_s1 Hi_s1
  have hB5 := bl_trans (a := V4) (bl_refl _) hb5
  have hk5 := bl_trans hk4 hB5
  have z5 := Lib.hid hB5.size
  clear hk4
  clear hb5
  go_wp2_with fail
  refine (toIncidentS_any _ _ _ x0 _ hl0 (hs0.below hk5) hin0.out).mono ?_
  rintro e V6 ⟨A_x0, c_x0, F_x0, rfl, ho_x0, hb6⟩
  have hi_x0 := ho_x0.lies
  have Hi_x0 := Lib.hid hi_x0
  clear hi_x0
  have hB6 := bl_trans (a := V5) (bl_refl _) hb6
  have hk6 := bl_trans hk5 hB6
  have z6 := Lib.hid hB6.size
  have w0_6 := ho_w0.below hB6
  clear hk5 ho_w0
  clear hb6
  go_wp2_with fail
  refine (toApplianceS_any _ _ _ x1 _ hl1 (hs1.below hk6)).mono ?_
  rintro e V7 ⟨A_x1, c_x1, rfl, ho_x1, hb7⟩
  have hi_x1 := ho_x1.lies
  have Hi_x1 := Lib.hid hi_x1
  clear hi_x1
  have hB7 := bl_trans (a := V6) (bl_refl _) hb7
  have hk7 := bl_trans hk6 hB7
  have z7 := Lib.hid hB7.size
  have w0_7 := w0_6.below hB7
  have x0_7 := ho_x0.below hB7
  clear hk6 w0_6 ho_x0
  clear hb7
  go_wp2_with fail
  refine (implUnknownNames_any x0 x1 _ _ _ _ _ _ _ (by omega) (by omega) x0_7.cap x0_7.sl ho_x1.sl hv0 hv1).mono ?_
  rintro e V8 ⟨A_g0, c_g0, rfl, ho_g0, hb8⟩
  have hi_g0 := ho_g0.lies
  have Hi_g0 := Lib.hid hi_g0
  clear hi_g0
  have hB8 := bl_trans (a := V7) (bl_refl _) hb8
  have hk8 := bl_trans hk7 hB8
  have z8 := Lib.hid hB8.size
  have w0_8 := w0_7.below hB8
  have x0_8 := x0_7.below hB8
  have x1_8 := ho_x1.below hB8
  clear hk7 w0_7 x0_7 ho_x1
  clear hb8
  go_wp2_with fail
  refine (eqStringS_any _ _ _ _ _ _ _ _ _ (by omega) ho_g0.sl w0_8.sl).mono ?_
  rintro e V9 ⟨rfl, hb9⟩
  rw [sameB_refl]
  have hB9 := bl_trans (a := V8) (bl_refl _) hb9
  have hk9 := bl_trans hk8 hB9
  have z9 := Lib.hid hB9.size
  have w0_9 := w0_8.below hB9
  have x0_9 := x0_8.below hB9
  have x1_9 := x1_8.below hB9
  have g0_9 := ho_g0.below hB9
  clear hk8 w0_8 x0_8 x1_8 ho_g0
  clear hb9
  go_wp2_with fail
  refine (toIncidentS_any _ _ _ x0 _ hl0 (hs0.below hk9) hin0.out).mono ?_
  rintro e V10 ⟨A_y0, c_y0, F_y0, rfl, ho_y0, hb10⟩
  have hi_y0 := ho_y0.lies
  have Hi_y0 := Lib.hid hi_y0
  clear hi_y0
  have hB10 := bl_trans (a := V9) (bl_refl _) hb10
  have hk10 := bl_trans hk9 hB10
  have z10 := Lib.hid hB10.size
  have w0_10 := w0_9.below hB10
  have x0_10 := x0_9.below hB10
  have x1_10 := x1_9.below hB10
  have g0_10 := g0_9.below hB10
  clear hk9 w0_9 x0_9 x1_9 g0_9
  clear hb10
  go_wp2_with fail
  refine (eqIncidentS_any _ _ _ _ _ _ _ _ _ (by omega) x0_10.sl ho_y0.sl).mono ?_
  rintro e V11 ⟨rfl, hb11⟩
  rw [sameB_refl]
  have hB11 := bl_trans (a := V10) (bl_refl _) hb11
  have hk11 := bl_trans hk10 hB11
  have z11 := Lib.hid hB11.size
  have w0_11 := w0_10.below hB11
  have x0_11 := x0_10.below hB11
  have x1_11 := x1_10.below hB11
  have g0_11 := g0_10.below hB11
  have y0_11 := ho_y0.below hB11
  clear hk10 w0_10 x0_10 x1_10 g0_10 ho_y0
  clear hb11
  clear y0_11 Hi_y0
  go_wp2_with fail
  refine (toApplianceS_any _ _ _ x1 _ hl1 (hs1.below hk11)).mono ?_
  rintro e V12 ⟨A_y1, c_y1, rfl, ho_y1, hb12⟩
  have hi_y1 := ho_y1.lies
  have Hi_y1 := Lib.hid hi_y1
  clear hi_y1
  have hB12 := bl_trans (a := V11) (bl_refl _) hb12
  have hk12 := bl_trans hk11 hB12
  have z12 := Lib.hid hB12.size
  have w0_12 := w0_11.below hB12
  have x0_12 := x0_11.below hB12
  have x1_12 := x1_11.below hB12
  have g0_12 := g0_11.below hB12
  clear hk11 w0_11 x0_11 x1_11 g0_11
  clear hb12
  go_wp2_with fail
  refine (eqApplianceS_any _ _ _ _ _ _ _ _ _ (by omega) x1_12.sl ho_y1.sl).mono ?_
  rintro e V13 ⟨rfl, hb13⟩
  rw [sameB_refl]
  have hB13 := bl_trans (a := V12) (bl_refl _) hb13
  have hk13 := bl_trans hk12 hB13
  have z13 := Lib.hid hB13.size
  have w0_13 := w0_12.below hB13
  have x0_13 := x0_12.below hB13
  have x1_13 := x1_12.below hB13
  have g0_13 := g0_12.below hB13
  have y1_13 := ho_y1.below hB13
  clear hk12 w0_12 x0_12 x1_12 g0_12 ho_y1
  clear hb13
  clear y1_13 Hi_y1
  go_wp2_with fail
  refine (markIncidentS_args _ _ _ _ _ x0 _ _ (by omega) (by omega) (by have := hs0.1; omega) x0_13).mono ?_
  rintro e V14 ⟨rk14, rfl, hr0_14, hr1_14, hf14⟩
  have hrd_14 : decide (rk14 < 0) = false := by simpa using hr0_14
  have hk14 := below_only hk13 hf14 Hi_x0.out (by (try simp only [World.size_alloc]); (try simp only [World.size_drew]); have := z1.out; have := z2.out; have := z3.out; have := z4.out; have := z5.out; have := z6.out; have := z7.out; have := z8.out; have := z9.out; have := z10.out; have := z11.out; have := z12.out; have := z13.out; omega)
  have z14 := Lib.hid hf14.size
  have w0_14 := w0_13.only hf14 (Hi_w0.out.apart Hi_x0.out (by (try simp only [World.size_alloc]); (try simp only [World.size_drew]); have := z1.out; have := z2.out; have := z3.out; have := z4.out; have := z5.out; have := z6.out; have := z7.out; have := z8.out; have := z9.out; have := z10.out; have := z11.out; have := z12.out; have := z13.out; have := z14.out; omega))
  have x1_14 := x1_13.only hf14 (Hi_x1.out.apart Hi_x0.out (by (try simp only [World.size_alloc]); (try simp only [World.size_drew]); have := z1.out; have := z2.out; have := z3.out; have := z4.out; have := z5.out; have := z6.out; have := z7.out; have := z8.out; have := z9.out; have := z10.out; have := z11.out; have := z12.out; have := z13.out; have := z14.out; omega))
  have g0_14 := g0_13.only hf14 (Hi_g0.out.apart Hi_x0.out (by (try simp only [World.size_alloc]); (try simp only [World.size_drew]); have := z1.out; have := z2.out; have := z3.out; have := z4.out; have := z5.out; have := z6.out; have := z7.out; have := z8.out; have := z9.out; have := z10.out; have := z11.out; have := z12.out; have := z13.out; have := z14.out; omega))
  clear hk13 x0_13 w0_13 x1_13 g0_13 hf14
  go_wp2_with fail
  refine (markApplianceS_any _ _ _ _ _ _ _ (by omega) (by omega) (by omega) x1_14).mono ?_
  rintro e V15 ⟨rfl, hm15, hg15⟩
  have hf15 := OnlyF.of_gb hg15
  have hk15 := below_only hk14 hf15 Hi_x1.out (by (try simp only [World.size_alloc]); (try simp only [World.size_drew]); have := z1.out; have := z2.out; have := z3.out; have := z4.out; have := z5.out; have := z6.out; have := z7.out; have := z8.out; have := z9.out; have := z10.out; have := z11.out; have := z12.out; have := z13.out; have := z14.out; omega)
  have z15 := Lib.hid hf15.size
  have w0_15 := w0_14.only hf15 (Hi_w0.out.apart Hi_x1.out (by (try simp only [World.size_alloc]); (try simp only [World.size_drew]); have := z1.out; have := z2.out; have := z3.out; have := z4.out; have := z5.out; have := z6.out; have := z7.out; have := z8.out; have := z9.out; have := z10.out; have := z11.out; have := z12.out; have := z13.out; have := z14.out; have := z15.out; omega))
  have g0_15 := g0_14.only hf15 (Hi_g0.out.apart Hi_x1.out (by (try simp only [World.size_alloc]); (try simp only [World.size_drew]); have := z1.out; have := z2.out; have := z3.out; have := z4.out; have := z5.out; have := z6.out; have := z7.out; have := z8.out; have := z9.out; have := z10.out; have := z11.out; have := z12.out; have := z13.out; have := z14.out; have := z15.out; omega))
  clear hk14 x1_14 w0_14 g0_14 hg15 hf15
  clear Hi_x0
  clear hm15 Hi_x1
  go_wp2_with fail
  refine (eqStringS_any _ _ _ _ _ _ _ _ _ (by omega) g0_15.sl w0_15.sl).mono ?_
  rintro e V16 ⟨rfl, hb16⟩
  rw [sameB_refl]
  have hB16 := bl_trans (a := V15) (bl_refl _) hb16
  have hk16 := bl_trans hk15 hB16
  have z16 := Lib.hid hB16.size
  have w0_16 := w0_15.below hB16
  have g0_16 := g0_15.below hB16
  clear hk15 w0_15 g0_15
  clear hb16
  go_wp2_with fail
  refine (markStringS_any _ _ _ _ _ _ _ (by omega) (by omega) (by omega) g0_16).mono ?_
  rintro e V17 ⟨rfl, hm17, hg17⟩
  have hf17 := OnlyF.of_gb hg17
  have hk17 := below_only hk16 hf17 Hi_g0.out (by (try simp only [World.size_alloc]); (try simp only [World.size_drew]); have := z1.out; have := z2.out; have := z3.out; have := z4.out; have := z5.out; have := z6.out; have := z7.out; have := z8.out; have := z9.out; have := z10.out; have := z11.out; have := z12.out; have := z13.out; have := z14.out; have := z15.out; have := z16.out; omega)
  have z17 := Lib.hid hf17.size
  have w0_17 := w0_16.only hf17 (Hi_w0.out.apart Hi_g0.out (by (try simp only [World.size_alloc]); (try simp only [World.size_drew]); have := z1.out; have := z2.out; have := z3.out; have := z4.out; have := z5.out; have := z6.out; have := z7.out; have := z8.out; have := z9.out; have := z10.out; have := z11.out; have := z12.out; have := z13.out; have := z14.out; have := z15.out; have := z16.out; have := z17.out; omega))
  clear hk16 g0_16 w0_16 hg17 hf17
  go_wp2_with fail
  refine (heldStringS_any _ _ _ _ _ (by omega) (by omega) (by omega) hm17.sl).mono ?_
  rintro e V18 ⟨rfl, hb18⟩
  have hB18 := bl_trans (a := V17) (bl_refl _) hb18
  have hk18 := bl_trans hk17 hB18
  have z18 := Lib.hid hB18.size
  have w0_18 := w0_17.below hB18
  have g0_18 := hm17.below hB18
  clear hk17 w0_17 hm17
  clear hb18
  go_wp2_with fail
  refine (toIncidentS_any _ _ _ x0 _ hl0 (hs0.below hk18) hin0.out).mono ?_
  rintro e V19 ⟨A_t0, c_t0, F_t0, rfl, ho_t0, hb19⟩
  have hi_t0 := ho_t0.lies
  have Hi_t0 := Lib.hid hi_t0
  clear hi_t0
  have hB19 := bl_trans (a := V18) (bl_refl _) hb19
  have hk19 := bl_trans hk18 hB19
  have z19 := Lib.hid hB19.size
  have w0_19 := w0_18.below hB19
  have g0_19 := g0_18.below hB19
  clear hk18 w0_18 g0_18
  clear hb19
  go_wp2_with fail
  refine (toApplianceS_any _ _ _ x1 _ hl1 (hs1.below hk19)).mono ?_
  rintro e V20 ⟨A_t1, c_t1, rfl, ho_t1, hb20⟩
  have hi_t1 := ho_t1.lies
  have Hi_t1 := Lib.hid hi_t1
  clear hi_t1
  have hB20 := bl_trans (a := V19) (bl_refl _) hb20
  have hk20 := bl_trans hk19 hB20
  have z20 := Lib.hid hB20.size
  have w0_20 := w0_19.below hB20
  have g0_20 := g0_19.below hB20
  have t0_20 := ho_t0.below hB20
  clear hk19 w0_19 g0_19 ho_t0
  clear hb20
  go_wp2_with fail
  refine (implUnknownNames_any x0 x1 _ _ _ _ _ _ _ (by omega) (by omega) t0_20.cap t0_20.sl ho_t1.sl hv0 hv1).mono ?_
  rintro e V21 ⟨A_h0, c_h0, rfl, ho_h0, hb21⟩
  have hi_h0 := ho_h0.lies
  have Hi_h0 := Lib.hid hi_h0
  clear hi_h0
  clear t0_20 Hi_t0
  clear ho_t1 Hi_t1
  have hB21 := bl_trans (a := V20) (bl_refl _) hb21
  have hk21 := bl_trans hk20 hB21
  have z21 := Lib.hid hB21.size
  have w0_21 := w0_20.below hB21
  have g0_21 := g0_20.below hB21
  clear hk20 w0_20 g0_20
  clear hb21
  go_wp2_with fail
  refine (eqStringS_any _ _ _ _ _ _ _ _ _ (by omega) ho_h0.sl w0_21.sl).mono ?_
  rintro e V22 ⟨rfl, hb22⟩
  rw [sameB_refl]
  have hB22 := bl_trans (a := V21) (bl_refl _) hb22
  have hk22 := bl_trans hk21 hB22
  have z22 := Lib.hid hB22.size
  have w0_22 := w0_21.below hB22
  have g0_22 := g0_21.below hB22
  have h0_22 := ho_h0.below hB22
  clear hk21 w0_21 g0_21 ho_h0
  clear hb22
  clear h0_22 Hi_h0
  clear w0_22 Hi_w0
  go_wp2_with fail
  refine (heldStringS_any _ _ _ _ _ (by omega) (by omega) (by omega) g0_22.sl).mono ?_
  rintro e V23 ⟨rfl, hb23⟩
  have hB23 := bl_trans (a := V22) (bl_refl _) hb23
  have hk23 := bl_trans hk22 hB23
  have z23 := Lib.hid hB23.size
  have g0_23 := g0_22.below hB23
  clear hk22 g0_22
  clear hb23
  clear g0_23 Hi_g0
  go_wp2
  go_ret
  exact ⟨rfl, hk23⟩

open Go.WideShapes Go.ChangeShapes Go.ChangeAt
theorem own_ : ownKnob Try.prog.godebug = none := by kernel_rfl
theorem laid_ : laidOutB Try.prog = true := by kernel_rfl
set_option maxRecDepth 100000 in
theorem contract_ (H : Type) (enc : TypeId × Value → H) (W : World) (base : Nat) (args : Array Value) (ds gs : List (DataW H)) (before : List MemPlace)
    (hval : ∀ (j : Nat) t v, Try.f9.params[j]? = some t → args[j]? = some v → Value.okWide Try.prog W .any base t v)
    (hW : DataW.Whole enc Try.prog Try.f9.params.toList Rows.fnExactUnknownNamesSpec.vars false W args.toList ds gs before) :
    Calls Try.prog 9 args W fun e W' => ∃ v, e = .returned v ∧ Rows.fnExactUnknownNamesSpec.post enc Try.prog Try.f9 false true false false W args v W' := by
  have hW' := hW
  obtain ⟨p, q, hA0, hV, rfl, hfz, hnd⟩ := hW
  have hA : DataW.TrodAll enc Try.prog W 0 (fun _ => true) true Try.f9.params.toList args.toList ds p := hA0
  rw [Try.params9] at hA hval
  obtain ⟨v0, vs0, d0, ds0, p0, q0, hargs, rfl, rfl, h0, r0⟩ := trodAll_cons hA
  obtain ⟨v1, vs1, d1, ds1, p1, q1, rfl, rfl, rfl, h1, r1⟩ := trodAll_cons r0
  obtain ⟨rfl, rfl, rfl⟩ := trodAll_nil r1
  obtain rfl : args = #[v0, v1] := by cases args; simp_all
  obtain ⟨rfl, rfl⟩ := trodVars_none hV
  obtain ⟨A0, n0, c0, rfl⟩ := okWide_slice Try.underlying22 (hval 0 _ v0 rfl rfl)
  obtain ⟨fuel0, h0⟩ := h0
  obtain ⟨x0, ⟨A0', c0', e0, hs0, hm0⟩, ho0⟩ := opens_slice Try.underlying22 (by kernel_rfl) (opens_incident) h0
  obtain ⟨rfl, rfl, rfl⟩ : A0 = A0' ∧ n0 = x0.length ∧ c0 = c0' := by simpa [Value.cells] using e0
  have hm0 : (x0.length : Int) ≤ 9223372036854775807 := by unfold maxLen at hm0; omega
  obtain ⟨A1, n1, c1, rfl⟩ := okWide_slice Try.underlying39 (hval 1 _ v1 rfl rfl)
  obtain ⟨fuel1, h1⟩ := h1
  obtain ⟨x1, ⟨A1', c1', e1, hs1, hm1⟩, ho1⟩ := opens_slice Try.underlying39 (by kernel_rfl) (opens_appliance) h1
  obtain ⟨rfl, rfl, rfl⟩ : A1 = A1' ∧ n1 = x1.length ∧ c1 = c1' := by simpa [Value.cells] using e1
  have hm1 : (x1.length : Int) ≤ 9223372036854775807 := by unfold maxLen at hm1; omega
  refine (walk x0 A0 _ c0 x1 A1 _ c1 W hm0 hs0 (fun x hx => (ho0 x hx).2.2.2) hm1 hs1 (fun x hx => (ho1 x hx).1)).mono fun e W' ⟨he, hb⟩ => ?_
  exact ⟨_, he, post_law laid_ Try.underlying4 rfl rfl (by kernel_rfl) ⟨rfl, rfl, rfl⟩ hW' hb⟩

set_option maxRecDepth 100000 in
theorem lifted_ (os : Os) (started : os.Started) (H : Type) (enc : TypeId × Value → H) :
    ReturnsInHanded {} Try.checked os 9 .any (Rows.fnExactUnknownNamesSpec.pre6 enc Try.prog Try.f9 Rows.fnExactUnknownNamesRow.domain false) (Rows.fnExactUnknownNamesSpec.post enc Try.prog Try.f9 false true false false) := by
  refine returnsInHanded_of_change (C := Try.checked) own_ started (by kernel_rfl) Try.func9
    (ChangeSpec.witness6 (enc := enc) (C := Try.checked) false ⟨#[], #[.slice none 0 0, .slice none 0 0], []⟩ 8 (by kernel_rfl) (by kernel_rfl) (by kernel_rfl) (by kernel_rfl)) ?_
  intro W base args ds gs before hval0 hW _ _
  exact contract_ H enc W base args ds gs before hval0 hW

theorem proved : Rows.FnExactUnknownNamesSaid :=
  OpenClaim.holds_of_wide 9 Try.f9 rfl rfl rfl rfl rfl rfl rfl ⟨rfl, rfl, rfl, rfl, rfl⟩ rfl rfl rfl rfl rfl (by kernel_rfl) Try.func9 (by kernel_rfl)
    (of_decide_eq_true (by kernel_rfl)) (by unfold Func.isWrapper; first | (rw [if_pos (by decide +kernel)]; kernel_rfl) | (rw [if_neg (by decide +kernel)]; exact ⟨rfl, rfl⟩))
    (fun os started H enc _ => lifted_ os started H enc)

end Go.Proofs.Ytkgjbijkjlmomaa.lawUnknownNames
