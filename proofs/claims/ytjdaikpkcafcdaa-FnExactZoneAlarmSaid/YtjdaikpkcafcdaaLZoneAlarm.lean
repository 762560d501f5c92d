/-
  The law on ZoneAlarm: it answers true at every input, and every argument reads as before. No conditions.
-/
import Derived.Test.YtjdaikpkcafcdaaAlarmF
import Derived.Test.YtjdaikpkcafcdaaOp
import Derived.Test.YtjdaikpkcafcdaaRows
import Derived.Test.YtjdaikpkcafcdaaMem3
namespace Go.Proofs.Ytjdaikpkcafcdaa.lawZoneAlarm
open Go.RowKit

set_option maxHeartbeats 4000000 in
theorem walk (x0 : List Det) (A0 : Option Addr) (n0 c0 : Nat) (x1 : List Sig) (A1 : Option Addr) (n1 c1 : Nat) (x2 : Int) (x3 : Int) (w : World) (hn0 : (n0 : Int) ≤ 9223372036854775807) (hs0 : Sl w A0 n0 x0) (hn1 : (n1 : Int) ≤ 9223372036854775807) (hs1 : Sl w A1 n1 x1) (_hx2 : -9223372036854775808 ≤ x2 ∧ x2 ≤ 9223372036854775807) (_hx3 : -9223372036854775808 ≤ x3 ∧ x3 ≤ 9223372036854775807) :
    Calls Try.prog 8 #[.slice A0 n0 c0, .slice A1 n1 c1, .int .i64 x2, .int .i64 x3] w fun e w' => e = .returned (.bool true) ∧ Below w.heap.size w w' := by
  by_cases hb0 : 1048576 < (n0 : Int)
  · have hq0 : szF (1048576) n0 = -1 := by unfold szF; rw [if_pos hb0]
    go_enter Try.func8, Try.ntmps8
    go_wp2_with fail
    refine (szDetectorS_any _ _ _ _ _ hn0 (by omega) (by omega)).mono ?_
    rintro e V ⟨rfl, rfl⟩
    rw [hq0]
    clear hq0
    go_wp2
    go_ret
    exact ⟨rfl, bl_refl _⟩
  have hq0 : szF (1048576) n0 = 1048576 - n0 := by unfold szF; rw [if_neg hb0]
  by_cases hb1 : 1048576 - n0 < (n1 : Int)
  · have hq1 : szF (1048576 - n0) n1 = -1 := by unfold szF; rw [if_pos hb1]
    go_enter Try.func8, Try.ntmps8
    go_wp2_with fail
    refine (szDetectorS_any _ _ _ _ _ hn0 (by omega) (by omega)).mono ?_
    rintro e V ⟨rfl, rfl⟩
    rw [hq0]
    clear hq0
    go_wp2_with fail
    refine (szSignalS_any _ _ _ _ _ hn1 (by omega) (by omega)).mono ?_
    rintro e V ⟨rfl, rfl⟩
    rw [hq1]
    clear hq1
    go_wp2
    go_ret
    exact ⟨rfl, bl_refl _⟩
  have hq1 : szF (1048576 - n0) n1 = 1048576 - n0 - n1 := by unfold szF; rw [if_neg hb1]
  have hl0 : n0 ≤ 1048576 := by omega
  have hL0 : x0.length ≤ 1048576 := by rw [hs0.1]; exact hl0
  have hl1 : n1 ≤ 1048576 := by omega
  have hL1 : x1.length ≤ 1048576 := by rw [hs1.1]; exact hl1
  go_enter Try.func8, Try.ntmps8
  go_wp2_with fail
  refine (szDetectorS_any _ _ _ _ _ hn0 (by omega) (by omega)).mono ?_
  rintro e V ⟨rfl, rfl⟩
  rw [hq0]
  clear hq0
  go_wp2_with fail
  refine (szSignalS_any _ _ _ _ _ hn1 (by omega) (by omega)).mono ?_
  rintro e V ⟨rfl, rfl⟩
  rw [hq1]
  clear hq1
  have hk0 := bl_refl w
  go_wp2_with fail
  refine (toDetectorS_any _ _ _ x0 _ hl0 (hs0.below hk0)).mono ?_
  rintro e V1 ⟨A_s0, c_s0, rfl, ho_s0, hb1⟩
  have hk1 := bl_trans hk0 hb1
  have z1 := Lib.hid hb1.size
  have hi_s0 := Lib.hid ho_s0.lies
  go_wp2_with fail
  refine (toSignalS_any _ _ _ x1 _ hl1 (hs1.below hk1)).mono ?_
  rintro e V2 ⟨A_s1, c_s1, rfl, ho_s1, hb2⟩
  have hk2 := bl_trans hk1 hb2
  have z2 := Lib.hid hb2.size
  have s0_2 := ho_s0.below hb2
  clear hk1 ho_s0
  have hi_s1 := Lib.hid ho_s1.lies
  go_wp2_with fail
  refine (specZoneAlarm_any x0 x1 x2 x3 _ _ _ _ _ _ _ (by have := s0_2.sl.1; omega) (by have := ho_s1.sl.1; omega) s0_2.sl ho_s1.sl).mono ?_
  rintro e V3 ⟨rfl, hb3⟩
  have hk3 := bl_trans hk2 hb3
  have z3 := Lib.hid hb3.size
  have s0_3 := s0_2.below hb3
  have s1_3 := ho_s1.below hb3
  clear hk2 s0_2 ho_s1
  clear s0_3 hi_s0
  clear s1_3 hi_s1
  go_wp2_with fail
  refine (toDetectorS_any _ _ _ x0 _ hl0 (hs0.below hk3)).mono ?_
  rintro e V4 ⟨A_x0, c_x0, rfl, ho_x0, hb4⟩
  have hk4 := bl_trans hk3 hb4
  have z4 := Lib.hid hb4.size
  clear hk3
  have hi_x0 := Lib.hid ho_x0.lies
  go_wp2_with fail
  refine (toSignalS_any _ _ _ x1 _ hl1 (hs1.below hk4)).mono ?_
  rintro e V5 ⟨A_x1, c_x1, rfl, ho_x1, hb5⟩
  have hk5 := bl_trans hk4 hb5
  have z5 := Lib.hid hb5.size
  have x0_5 := ho_x0.below hb5
  clear hk4 ho_x0
  have hi_x1 := Lib.hid ho_x1.lies
  go_wp2_with fail
  refine (implZoneAlarm_any x0 x1 x2 x3 _ _ _ _ _ _ _ (by have := x0_5.sl.1; omega) (by have := ho_x1.sl.1; omega) x0_5.sl ho_x1.sl).mono ?_
  rintro e V6 ⟨rfl, hb6⟩
  have hk6 := bl_trans hk5 hb6
  have z6 := Lib.hid hb6.size
  have x0_6 := x0_5.below hb6
  have x1_6 := ho_x1.below hb6
  clear hk5 x0_5 ho_x1
  go_wp2_with fail
  refine (toDetectorS_any _ _ _ x0 _ hl0 (hs0.below hk6)).mono ?_
  rintro e V7 ⟨A_y0, c_y0, rfl, ho_y0, hb7⟩
  have hk7 := bl_trans hk6 hb7
  have z7 := Lib.hid hb7.size
  have x0_7 := x0_6.below hb7
  have x1_7 := x1_6.below hb7
  clear hk6 x0_6 x1_6
  have hi_y0 := Lib.hid ho_y0.lies
  go_wp2_with fail
  refine (eqDetectorS_any _ _ _ _ _ _ _ _ _ (by omega) x0_7.sl ho_y0.sl).mono ?_
  rintro e V8 ⟨rfl, hb8⟩
  rw [sameB_refl]
  have hk8 := bl_trans hk7 hb8
  have z8 := Lib.hid hb8.size
  have x0_8 := x0_7.below hb8
  have x1_8 := x1_7.below hb8
  have y0_8 := ho_y0.below hb8
  clear hk7 x0_7 x1_7 ho_y0
  clear y0_8 hi_y0
  go_wp2_with fail
  refine (toSignalS_any _ _ _ x1 _ hl1 (hs1.below hk8)).mono ?_
  rintro e V9 ⟨A_y1, c_y1, rfl, ho_y1, hb9⟩
  have hk9 := bl_trans hk8 hb9
  have z9 := Lib.hid hb9.size
  have x0_9 := x0_8.below hb9
  have x1_9 := x1_8.below hb9
  clear hk8 x0_8 x1_8
  have hi_y1 := Lib.hid ho_y1.lies
  go_wp2_with fail
  refine (eqSignalS_any _ _ _ _ _ _ _ _ _ (by omega) x1_9.sl ho_y1.sl).mono ?_
  rintro e V10 ⟨rfl, hb10⟩
  rw [sameB_refl]
  have hk10 := bl_trans hk9 hb10
  have z10 := Lib.hid hb10.size
  have x0_10 := x0_9.below hb10
  have x1_10 := x1_9.below hb10
  have y1_10 := ho_y1.below hb10
  clear hk9 x0_9 x1_9 ho_y1
  clear y1_10 hi_y1
  clear x0_10 hi_x0
  clear x1_10 hi_x1
  go_wp2
  go_ret
  exact ⟨rfl, hk10⟩

open Go.WideShapes Go.ChangeShapes Go.ChangeAt
theorem own_ : ownKnob Try.prog.godebug = none := by kernel_rfl
theorem laid_ : laidOutB Try.prog = true := by kernel_rfl
theorem contract_ (H : Type) (enc : TypeId × Value → H) (W : World) (base : Nat) (args : Array Value) (ds gs : List (DataW H)) (before : List MemPlace)
    (hval : ∀ (j : Nat) t v, Try.f8.params[j]? = some t → args[j]? = some v → Value.okWide Try.prog W .any base t v)
    (hW : DataW.Whole enc Try.prog Try.f8.params.toList Rows.fnExactZoneAlarmSpec.vars false W args.toList ds gs before) :
    Calls Try.prog 8 args W fun e W' => ∃ v, e = .returned v ∧ Rows.fnExactZoneAlarmSpec.post enc Try.prog Try.f8 false true false false W args v W' := by
  have hW' := hW
  obtain ⟨p, q, hA0, hV, rfl, hfz, hnd⟩ := hW
  have hA : DataW.TrodAll enc Try.prog W 0 (fun _ => true) true Try.f8.params.toList args.toList ds p := hA0
  rw [Try.params8] at hA hval
  obtain ⟨v0, vs0, d0, ds0, p0, q0, hargs, rfl, rfl, h0, r0⟩ := trodAll_cons hA
  obtain ⟨v1, vs1, d1, ds1, p1, q1, rfl, rfl, rfl, h1, r1⟩ := trodAll_cons r0
  obtain ⟨v2, vs2, d2, ds2, p2, q2, rfl, rfl, rfl, h2, r2⟩ := trodAll_cons r1
  obtain ⟨v3, vs3, d3, ds3, p3, q3, rfl, rfl, rfl, h3, r3⟩ := trodAll_cons r2
  obtain ⟨rfl, rfl, rfl⟩ := trodAll_nil r3
  obtain rfl : args = #[v0, v1, v2, v3] := by cases args; simp_all
  obtain ⟨rfl, rfl⟩ := trodVars_none hV
  obtain ⟨A0, n0, c0, rfl⟩ := okWide_slice Try.underlying29 (hval 0 _ v0 rfl rfl)
  obtain ⟨fuel0, h0⟩ := h0
  obtain ⟨x0, A0', c0', e0, hs0, hm0⟩ := opens_slice Try.underlying29 (by kernel_rfl) (opens_det) h0
  obtain ⟨rfl, rfl, rfl⟩ : A0 = A0' ∧ n0 = x0.length ∧ c0 = c0' := by simpa [Value.cells] using e0
  have hm0 : (x0.length : Int) ≤ 9223372036854775807 := by unfold maxLen at hm0; omega
  obtain ⟨A1, n1, c1, rfl⟩ := okWide_slice Try.underlying22 (hval 1 _ v1 rfl rfl)
  obtain ⟨fuel1, h1⟩ := h1
  obtain ⟨x1, A1', c1', e1, hs1, hm1⟩ := opens_slice Try.underlying22 (by kernel_rfl) (opens_sig) h1
  obtain ⟨rfl, rfl, rfl⟩ : A1 = A1' ∧ n1 = x1.length ∧ c1 = c1' := by simpa [Value.cells] using e1
  have hm1 : (x1.length : Int) ≤ 9223372036854775807 := by unfold maxLen at hm1; omega
  obtain ⟨x2, rfl, rfl, rfl, wx2⟩ := open_int Try.underlying3 (hval 2 _ v2 rfl rfl) h2
  have hx2 : -9223372036854775808 ≤ x2 ∧ x2 ≤ 9223372036854775807 := by simpa [Lit.wf, IntKind.min, IntKind.max, IntKind.signed, IntKind.bits] using wx2
  obtain ⟨x3, rfl, rfl, rfl, wx3⟩ := open_int Try.underlying3 (hval 3 _ v3 rfl rfl) h3
  have hx3 : -9223372036854775808 ≤ x3 ∧ x3 ≤ 9223372036854775807 := by simpa [Lit.wf, IntKind.min, IntKind.max, IntKind.signed, IntKind.bits] using wx3
  refine (walk x0 A0 _ c0 x1 A1 _ c1 x2 x3 W hm0 hs0 hm1 hs1 hx2 hx3).mono fun e W' ⟨he, hb⟩ => ?_
  exact ⟨_, he, post_law laid_ Try.underlying4 rfl rfl (by kernel_rfl) ⟨rfl, rfl, rfl⟩ hW' hb⟩

set_option maxRecDepth 100000 in
theorem lifted_ (os : Os) (started : os.Started) (H : Type) (enc : TypeId × Value → H) :
    ReturnsInHanded {} Try.checked os 8 .any (Rows.fnExactZoneAlarmSpec.pre6 enc Try.prog Try.f8 Rows.fnExactZoneAlarmRow.domain false) (Rows.fnExactZoneAlarmSpec.post enc Try.prog Try.f8 false true false false) := by
  refine returnsInHanded_of_change (C := Try.checked) own_ started (by kernel_rfl) Try.func8
    (ChangeSpec.witness6 (enc := enc) (C := Try.checked) false ⟨#[], #[.slice none 0 0, .slice none 0 0, .int .i64 0, .int .i64 0], []⟩ 8 (by kernel_rfl) (by kernel_rfl) (by kernel_rfl) (by kernel_rfl)) ?_
  intro W base args ds gs before hval0 hW _ _
  exact contract_ H enc W base args ds gs before hval0 hW

theorem proved : Rows.FnExactZoneAlarmSaid :=
  OpenClaim.holds_of_wide 8 Try.f8 rfl rfl rfl rfl rfl rfl rfl ⟨rfl, rfl, rfl, rfl, rfl⟩ rfl rfl rfl rfl rfl (by kernel_rfl) Try.func8 (by kernel_rfl)
    (of_decide_eq_true (by kernel_rfl)) (by unfold Func.isWrapper; first | (rw [if_pos (by decide +kernel)]; kernel_rfl) | (rw [if_neg (by decide +kernel)]; exact ⟨rfl, rfl⟩))
    (fun os started H enc _ => lifted_ os started H enc)

end Go.Proofs.Ytjdaikpkcafcdaa.lawZoneAlarm
