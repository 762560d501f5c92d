/-
  The law on AreThings: it answers true at every input, and every argument reads as before. No conditions.
-/
import Derived.Test.YtmmaddlbaonajaaThingC
import Derived.Test.YtmmaddlbaonajaaOpS
import Derived.Test.YtmmaddlbaonajaaRows
import Derived.Test.YtmmaddlbaonajaaMem3
namespace Go.Proofs.Ytmmaddlbaonajaa.lawAreThings
open Go.RowKit

set_option maxHeartbeats 4000000 in
theorem walk (x0 : List Thing) (A0 : Option Addr) (n0 c0 : Nat) (w : World) (hn0 : (n0 : Int) ≤ 9223372036854775807) (hs0 : Sl w A0 n0 x0) (hv0 : ∀ x, x ∈ x0 → x.Name.size ≤ maxLen) :
    Calls Try.prog 3 #[.slice A0 n0 c0] w fun e w' => e = .returned (.bool true) ∧ Below w.heap.size w w' := by
  go_enter Try.func3, Try.ntmps3
  have hk0 := bl_refl w
  go_wp2_with fail
  refine (szThingS_any _ _ _ x0 _ _ hn0 hs0 hv0 (by omega) (by omega)).mono ?_
  rintro e Z0 ⟨r0, rfl, hr0, hz0⟩
  have hkz0 := bl_trans hk0 hz0
  rcases hr0 with rfl | ⟨ha0, hc0, hp0⟩
  · go_wp2
    go_ret
    exact ⟨rfl, hkz0⟩
  have hl0 : n0 ≤ 1048576 := by have := hp0.1; omega
  have hL0 : x0.length ≤ 1048576 := by rw [hs0.1]; exact hl0
  clear hp0
  go_wp2_with fail
  refine (toThingS_any _ _ _ x0 _ hl0 (hs0.below hkz0)).mono ?_
  rintro e V1 ⟨A_s0, c_s0, rfl, ho_s0, hb1⟩
  have hk1 := bl_trans hkz0 hb1
  have z1 := Lib.hid hb1.size
  clear hkz0
  have hi_s0 := Lib.hid ho_s0.lies
  go_wp2_with fail
  refine (specAreThings_any x0 _ _ _ _ (by have := ho_s0.sl.1; omega) ho_s0.sl hv0).mono ?_
  rintro e V2 ⟨rfl, hb2⟩
  have hk2 := bl_trans hk1 hb2
  have z2 := Lib.hid hb2.size
  have s0_2 := ho_s0.below hb2
  clear hk1 ho_s0
  clear s0_2 hi_s0
  go_wp2_with fail
  refine (toThingS_any _ _ _ x0 _ hl0 (hs0.below hk2)).mono ?_
  rintro e V3 ⟨A_x0, c_x0, rfl, ho_x0, hb3⟩
  have hk3 := bl_trans hk2 hb3
  have z3 := Lib.hid hb3.size
  clear hk2
  have hi_x0 := Lib.hid ho_x0.lies
  go_wp2_with fail
  refine (implAreThings_any x0 _ _ _ _ (by have := ho_x0.sl.1; omega) ho_x0.sl hv0).mono ?_
  rintro e V4 ⟨rfl, hb4⟩
  have hk4 := bl_trans hk3 hb4
  have z4 := Lib.hid hb4.size
  have x0_4 := ho_x0.below hb4
  clear hk3 ho_x0
  go_wp2_with fail
  refine (toThingS_any _ _ _ x0 _ hl0 (hs0.below hk4)).mono ?_
  rintro e V5 ⟨A_y0, c_y0, rfl, ho_y0, hb5⟩
  have hk5 := bl_trans hk4 hb5
  have z5 := Lib.hid hb5.size
  have x0_5 := x0_4.below hb5
  clear hk4 x0_4
  have hi_y0 := Lib.hid ho_y0.lies
  go_wp2_with fail
  refine (eqThingS_any _ _ _ _ _ _ _ _ _ (by omega) x0_5.sl ho_y0.sl).mono ?_
  rintro e V6 ⟨rfl, hb6⟩
  rw [sameB_refl]
  have hk6 := bl_trans hk5 hb6
  have z6 := Lib.hid hb6.size
  have x0_6 := x0_5.below hb6
  have y0_6 := ho_y0.below hb6
  clear hk5 x0_5 ho_y0
  clear y0_6 hi_y0
  clear x0_6 hi_x0
  go_wp2
  go_ret
  exact ⟨rfl, hk6⟩

open Go.WideShapes Go.ChangeShapes Go.ChangeAt
theorem own_ : ownKnob Try.prog.godebug = none := by kernel_rfl
theorem laid_ : laidOutB Try.prog = true := by kernel_rfl
theorem contract_ (H : Type) (enc : TypeId × Value → H) (W : World) (base : Nat) (args : Array Value) (ds gs : List (DataW H)) (before : List MemPlace)
    (hval : ∀ (j : Nat) t v, Try.f3.params[j]? = some t → args[j]? = some v → Value.okWide Try.prog W .any base t v)
    (hW : DataW.Whole enc Try.prog Try.f3.params.toList Rows.fnExactAreThingsSpec.vars false W args.toList ds gs before) :
    Calls Try.prog 3 args W fun e W' => ∃ v, e = .returned v ∧ Rows.fnExactAreThingsSpec.post enc Try.prog Try.f3 false true false false W args v W' := by
  have hW' := hW
  obtain ⟨p, q, hA0, hV, rfl, hfz, hnd⟩ := hW
  have hA : DataW.TrodAll enc Try.prog W 0 (fun _ => true) true Try.f3.params.toList args.toList ds p := hA0
  rw [Try.params3] at hA hval
  obtain ⟨v0, vs0, d0, ds0, p0, q0, hargs, rfl, rfl, h0, r0⟩ := trodAll_cons hA
  obtain ⟨rfl, rfl, rfl⟩ := trodAll_nil r0
  obtain rfl : args = #[v0] := by cases args; simp_all
  obtain ⟨rfl, rfl⟩ := trodVars_none hV
  obtain ⟨A0, n0, c0, rfl⟩ := okWide_slice Try.underlying22 (hval 0 _ v0 rfl rfl)
  obtain ⟨fuel0, h0⟩ := h0
  obtain ⟨x0, ⟨A0', c0', e0, hs0, hm0⟩, ho0⟩ := opens_slice Try.underlying22 (by kernel_rfl) (opens_thing) h0
  obtain ⟨rfl, rfl, rfl⟩ : A0 = A0' ∧ n0 = x0.length ∧ c0 = c0' := by simpa [Value.cells] using e0
  have hm0 : (x0.length : Int) ≤ 9223372036854775807 := by unfold maxLen at hm0; omega
  refine (walk x0 A0 _ c0 W hm0 hs0 (fun x hx => (ho0 x hx).1)).mono fun e W' ⟨he, hb⟩ => ?_
  exact ⟨_, he, post_law laid_ Try.underlying4 rfl rfl (by kernel_rfl) ⟨rfl, rfl, rfl⟩ hW' hb⟩

set_option maxRecDepth 100000 in
theorem lifted_ (os : Os) (started : os.Started) (H : Type) (enc : TypeId × Value → H) :
    ReturnsInHanded {} Try.checked os 3 .any (Rows.fnExactAreThingsSpec.pre6 enc Try.prog Try.f3 Rows.fnExactAreThingsRow.domain false) (Rows.fnExactAreThingsSpec.post enc Try.prog Try.f3 false true false false) := by
  refine returnsInHanded_of_change (C := Try.checked) own_ started (by kernel_rfl) Try.func3
    (ChangeSpec.witness6 (enc := enc) (C := Try.checked) false ⟨#[], #[.slice none 0 0], []⟩ 8 (by kernel_rfl) (by kernel_rfl) (by kernel_rfl) (by kernel_rfl)) ?_
  intro W base args ds gs before hval0 hW _ _
  exact contract_ H enc W base args ds gs before hval0 hW

theorem proved : Rows.FnExactAreThingsSaid :=
  OpenClaim.holds_of_wide 3 Try.f3 rfl rfl rfl rfl rfl rfl rfl ⟨rfl, rfl, rfl, rfl, rfl⟩ rfl rfl rfl rfl rfl (by kernel_rfl) Try.func3 (by kernel_rfl)
    (of_decide_eq_true (by kernel_rfl)) (by unfold Func.isWrapper; first | (rw [if_pos (by decide +kernel)]; kernel_rfl) | (rw [if_neg (by decide +kernel)]; exact ⟨rfl, rfl⟩))
    (fun os started H enc _ => lifted_ os started H enc)

end Go.Proofs.Ytmmaddlbaonajaa.lawAreThings
