/-
  The law on AreDetectors: it answers true at every input, and every argument reads as before. No conditions.
-/
import Derived.Test.YtjdaikpkcafcdaaDetB
import Derived.Test.YtjdaikpkcafcdaaOp
import Derived.Test.YtjdaikpkcafcdaaRows
namespace Go.Proofs.Ytjdaikpkcafcdaa.lawAreDetectors
open Go.RowKit

set_option maxHeartbeats 1000000 in
theorem walk (xs : List Det) (A : Option Addr) (n c : Nat) (w : World) (hn : (n : Int) ≤ 9223372036854775807) (hs : Sl w A n xs) :
    Calls Try.prog 4 #[.slice A n c] w fun e w' => e = .returned (.bool true) ∧ Below w.heap.size w w' := by
  have HL := Lib.hid hs.1
  by_cases hb : (1048576 : Int) < n
  · have h2 : szF 1048576 n = -1 := by unfold szF; rw [if_pos hb]
    go_enter Try.func4, Try.ntmps4
    go_wp2_with (go_at_call 14; refine (szDetectorS_any _ _ _ _ _ hn (by omega) (by omega)).mono ?_; rintro e V ⟨rfl, rfl⟩)
    go_ret
    exact ⟨rfl, bl_refl _⟩
  · have h2 : szF 1048576 n = 1048576 - n := by unfold szF; rw [if_neg hb]
    have hd : decide ((1048576 : Int) - n < 0) = false := by simp; omega
    have hn2 : n ≤ 1048576 := by omega
    go_enter Try.func4, Try.ntmps4
    go_wp2_with (go_at_call 14; refine (szDetectorS_any _ _ _ _ _ hn (by omega) (by omega)).mono ?_; rintro e V ⟨rfl, rfl⟩)
    clear h2 hd
    go_wp2_with fail
    refine (toDetectorS_any _ _ _ xs _ hn2 hs).mono ?_
    rintro e V ⟨A1, c1, rfl, ho1, hb1⟩
    go_wp2_with fail
    refine (specAreDetectors_any xs _ _ _ _ (by have := HL.out; omega) ho1.sl).mono ?_
    rintro e V2 ⟨rfl, hb2⟩
    have hk2 := bl_trans hb1 hb2
    go_wp2_with fail
    refine (toDetectorS_any _ _ _ xs _ hn2 (hs.below hk2)).mono ?_
    rintro e V3 ⟨A3, c3, rfl, ho3, hb3⟩
    have hk3 := bl_trans hk2 hb3
    go_wp2_with fail
    refine (implAreDetectors_any xs _ _ _ _ (by have := HL.out; omega) ho3.sl).mono ?_
    rintro e V4 ⟨rfl, hb4⟩
    have hk4 := bl_trans hk3 hb4
    have ho4 := ho3.below hb4
    go_wp2_with fail
    refine (toDetectorS_any _ _ _ xs _ hn2 (hs.below hk4)).mono ?_
    rintro e V5 ⟨A5, c5, rfl, ho5, hb5⟩
    have hk5 := bl_trans hk4 hb5
    have ho6 := ho4.below hb5
    have he : sameB xs xs = true := sameB_iff.2 rfl
    go_wp2_with fail
    refine (eqDetectorS_any _ _ _ _ _ _ xs xs _ (by have := HL.out; omega) ho6.sl ho5.sl).mono ?_
    rintro e V6 ⟨rfl, hb6⟩
    have hk6 := bl_trans hk5 hb6
    clear ho1 ho3 ho4 ho5 ho6
    go_wp2
    go_ret
    exact ⟨rfl, hk6⟩

open Go.WideShapes Go.ChangeShapes Go.ChangeAt
theorem own_ : ownKnob Try.prog.godebug = none := by kernel_rfl
theorem laid_ : laidOutB Try.prog = true := by kernel_rfl
theorem contract_ (H : Type) (enc : TypeId × Value → H) (W : World) (base : Nat) (args : Array Value) (ds gs : List (DataW H)) (before : List MemPlace)
    (hval : ∀ (j : Nat) t v, Try.f4.params[j]? = some t → args[j]? = some v → Value.okWide Try.prog W .any base t v)
    (hW : DataW.Whole enc Try.prog Try.f4.params.toList Rows.fnExactAreDetectorsSpec.vars false W args.toList ds gs before) :
    Calls Try.prog 4 args W fun e W' => ∃ v, e = .returned v ∧ Rows.fnExactAreDetectorsSpec.post enc Try.prog Try.f4 false true false false W args v W' := by
  have hW' := hW
  obtain ⟨p, q, hA0, hV, rfl, hfz, hnd⟩ := hW
  have hA : DataW.TrodAll enc Try.prog W 0 (fun _ => true) true Try.f4.params.toList args.toList ds p := hA0
  rw [Try.params4] at hA hval
  obtain ⟨v0, vs0, d0, ds0, p0, q0, hargs, rfl, rfl, h0, r0⟩ := trodAll_cons hA
  obtain ⟨rfl, rfl, rfl⟩ := trodAll_nil r0
  obtain rfl : args = #[v0] := by cases args; simp_all
  obtain ⟨rfl, rfl⟩ := trodVars_none hV
  obtain ⟨A0, n0, c0, rfl⟩ := okWide_slice Try.underlying29 (hval 0 _ v0 rfl rfl)
  obtain ⟨fuel0, h0⟩ := h0
  obtain ⟨x0, A0', c0', e0, hs0, hm0⟩ := opens_slice Try.underlying29 (by kernel_rfl) (opens_det) h0
  obtain ⟨rfl, rfl, rfl⟩ : A0 = A0' ∧ n0 = x0.length ∧ c0 = c0' := by simpa [Value.cells] using e0
  have hm0 : (x0.length : Int) ≤ 9223372036854775807 := by unfold maxLen at hm0; omega
  refine (walk x0 A0 _ c0 W hm0 hs0).mono fun e W' ⟨he, hb⟩ => ?_
  exact ⟨_, he, post_law laid_ Try.underlying4 rfl rfl (by kernel_rfl) ⟨rfl, rfl, rfl⟩ hW' hb⟩

set_option maxRecDepth 100000 in
theorem lifted_ (os : Os) (started : os.Started) (H : Type) (enc : TypeId × Value → H) :
    ReturnsInHanded {} Try.checked os 4 .any (Rows.fnExactAreDetectorsSpec.pre6 enc Try.prog Try.f4 Rows.fnExactAreDetectorsRow.domain false) (Rows.fnExactAreDetectorsSpec.post enc Try.prog Try.f4 false true false false) := by
  refine returnsInHanded_of_change (C := Try.checked) own_ started (by kernel_rfl) Try.func4
    (ChangeSpec.witness6 (enc := enc) (C := Try.checked) false ⟨#[], #[.slice none 0 0], []⟩ 8 (by kernel_rfl) (by kernel_rfl) (by kernel_rfl) (by kernel_rfl)) ?_
  intro W base args ds gs before hval0 hW _ _
  exact contract_ H enc W base args ds gs before hval0 hW

theorem proved : Rows.FnExactAreDetectorsSaid :=
  OpenClaim.holds_of_wide 4 Try.f4 rfl rfl rfl rfl rfl rfl rfl ⟨rfl, rfl, rfl, rfl, rfl⟩ rfl rfl rfl rfl rfl (by kernel_rfl) Try.func4 (by kernel_rfl)
    (of_decide_eq_true (by kernel_rfl)) (by unfold Func.isWrapper; first | (rw [if_pos (by decide +kernel)]; kernel_rfl) | (rw [if_neg (by decide +kernel)]; exact ⟨rfl, rfl⟩))
    (fun os started H enc _ => lifted_ os started H enc)

end Go.Proofs.Ytjdaikpkcafcdaa.lawAreDetectors
