/-
  The law on CommittedTo: it answers true at every input, and every argument reads as before. No conditions.
-/
import Derived.Test.YtocpddhlpkdikaaComF
import Derived.Test.YtocpddhlpkdikaaIncL
import Derived.Test.YtocpddhlpkdikaaOpI
import Derived.Test.YtocpddhlpkdikaaRows
import Derived.Test.YtocpddhlpkdikaaMem3
namespace Go.Proofs.Ytocpddhlpkdikaa.lawCommittedTo
open Go.RowKit

set_option maxRecDepth 100000 in
set_option maxHeartbeats 4000000 in
theorem walk (x0 : List Incident) (A0 : Option Addr) (n0 c0 : Nat) (x1 : ByteArray) (w : World) (hn0 : (n0 : Int) ≤ 9223372036854775807) (hs0 : Sl w A0 n0 x0) (hv0 : ∀ x, x ∈ x0 → ∀ y, y ∈ x.Names → y.size ≤ maxLen) (_hx1 : x1.size ≤ maxLen) :
    Calls Try.prog 6 #[.slice A0 n0 c0, .string x1] w fun e w' => e = .returned (.bool true) ∧ Below w.heap.size w w' := by
  by_cases hz1 : (1048576 : Int) < x1.size
  · have hz1' : decide ((1048576 : Int) < x1.size) = true := by simpa using hz1
    go_enter Try.func6, Try.ntmps6
    go_wp2
    go_ret
    exact ⟨rfl, (by repeat' (first | exact bl_refl _ | refine bl_alloc ?_ _ | refine bl_drew ?_ | refine bl_drewN ?_ _ | refine bl_set ?_ ?_ _ | (simp; done) | (simp; omega)))⟩
  have hz1' : decide ((1048576 : Int) < x1.size) = false := by simpa using hz1
  go_enter Try.func6, Try.ntmps6
  have hk0 := bl_refl w
  go_wp2_with fail
  refine (szIncidentS_any _ _ _ x0 _ _ hn0 (hs0.below hk0) hv0 (by omega) (by omega)).mono ?_
  rintro e V1 ⟨r0, rfl, hr0, hb1⟩
  have hB1 := bl_trans (a := w) (bl_refl _) hb1
  have hk1 := bl_trans hk0 hB1
  have z1 := Lib.hid hB1.size
  clear hb1
  rcases hr0 with rfl | ⟨ha0, hc0, hp0⟩
  · go_wp2
    go_ret
    exact ⟨rfl, hk1⟩
  have hl0 : n0 ≤ 1048576 := by omega
  have hL0 : x0.length ≤ 1048576 := by rw [hs0.1]; exact hl0
  have hI0 : sumIncident x0 ≤ 1048576 := by omega
  have hin0 := Lib.hid (fun x (hx : x ∈ x0) => Nat.le_trans (sumIncident_at hx) hI0)
  clear hp0
  go_wp2_with fail
  refine (toIncidentS_any _ _ _ x0 _ hl0 (hs0.below hk1) hin0.out).mono ?_
  rintro e V2 ⟨A_s0, c_s0, F_s0, rfl, ho_s0, hb2⟩
  have hi_s0 := ho_s0.lies
  have Hi_s0 := Lib.hid hi_s0
  clear hi_s0
  have hB2 := bl_trans (a := V1) (bl_refl _) hb2
  have hk2 := bl_trans hk1 hB2
  have z2 := Lib.hid hB2.size
  clear hk1
  clear hb2
  go_wp2_with fail
  refine (specCommittedTo_any x0 x1 _ _ _ _ _hx1 (by omega) ho_s0.cap ho_s0.sl hv0).mono ?_
  rintro e V3 ⟨rfl, hb3⟩
  clear ho_s0 Hi_s0
  have hB3 := bl_trans (a := V2) (bl_refl _) hb3
  have hk3 := bl_trans hk2 hB3
  have z3 := Lib.hid hB3.size
  clear hk2
  clear hb3
  go_wp2_with fail
  refine (toIncidentS_any _ _ _ x0 _ hl0 (hs0.below hk3) hin0.out).mono ?_
  rintro e V4 ⟨A_x0, c_x0, F_x0, rfl, ho_x0, hb4⟩
  have hi_x0 := ho_x0.lies
  have Hi_x0 := Lib.hid hi_x0
  clear hi_x0
  have hB4 := bl_trans (a := V3) (bl_refl _) hb4
  have hk4 := bl_trans hk3 hB4
  have z4 := Lib.hid hB4.size
  clear hk3
  clear hb4
  go_wp2_with fail
  refine (implCommittedTo_any x0 x1 _ _ _ _ _hx1 (by omega) ho_x0.cap ho_x0.sl hv0).mono ?_
  rintro e V5 ⟨rfl, hb5⟩
  have hB5 := bl_trans (a := V4) (bl_refl _) hb5
  have hk5 := bl_trans hk4 hB5
  have z5 := Lib.hid hB5.size
  have x0_5 := ho_x0.below hB5
  clear hk4 ho_x0
  clear hb5
  go_wp2_with fail
  refine (toIncidentS_any _ _ _ x0 _ hl0 (hs0.below hk5) hin0.out).mono ?_
  rintro e V6 ⟨A_y0, c_y0, F_y0, rfl, ho_y0, hb6⟩
  have hi_y0 := ho_y0.lies
  have Hi_y0 := Lib.hid hi_y0
  clear hi_y0
  have hB6 := bl_trans (a := V5) (bl_refl _) hb6
  have hk6 := bl_trans hk5 hB6
  have z6 := Lib.hid hB6.size
  have x0_6 := x0_5.below hB6
  clear hk5 x0_5
  clear hb6
  go_wp2_with fail
  refine (eqIncidentS_any _ _ _ _ _ _ _ _ _ (by omega) x0_6.sl ho_y0.sl).mono ?_
  rintro e V7 ⟨rfl, hb7⟩
  rw [sameB_refl]
  have hB7 := bl_trans (a := V6) (bl_refl _) hb7
  have hk7 := bl_trans hk6 hB7
  have z7 := Lib.hid hB7.size
  have x0_7 := x0_6.below hB7
  have y0_7 := ho_y0.below hB7
  clear hk6 x0_6 ho_y0
  clear hb7
  clear y0_7 Hi_y0
  clear x0_7 Hi_x0
  go_wp2
  go_ret
  exact ⟨rfl, hk7⟩

open Go.WideShapes Go.ChangeShapes Go.ChangeAt
theorem own_ : ownKnob Try.prog.godebug = none := by kernel_rfl
theorem laid_ : laidOutB Try.prog = true := by kernel_rfl
set_option maxRecDepth 100000 in
theorem contract_ (H : Type) (enc : TypeId × Value → H) (W : World) (base : Nat) (args : Array Value) (ds gs : List (DataW H)) (before : List MemPlace)
    (hval : ∀ (j : Nat) t v, Try.f6.params[j]? = some t → args[j]? = some v → Value.okWide Try.prog W .any base t v)
    (hW : DataW.Whole enc Try.prog Try.f6.params.toList Rows.fnExactCommittedToSpec.vars false W args.toList ds gs before) :
    Calls Try.prog 6 args W fun e W' => ∃ v, e = .returned v ∧ Rows.fnExactCommittedToSpec.post enc Try.prog Try.f6 false true false false W args v W' := by
  have hW' := hW
  obtain ⟨p, q, hA0, hV, rfl, hfz, hnd⟩ := hW
  have hA : DataW.TrodAll enc Try.prog W 0 (fun _ => true) true Try.f6.params.toList args.toList ds p := hA0
  rw [Try.params6] at hA hval
  obtain ⟨v0, vs0, d0, ds0, p0, q0, hargs, rfl, rfl, h0, r0⟩ := trodAll_cons hA
  obtain ⟨v1, vs1, d1, ds1, p1, q1, rfl, rfl, rfl, h1, r1⟩ := trodAll_cons r0
  obtain ⟨rfl, rfl, rfl⟩ := trodAll_nil r1
  obtain rfl : args = #[v0, v1] := by cases args; simp_all
  obtain ⟨rfl, rfl⟩ := trodVars_none hV
  obtain ⟨A0, n0, c0, rfl⟩ := okWide_slice Try.underlying38 (hval 0 _ v0 rfl rfl)
  obtain ⟨fuel0, h0⟩ := h0
  obtain ⟨x0, ⟨A0', c0', e0, hs0, hm0⟩, ho0⟩ := opens_slice Try.underlying38 (by kernel_rfl) (opens_incident) h0
  obtain ⟨rfl, rfl, rfl⟩ : A0 = A0' ∧ n0 = x0.length ∧ c0 = c0' := by simpa [Value.cells] using e0
  have hm0 : (x0.length : Int) ≤ 9223372036854775807 := by unfold maxLen at hm0; omega
  obtain ⟨x1, rfl, rfl, rfl, hx1⟩ := ChangeMaps.open_string Try.underlying9 (hval 1 _ v1 rfl rfl) h1
  refine (walk x0 A0 _ c0 x1 W hm0 hs0 (fun x hx => (ho0 x hx).2.2.2) hx1).mono fun e W' ⟨he, hb⟩ => ?_
  exact ⟨_, he, post_law laid_ Try.underlying4 rfl rfl (by kernel_rfl) ⟨rfl, rfl, rfl⟩ hW' hb⟩

set_option maxRecDepth 100000 in
theorem lifted_ (os : Os) (started : os.Started) (H : Type) (enc : TypeId × Value → H) :
    ReturnsInHanded {} Try.checked os 6 .any (Rows.fnExactCommittedToSpec.pre6 enc Try.prog Try.f6 Rows.fnExactCommittedToRow.domain false) (Rows.fnExactCommittedToSpec.post enc Try.prog Try.f6 false true false false) := by
  refine returnsInHanded_of_change (C := Try.checked) own_ started (by kernel_rfl) Try.func6
    (ChangeSpec.witness6 (enc := enc) (C := Try.checked) false ⟨#[], #[.slice none 0 0, .string ByteArray.empty], []⟩ 8 (by kernel_rfl) (by kernel_rfl) (by kernel_rfl) (by kernel_rfl)) ?_
  intro W base args ds gs before hval0 hW _ _
  exact contract_ H enc W base args ds gs before hval0 hW

theorem proved : Rows.FnExactCommittedToSaid :=
  OpenClaim.holds_of_wide 6 Try.f6 rfl rfl rfl rfl rfl rfl rfl ⟨rfl, rfl, rfl, rfl, rfl⟩ rfl rfl rfl rfl rfl (by kernel_rfl) Try.func6 (by kernel_rfl)
    (of_decide_eq_true (by kernel_rfl)) (by unfold Func.isWrapper; first | (rw [if_pos (by decide +kernel)]; kernel_rfl) | (rw [if_neg (by decide +kernel)]; exact ⟨rfl, rfl⟩))
    (fun os started H enc _ => lifted_ os started H enc)

end Go.Proofs.Ytocpddhlpkdikaa.lawCommittedTo
