/-
  The law on ParseSkills: it answers true at every input, and every argument reads as before. No conditions.
-/
import Derived.Test.YtjjmiapopjaoeaaDoorPkS
import Derived.Test.YtjjmiapopjaoeaaDoorPkI
import Derived.Test.YtjjmiapopjaoeaaDoorRow
import Derived.Test.YtjjmiapopjaoeaaDoorJnEnvq
import Derived.Test.YtjjmiapopjaoeaaDoorRows
import Derived.Test.YtjjmiapopjaoeaaDoorMem3
import Derived.Test.YtjjmiapopjaoeaaDoorCards
import Derived.Test.YtjjmiapopjaoeaaDoorTie
import Derived.Handed
import Derived.LaidLaws
import Derived.Lay
import Derived.SevenTiedAt
namespace Go.Proofs.YtjjmiapopjaoeaaDoor.lawParseSkills
open Go.RowKit

set_option maxRecDepth 100000 in
set_option maxHeartbeats 4000000 in
theorem walk (x0 : ByteArray) (w : World) (he : Env w) (_hx0 : x0.size ≤ maxLen) :
    Calls Tryd.prog 3 #[.string x0] w fun e w' => e = .returned (.bool true) ∧ Below w.heap.size w w' := by
  by_cases hz0 : (1048576 : Int) < x0.size
  · have hz0' : decide ((1048576 : Int) < x0.size) = true := by simpa using hz0
    go_enter Tryd.func3, Tryd.ntmps3
    go_wp2
    go_ret
    exact ⟨rfl, (by repeat' (first | exact bl_refl _ | refine bl_alloc ?_ _ | refine bl_drew ?_ | refine bl_drewN ?_ _ | refine bl_set ?_ ?_ _ | (simp; done) | (simp; omega)))⟩
  have hz0' : decide ((1048576 : Int) < x0.size) = false := by simpa using hz0
  go_enter Tryd.func3, Tryd.ntmps3
  have hk0 := bl_refl w
  have hR : (pkF x0).1.length ≤ 1048576 := pkF_len x0
  go_wp2_with fail
  refine (specParseSkills_any x0 _ (by omega)).mono ?_
  rintro e V1 ⟨A_w0, c_w0, rfl, ho_w0, hb1⟩
  have hi_w0 := ho_w0.lies
  have Hi_w0 := Lib.hid hi_w0
  clear hi_w0
  have hB1 := bl_trans (a := w) (bl_refl _) hb1
  have hk1 := bl_trans hk0 hB1
  have z1 := Lib.hid hB1.size
  clear hb1
  go_wp2_with fail
  refine (implParseSkills_any x0 _ (by omega) (he.below hk1)).mono ?_
  rintro e V2 ⟨A_g0, c_g0, rfl, ho_g0, hb2⟩
  have hi_g0 := ho_g0.lies
  have Hi_g0 := Lib.hid hi_g0
  clear hi_g0
  have hB2 := bl_trans (a := V1) (bl_refl _) hb2
  have hk2 := bl_trans hk1 hB2
  have z2 := Lib.hid hB2.size
  have w0_2 := ho_w0.below hB2
  clear hk1 ho_w0
  clear hb2
  go_wp2_with fail
  refine (eqSkillS_any _ _ _ _ _ _ _ _ _ (by omega) ho_g0.sl w0_2.sl).mono ?_
  rintro e V3 ⟨rfl, hb3⟩
  rw [sameB_refl]
  have hB3 := bl_trans (a := V2) (bl_refl _) hb3
  have hk3 := bl_trans hk2 hB3
  have z3 := Lib.hid hB3.size
  have w0_3 := w0_2.below hB3
  have g0_3 := ho_g0.below hB3
  clear hk2 w0_2 ho_g0
  clear hb3
  go_wp2_with fail
  refine (markSkillS_any _ _ _ _ _ _ _ (by omega) (by omega) (by omega) g0_3).mono ?_
  rintro e V4 ⟨rfl, hm4, hg4⟩
  have hf4 := OnlyF.of_gb hg4
  have hk4 := below_only hk3 hf4 Hi_g0.out (by (try simp only [World.size_alloc]); (try simp only [World.size_drew]); have := z1.out; have := z2.out; have := z3.out; omega)
  have z4 := Lib.hid hf4.size
  have w0_4 := w0_3.only hf4 (Hi_w0.out.apart Hi_g0.out (by (try simp only [World.size_alloc]); (try simp only [World.size_drew]); have := z1.out; have := z2.out; have := z3.out; have := z4.out; omega))
  clear hk3 g0_3 w0_3 hg4 hf4
  go_wp2_with fail
  refine (heldSkillS_any _ _ _ _ _ (by omega) (by omega) (by omega) hm4.sl).mono ?_
  rintro e V5 ⟨rfl, hb5⟩
  have hB5 := bl_trans (a := V4) (bl_refl _) hb5
  have hk5 := bl_trans hk4 hB5
  have z5 := Lib.hid hB5.size
  have w0_5 := w0_4.below hB5
  have g0_5 := hm4.below hB5
  clear hk4 w0_4 hm4
  clear hb5
  go_wp2_with fail
  refine (implParseSkills_any x0 _ (by omega) (he.below hk5)).mono ?_
  rintro e V6 ⟨A_h0, c_h0, rfl, ho_h0, hb6⟩
  have hi_h0 := ho_h0.lies
  have Hi_h0 := Lib.hid hi_h0
  clear hi_h0
  have hB6 := bl_trans (a := V5) (bl_refl _) hb6
  have hk6 := bl_trans hk5 hB6
  have z6 := Lib.hid hB6.size
  have w0_6 := w0_5.below hB6
  have g0_6 := g0_5.below hB6
  clear hk5 w0_5 g0_5
  clear hb6
  go_wp2_with fail
  refine (eqSkillS_any _ _ _ _ _ _ _ _ _ (by omega) ho_h0.sl w0_6.sl).mono ?_
  rintro e V7 ⟨rfl, hb7⟩
  rw [sameB_refl]
  have hB7 := bl_trans (a := V6) (bl_refl _) hb7
  have hk7 := bl_trans hk6 hB7
  have z7 := Lib.hid hB7.size
  have w0_7 := w0_6.below hB7
  have g0_7 := g0_6.below hB7
  have h0_7 := ho_h0.below hB7
  clear hk6 w0_6 g0_6 ho_h0
  clear hb7
  clear h0_7 Hi_h0
  clear w0_7 Hi_w0
  go_wp2_with fail
  refine (heldSkillS_any _ _ _ _ _ (by omega) (by omega) (by omega) g0_7.sl).mono ?_
  rintro e V8 ⟨rfl, hb8⟩
  have hB8 := bl_trans (a := V7) (bl_refl _) hb8
  have hk8 := bl_trans hk7 hB8
  have z8 := Lib.hid hB8.size
  have g0_8 := g0_7.below hB8
  clear hk7 g0_7
  clear hb8
  clear g0_8 Hi_g0
  go_wp2
  go_ret
  exact ⟨rfl, hk8⟩

open Go.WideShapes Go.ChangeShapes Go.ChangeAt
theorem own_ : ownKnob Tryd.prog.godebug = none := by kernel_rfl
theorem laid_ : laidOutB Tryd.prog = true := by kernel_rfl
theorem of_change_and_shaped {H : Type} {enc : TypeId × Value → H} {a : Assume} {C : Checked} {os : Os} {f : FuncId} {fn : Func} {s : ChangeSpec} {conds : List PathCond} {apart fresh handsOn again : Bool} {X : World → Array Value → Prop}
    (hX : ∀ (w w' : World) (args : Array Value), w.heap = w'.heap → X w args → X w' args)
    (own : ownKnob C.prog.godebug = none) (started : os.Started) (noInit : C.prog.inits.idxOf? f = none) (hfn : C.prog.funcs[f]? = some fn)
    (witness : ∃ (w : World) (tape : Tape) (i : Input), w.os = os ∧ (w.forCall tape i).Shaped C.prog ∧ i.vars = [] ∧ Input.okWide C.prog (w.forCall tape i) .any w.heap.size f i ∧
      ((s.pre enc C.prog fn conds apart (w.forCall tape i).memory i.args ∧ X (w.forCall tape i).memory i.args) ∧ sizedMet enc C.prog fn (OpenSpec.ofChange s) apart (w.forCall tape i).memory i.args) ∧ a.holds C.prog (lone (Frame.enter C.prog f i.args .normal) [] (w.forCall tape i)))
    (contract : ∀ (W : World) (base : Nat) (args : Array Value) (ds gs : List (DataW H)) (before : List MemPlace),
      (∀ (j : Nat) t v, fn.params[j]? = some t → args[j]? = some v → Value.okWide C.prog W .any base t v) →
      DataW.Whole enc C.prog fn.params.toList s.vars apart W args.toList ds gs before → X W args → W.ShapedOpen C.prog →
      Calls C.prog f args W fun e W' => ∃ v, e = .returned v ∧ s.post enc C.prog fn apart fresh handsOn again W args v W') :
    ReturnsInHanded a C os f .any (fun w args => (s.pre enc C.prog fn conds apart w args ∧ X w args) ∧ sizedMet enc C.prog fn (OpenSpec.ofChange s) apart w args) (s.post enc C.prog fn apart fresh handsOn again) := by
  refine returnsInHanded_of_calls own started noInit witness ?_
  intro w tape i _ hsh _ hok hpre hholds
  obtain ⟨_, _, _, fn', hfn', _, _, _, _, hval⟩ := hok
  have e : fn' = fn := Option.some.inj (hfn'.symm.trans hfn)
  subst e
  obtain ⟨⟨⟨ds, gs, before, hw, _⟩, hx⟩, _⟩ := hpre
  have hw' := DataW.Whole.of_heap (w' := w.forCall tape i) (by rfl) hw
  refine (contract (w.forCall tape i) w.heap.size i.args ds gs before hval hw' (hX _ _ _ (by rfl) hx) hsh).mono fun e W' ⟨v, he, hp⟩ => ?_
  subst he
  exact ChangeSpec.post_blind hp
set_option maxRecDepth 100000 in
theorem contract_ (H : Type) (enc : TypeId × Value → H) (W : World) (base : Nat) (args : Array Value) (ds gs : List (DataW H)) (before : List MemPlace)
    (hval : ∀ (j : Nat) t v, Tryd.f3.params[j]? = some t → args[j]? = some v → Value.okWide Tryd.prog W .any base t v)
    (hW : DataW.Whole enc Tryd.prog Tryd.f3.params.toList Rows.fnExactParseSkillsSpec.vars false W args.toList ds gs before) (hL : laidMetH Tryd.prog Rows.fnExactParseSkillsRow.laid W) (hS : W.ShapedOpen Tryd.prog) :
    Calls Tryd.prog 3 args W fun e W' => ∃ v, e = .returned v ∧ Rows.fnExactParseSkillsSpec.post enc Tryd.prog Tryd.f3 false true false false W args v W' := by
  have hW' := hW
  obtain ⟨p, q, hA0, hV, rfl, hfz, hnd⟩ := hW
  have hA : DataW.TrodAll enc Tryd.prog W 0 (fun _ => true) true Tryd.f3.params.toList args.toList ds p := hA0
  rw [Tryd.params3] at hA hval
  obtain ⟨v0, vs0, d0, ds0, p0, q0, hargs, rfl, rfl, h0, r0⟩ := trodAll_cons hA
  obtain ⟨rfl, rfl, rfl⟩ := trodAll_nil r0
  obtain rfl : args = #[v0] := by cases args; simp_all
  obtain ⟨rfl, rfl⟩ := trodVars_none hV
  obtain ⟨x0, rfl, rfl, rfl, hx0⟩ := ChangeMaps.open_string Tryd.underlying9 (hval 0 _ v0 rfl rfl) h0
  refine (walk x0 W (env_of hL hS) hx0).mono fun e W' ⟨he, hb⟩ => ?_
  exact ⟨_, he, post_law laid_ Tryd.underlying4 rfl rfl (by kernel_rfl) ⟨rfl, rfl, rfl⟩ hW' hb⟩

set_option maxRecDepth 100000 in
theorem lifted_ (os : Os) (started : os.Started) (H : Type) (enc : TypeId × Value → H) :
    ReturnsInHanded {} Tryd.checked os 3 .any (fun w args => (Rows.fnExactParseSkillsSpec.pre enc Tryd.prog Tryd.f3 [] false w args ∧ laidMetH Tryd.prog Rows.fnExactParseSkillsRow.laid w) ∧ sizedMet enc Tryd.prog Tryd.f3 (OpenSpec.ofChange Rows.fnExactParseSkillsSpec) false w args) (Rows.fnExactParseSkillsSpec.post enc Tryd.prog Tryd.f3 false true false false) := by
  refine of_change_and_shaped (C := Tryd.checked) (X := fun w _ => laidMetH Tryd.prog Rows.fnExactParseSkillsRow.laid w) (fun _ _ _ hh h => h.of_heap hh) own_ started (by kernel_rfl) Tryd.func3
    (ChangeSpec.witness_shaped (enc := enc) (C := Tryd.checked) (os := os) (X := fun w _ => laidMetH Tryd.prog Rows.fnExactParseSkillsRow.laid w) false (World.laidAll Tryd.prog os Rows.fnExactParseSkillsRow.laid) #[.string ByteArray.empty] 8 (World.laidAll_os _ _ _)
      (World.shaped_of_ZipB (by kernel_rfl) (by kernel_rfl)) (by kernel_rfl) (by kernel_rfl) (by kernel_rfl)
      (by rw [MakeChecks.laidMetH_plain _ _ _ (by kernel_rfl)]; exact laidMet_laidAll _ (by kernel_rfl) (by kernel_rfl))) ?_
  intro W base args ds gs before hval0 hW hL hS
  exact contract_ H enc W base args ds gs before hval0 hW hL hS

theorem said : Rows.FnExactParseSkillsSaid :=
  OpenClaim.holds_of_wide 3 Tryd.f3 rfl rfl rfl rfl rfl rfl rfl ⟨rfl, rfl, rfl, rfl, rfl⟩ rfl rfl rfl rfl rfl (by kernel_rfl) Tryd.func3 (by kernel_rfl)
    (of_decide_eq_true (by kernel_rfl)) (by unfold Func.isWrapper; first | (rw [if_pos (by decide +kernel)]; kernel_rfl) | (rw [if_neg (by decide +kernel)]; exact ⟨rfl, rfl⟩))
    (fun os started H enc _ => lifted_ os started H enc)
/-- No parameter wants a stand-in. -/
theorem plain (f : FuncId) (fn : Func) (hf : Tryd.pinned.checked.prog.funcNamed "loop.example/g01020/laws.FnExactParseSkills" = some f) (hfn : Tryd.pinned.checked.prog.funcs[f]? = some fn) :
    true = Tryd.pinned.checked.prog.looks [] ∧ ∀ (j : Nat) t, fn.params[j]? = some t → Tryd.pinned.checked.prog.wantsStandIn t = false := by
  obtain rfl : f = 3 := Option.some.inj ((show Tryd.prog.funcNamed "loop.example/g01020/laws.FnExactParseSkills" = some 3 by kernel_rfl).symm.trans hf) |>.symm
  obtain rfl : fn = Tryd.f3 := (Option.some.inj (Tryd.func3.symm.trans hfn)).symm
  refine ⟨by kernel_rfl, fun j t ht => ?_⟩
  have hall : (Tryd.f3.params.toList.all fun u => !Tryd.prog.wantsStandIn u) = true := by kernel_rfl
  have hm : t ∈ Tryd.f3.params.toList := by simpa using Array.mem_of_getElem? ht
  exact (show Tryd.prog.wantsStandIn t = false by simpa using List.all_eq_true.1 hall t hm)
theorem proved : Rows.FnExactParseSkillsCardSaid :=
  Claim7.holds_tied_plain_at .later [] _ _ _ _ said (fun _ h => by cases h) (by kernel_rfl) (fun _ h => by cases h) fnExactParseSkills_row_tie rfl ⟨rfl, rfl⟩ (by kernel_rfl) rfl plain (by kernel_rfl)

end Go.Proofs.YtjjmiapopjaoeaaDoor.lawParseSkills
