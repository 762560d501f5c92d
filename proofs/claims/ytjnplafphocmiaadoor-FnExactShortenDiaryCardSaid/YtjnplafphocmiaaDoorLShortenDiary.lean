/-
  The law on ShortenDiary: it answers true at every input, and every argument reads as before. No conditions.
-/
import Derived.Test.YtjnplafphocmiaaDoorJnSi
import Derived.Test.YtjnplafphocmiaaDoorJnSj
import Derived.Test.YtjnplafphocmiaaDoorOpJ
import Derived.Test.YtjnplafphocmiaaDoorJnEnv
import Derived.Test.YtjnplafphocmiaaDoorRows
import Derived.Test.YtjnplafphocmiaaDoorMem3
import Derived.Test.YtjnplafphocmiaaDoorCards
import Derived.Test.YtjnplafphocmiaaDoorTie
import Derived.Handed
import Derived.LaidLaws
import Derived.Lay
import Derived.SevenTiedAt
namespace Go.Proofs.YtjnplafphocmiaaDoor.lawShortenDiary
open Go.RowKit

set_option maxRecDepth 100000 in
set_option maxHeartbeats 4000000 in
theorem walk (x0 : Diary) (w : World) (he : Env w) (hz0Safe : x0.Safe.size ≤ maxLen) (hz0Open : x0.Open.size ≤ maxLen) :
    Calls Tryd.prog 12 #[.agg #[.string x0.Safe, .string x0.Open]] w fun e w' => e = .returned (.bool true) ∧ Below w.heap.size w w' := by
  go_enter Tryd.func12, Tryd.ntmps12
  have hk0 := bl_refl w
  go_wp2_with fail
  refine (szDiary_any x0 _ _ hz0Safe hz0Open (by omega) (by omega)).mono ?_
  rintro e V1 ⟨r0, rfl, hr0, hb1⟩
  have hB1 := bl_trans (a := w) (by repeat' (first | exact bl_refl _ | refine bl_alloc ?_ _ | refine bl_drew ?_ | refine bl_drewN ?_ _ | refine bl_set ?_ ?_ _ | (simp; done) | (simp; omega))) hb1
  have hk1 := bl_trans hk0 hB1
  have z1 : Hid (w.heap.size + 1 ≤ V1.heap.size) := by have := hb1.size; simp only [World.size_alloc] at this; exact (by omega : _)
  have ba0_0_1 : V1.cell? ⟨w.heap.size, 0, none⟩ = some (.string x0.Safe) := cell_later hb1 (by go_simp)
  have ba0_1_1 : V1.cell? ⟨w.heap.size, 1, none⟩ = some (.string x0.Open) := cell_later hb1 (by go_simp)
  have la0_1 : w.heap.size < V1.heap.size := World.block_lt_of_cell? _ _ ba0_0_1
  clear hb1
  rcases hr0 with rfl | ⟨ha0, hc0, hp0⟩
  · go_wp2
    go_ret
    exact ⟨rfl, hk1⟩
  go_wp2_with fail
  refine (toDiary_any x0 _).mono ?_
  rintro e V2 ⟨rfl, hb2⟩
  have hB2 := bl_trans (a := V1) (bl_refl _) hb2
  have hk2 := bl_trans hk1 hB2
  have z2 := Lib.hid hB2.size
  have ba0_0_2 : V2.cell? ⟨w.heap.size, 0, none⟩ = some (.string x0.Safe) := cell_later hB2 ba0_0_1
  have ba0_1_2 : V2.cell? ⟨w.heap.size, 1, none⟩ = some (.string x0.Open) := cell_later hB2 ba0_1_1
  have la0_2 : w.heap.size < V2.heap.size := World.block_lt_of_cell? _ _ ba0_0_2
  clear hk1 ba0_0_1 ba0_1_1 la0_1
  clear hb2
  go_wp2_with fail
  refine (specShortenDiary_any x0 _ (by omega)).mono ?_
  rintro e V3 ⟨rfl, hb3⟩
  have hB3 := bl_trans (a := V2) (bl_refl _) hb3
  have hk3 := bl_trans hk2 hB3
  have z3 := Lib.hid hB3.size
  have ba0_0_3 : V3.cell? ⟨w.heap.size, 0, none⟩ = some (.string x0.Safe) := cell_later hB3 ba0_0_2
  have ba0_1_3 : V3.cell? ⟨w.heap.size, 1, none⟩ = some (.string x0.Open) := cell_later hB3 ba0_1_2
  have la0_3 : w.heap.size < V3.heap.size := World.block_lt_of_cell? _ _ ba0_0_3
  clear hk2 ba0_0_2 ba0_1_2 la0_2
  clear hb3
  go_wp2_with fail
  refine (toDiary_any x0 _).mono ?_
  rintro e V4 ⟨rfl, hb4⟩
  have hB4 := bl_trans (a := V3) (by repeat' (first | exact bl_refl _ | refine bl_alloc ?_ _ | refine bl_drew ?_ | refine bl_drewN ?_ _ | refine bl_set ?_ ?_ _ | (simp; done) | (simp; omega))) hb4
  have hk4 := bl_trans hk3 hB4
  have z4 : Hid (V3.heap.size + 1 ≤ V4.heap.size) := by have := hb4.size; simp only [World.size_alloc] at this; exact (by omega : _)
  have ba0_0_4 : V4.cell? ⟨w.heap.size, 0, none⟩ = some (.string x0.Safe) := cell_later hB4 ba0_0_3
  have ba0_1_4 : V4.cell? ⟨w.heap.size, 1, none⟩ = some (.string x0.Open) := cell_later hB4 ba0_1_3
  have la0_4 : w.heap.size < V4.heap.size := World.block_lt_of_cell? _ _ ba0_0_4
  have bw0_0_4 : V4.cell? ⟨V3.heap.size, 0, none⟩ = some (.string (shF x0).1.Safe) := cell_later hb4 (by go_simp)
  have bw0_1_4 : V4.cell? ⟨V3.heap.size, 1, none⟩ = some (.string (shF x0).1.Open) := cell_later hb4 (by go_simp)
  have lw0_4 : V3.heap.size < V4.heap.size := World.block_lt_of_cell? _ _ bw0_0_4
  clear hk3 ba0_0_3 ba0_1_3 la0_3
  clear hb4
  go_wp2_with fail
  refine (implShortenDiary_any x0 _ (by omega) (he.below hk4)).mono ?_
  rintro e V5 ⟨rfl, hb5⟩
  have hB5 := bl_trans (a := V4) (bl_refl _) hb5
  have hk5 := bl_trans hk4 hB5
  have z5 := Lib.hid hB5.size
  have ba0_0_5 : V5.cell? ⟨w.heap.size, 0, none⟩ = some (.string x0.Safe) := cell_later hB5 ba0_0_4
  have ba0_1_5 : V5.cell? ⟨w.heap.size, 1, none⟩ = some (.string x0.Open) := cell_later hB5 ba0_1_4
  have la0_5 : w.heap.size < V5.heap.size := World.block_lt_of_cell? _ _ ba0_0_5
  have bw0_0_5 : V5.cell? ⟨V3.heap.size, 0, none⟩ = some (.string (shF x0).1.Safe) := cell_later hB5 bw0_0_4
  have bw0_1_5 : V5.cell? ⟨V3.heap.size, 1, none⟩ = some (.string (shF x0).1.Open) := cell_later hB5 bw0_1_4
  have lw0_5 : V3.heap.size < V5.heap.size := World.block_lt_of_cell? _ _ bw0_0_5
  clear hk4 ba0_0_4 ba0_1_4 la0_4 bw0_0_4 bw0_1_4 lw0_4
  clear hb5
  go_wp2_with fail
  refine (eqDiary_any (shF x0).1 (shF x0).1 _).mono ?_
  rintro e V6 ⟨rfl, hb6⟩
  rw [sameB_refl]
  have hB6 := bl_trans (a := V5) (by repeat' (first | exact bl_refl _ | refine bl_alloc ?_ _ | refine bl_drew ?_ | refine bl_drewN ?_ _ | refine bl_set ?_ ?_ _ | (simp; done) | (simp; omega))) hb6
  have hk6 := bl_trans hk5 hB6
  have z6 : Hid (V5.heap.size + 1 ≤ V6.heap.size) := by have := hb6.size; simp only [World.size_alloc] at this; exact (by omega : _)
  have ba0_0_6 : V6.cell? ⟨w.heap.size, 0, none⟩ = some (.string x0.Safe) := cell_later hB6 ba0_0_5
  have ba0_1_6 : V6.cell? ⟨w.heap.size, 1, none⟩ = some (.string x0.Open) := cell_later hB6 ba0_1_5
  have la0_6 : w.heap.size < V6.heap.size := World.block_lt_of_cell? _ _ ba0_0_6
  have bw0_0_6 : V6.cell? ⟨V3.heap.size, 0, none⟩ = some (.string (shF x0).1.Safe) := cell_later hB6 bw0_0_5
  have bw0_1_6 : V6.cell? ⟨V3.heap.size, 1, none⟩ = some (.string (shF x0).1.Open) := cell_later hB6 bw0_1_5
  have lw0_6 : V3.heap.size < V6.heap.size := World.block_lt_of_cell? _ _ bw0_0_6
  have bg0_0_6 : V6.cell? ⟨V5.heap.size, 0, none⟩ = some (.string (shF x0).1.Safe) := cell_later hb6 (by go_simp)
  have bg0_1_6 : V6.cell? ⟨V5.heap.size, 1, none⟩ = some (.string (shF x0).1.Open) := cell_later hb6 (by go_simp)
  have lg0_6 : V5.heap.size < V6.heap.size := World.block_lt_of_cell? _ _ bg0_0_6
  clear hk5 ba0_0_5 ba0_1_5 la0_5 bw0_0_5 bw0_1_5 lw0_5
  clear hb6
  go_wp2
  go_ret
  exact ⟨rfl, hk6⟩

open Go.WideShapes Go.ChangeShapes Go.ChangeAt
theorem own_ : ownKnob Tryd.prog.godebug = none := by kernel_rfl
theorem laid_ : laidOutB Tryd.prog = true := by kernel_rfl
theorem of_change_and_shaped {H : Type} {enc : TypeId × Value → H} {a : Assume} {C : Checked} {os : Os} {f : FuncId} {fn : Func} {s : ChangeSpec} {conds : List PathCond} {apart fresh handsOn again : Bool} {X : World → Array Value → Prop}
    (hX : ∀ (w w' : World) (args : Array Value), w.heap = w'.heap → X w args → X w' args)
    (own : ownKnob C.prog.godebug = none) (started : os.Started) (noInit : C.prog.inits.idxOf? f = none) (hfn : C.prog.funcs[f]? = some fn)
    (witness : ∃ (w : World) (tape : Tape) (i : Input), w.os = os ∧ (w.forCall tape i).Shaped C.prog ∧ i.vars = [] ∧ Input.okWide C.prog (w.forCall tape i) .any w.heap.size f i ∧
      ((s.pre enc C.prog fn conds apart (w.forCall tape i).memory i.args ∧ X (w.forCall tape i).memory i.args) ∧ sizedMet enc C.prog fn (OpenSpec.ofChange s) apart (w.forCall tape i).memory i.args) ∧ a.holds C.prog (lone (Frame.enter C.prog f i.args .normal) [] (w.forCall tape i)))
    (contract : ∀ (W : World) (base : Nat) (args : Array Value) (ds gs : List (DataW H)) (before : List MemPlace),
      (∀ (j : Nat) t v, fn.params[j]? = some t → args[j]? = some v → Value.okWide C.prog W .any base t v) →
      DataW.Whole enc C.prog fn.params.toList s.vars apart W args.toList ds gs before → X W args → W.ShapedOpen C.prog →
      Calls C.prog f args W fun e W' => ∃ v, e = .returned v ∧ s.post enc C.prog fn apart fresh handsOn again W args v W') :
    ReturnsInHanded a C os f .any (fun w args => (s.pre enc C.prog fn conds apart w args ∧ X w args) ∧ sizedMet enc C.prog fn (OpenSpec.ofChange s) apart w args) (s.post enc C.prog fn apart fresh handsOn again) := by
  refine returnsInHanded_of_calls own started noInit witness ?_
  intro w tape i _ hsh _ hok hpre hholds
  obtain ⟨_, _, _, fn', hfn', _, _, _, _, hval⟩ := hok
  have e : fn' = fn := Option.some.inj (hfn'.symm.trans hfn)
  subst e
  obtain ⟨⟨⟨ds, gs, before, hw, _⟩, hx⟩, _⟩ := hpre
  have hw' := DataW.Whole.of_heap (w' := w.forCall tape i) (by rfl) hw
  refine (contract (w.forCall tape i) w.heap.size i.args ds gs before hval hw' (hX _ _ _ (by rfl) hx) hsh).mono fun e W' ⟨v, he, hp⟩ => ?_
  subst he
  exact ChangeSpec.post_blind hp
set_option maxRecDepth 100000 in
theorem contract_ (H : Type) (enc : TypeId × Value → H) (W : World) (base : Nat) (args : Array Value) (ds gs : List (DataW H)) (before : List MemPlace)
    (hval : ∀ (j : Nat) t v, Tryd.f12.params[j]? = some t → args[j]? = some v → Value.okWide Tryd.prog W .any base t v)
    (hW : DataW.Whole enc Tryd.prog Tryd.f12.params.toList Rows.fnExactShortenDiarySpec.vars false W args.toList ds gs before) (hL : laidMetH Tryd.prog Rows.fnExactShortenDiaryRow.laid W) (hS : W.ShapedOpen Tryd.prog) :
    Calls Tryd.prog 12 args W fun e W' => ∃ v, e = .returned v ∧ Rows.fnExactShortenDiarySpec.post enc Tryd.prog Tryd.f12 false true false false W args v W' := by
  have hW' := hW
  obtain ⟨p, q, hA0, hV, rfl, hfz, hnd⟩ := hW
  have hA : DataW.TrodAll enc Tryd.prog W 0 (fun _ => true) true Tryd.f12.params.toList args.toList ds p := hA0
  rw [Tryd.params12] at hA hval
  obtain ⟨v0, vs0, d0, ds0, p0, q0, hargs, rfl, rfl, h0, r0⟩ := trodAll_cons hA
  obtain ⟨rfl, rfl, rfl⟩ := trodAll_nil r0
  obtain rfl : args = #[v0] := by cases args; simp_all
  obtain ⟨rfl, rfl⟩ := trodVars_none hV
  obtain ⟨cs0, rfl, hsz0⟩ := okWide_struct Tryd.underlying39 (hval 0 _ v0 rfl rfl)
  obtain ⟨fuel0, h0⟩ := h0
  obtain ⟨x0, hr0⟩ := opens_diary h0
  obtain rfl : cs0 = #[.string x0.Safe, .string x0.Open] := Array.toList_inj.1 (by have h := hr0.1; simpa [Value.cells, Deep.rep, Flat.enc] using h)
  have ho0 := hr0.2
  refine (walk x0 W (env_of hL hS) ho0.1 ho0.2).mono fun e W' ⟨he, hb⟩ => ?_
  exact ⟨_, he, post_law laid_ Tryd.underlying4 rfl rfl (by kernel_rfl) ⟨rfl, rfl, rfl⟩ hW' hb⟩

set_option maxRecDepth 100000 in
theorem lifted_ (os : Os) (started : os.Started) (H : Type) (enc : TypeId × Value → H) :
    ReturnsInHanded {} Tryd.checked os 12 .any (fun w args => (Rows.fnExactShortenDiarySpec.pre enc Tryd.prog Tryd.f12 [] false w args ∧ laidMetH Tryd.prog Rows.fnExactShortenDiaryRow.laid w) ∧ sizedMet enc Tryd.prog Tryd.f12 (OpenSpec.ofChange Rows.fnExactShortenDiarySpec) false w args) (Rows.fnExactShortenDiarySpec.post enc Tryd.prog Tryd.f12 false true false false) := by
  refine of_change_and_shaped (C := Tryd.checked) (X := fun w _ => laidMetH Tryd.prog Rows.fnExactShortenDiaryRow.laid w) (fun _ _ _ hh h => h.of_heap hh) own_ started (by kernel_rfl) Tryd.func12
    (ChangeSpec.witness_shaped (enc := enc) (C := Tryd.checked) (os := os) (X := fun w _ => laidMetH Tryd.prog Rows.fnExactShortenDiaryRow.laid w) false (World.laidAll Tryd.prog os Rows.fnExactShortenDiaryRow.laid) #[.agg #[.string ByteArray.empty, .string ByteArray.empty]] 8 (World.laidAll_os _ _ _)
      (World.shaped_of_ZipB (by kernel_rfl) (by kernel_rfl)) (by kernel_rfl) (by kernel_rfl) (by kernel_rfl)
      (by rw [MakeChecks.laidMetH_plain _ _ _ (by kernel_rfl)]; exact laidMet_laidAll _ (by kernel_rfl) (by kernel_rfl))) ?_
  intro W base args ds gs before hval0 hW hL hS
  exact contract_ H enc W base args ds gs before hval0 hW hL hS

theorem said : Rows.FnExactShortenDiarySaid :=
  OpenClaim.holds_of_wide 12 Tryd.f12 rfl rfl rfl rfl rfl rfl rfl ⟨rfl, rfl, rfl, rfl, rfl⟩ rfl rfl rfl rfl rfl (by kernel_rfl) Tryd.func12 (by kernel_rfl)
    (of_decide_eq_true (by kernel_rfl)) (by unfold Func.isWrapper; first | (rw [if_pos (by decide +kernel)]; kernel_rfl) | (rw [if_neg (by decide +kernel)]; exact ⟨rfl, rfl⟩))
    (fun os started H enc _ => lifted_ os started H enc)
/-- No parameter wants a stand-in. -/
theorem plain (f : FuncId) (fn : Func) (hf : Tryd.pinned.checked.prog.funcNamed "loop.example/g01020/laws.FnExactShortenDiary" = some f) (hfn : Tryd.pinned.checked.prog.funcs[f]? = some fn) :
    true = Tryd.pinned.checked.prog.looks [] ∧ ∀ (j : Nat) t, fn.params[j]? = some t → Tryd.pinned.checked.prog.wantsStandIn t = false := by
  obtain rfl : f = 12 := Option.some.inj ((show Tryd.prog.funcNamed "loop.example/g01020/laws.FnExactShortenDiary" = some 12 by kernel_rfl).symm.trans hf) |>.symm
  obtain rfl : fn = Tryd.f12 := (Option.some.inj (Tryd.func12.symm.trans hfn)).symm
  refine ⟨by kernel_rfl, fun j t ht => ?_⟩
  have hall : (Tryd.f12.params.toList.all fun u => !Tryd.prog.wantsStandIn u) = true := by kernel_rfl
  have hm : t ∈ Tryd.f12.params.toList := by simpa using Array.mem_of_getElem? ht
  exact (show Tryd.prog.wantsStandIn t = false by simpa using List.all_eq_true.1 hall t hm)
theorem proved : Rows.FnExactShortenDiaryCardSaid :=
  Claim7.holds_tied_plain_at .later [] _ _ _ _ said (fun _ h => by cases h) (by kernel_rfl) (fun _ h => by cases h) fnExactShortenDiary_row_tie rfl ⟨rfl, rfl⟩ (by kernel_rfl) rfl plain (by kernel_rfl)

end Go.Proofs.YtjnplafphocmiaaDoor.lawShortenDiary
