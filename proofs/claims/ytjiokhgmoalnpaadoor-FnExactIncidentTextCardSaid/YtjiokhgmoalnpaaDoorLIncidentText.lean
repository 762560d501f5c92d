/-
  The law on IncidentText: it answers true at every input, and every argument reads as before. No conditions.
-/
import Derived.Test.YtjiokhgmoalnpaaDoorItxS
import Derived.Test.YtjiokhgmoalnpaaDoorItxI
import Derived.Test.YtjiokhgmoalnpaaDoorOpI
import Derived.Test.YtjiokhgmoalnpaaDoorLtEnv
import Derived.Test.YtjiokhgmoalnpaaDoorRows
import Derived.Test.YtjiokhgmoalnpaaDoorMem3
import Derived.Test.YtjiokhgmoalnpaaDoorCards
import Derived.Test.YtjiokhgmoalnpaaDoorTie
import Derived.Handed
import Derived.LaidLaws
import Derived.Lay
import Derived.SevenTiedAt
namespace Go.Proofs.YtjiokhgmoalnpaaDoor.lawIncidentText
open Go.RowKit

set_option maxRecDepth 100000 in
set_option maxHeartbeats 4000000 in
theorem walk (x0_Number : Int) (x0_Node : Int) (x0_Closed : Bool) (x0_Names : List ByteArray) (A0 : Option Addr) (n0 c0 : Nat) (w : World) (he : Tab w) (hn0 : (n0 : Int) ≤ 9223372036854775807) (hs0 : Sl w A0 n0 x0_Names) (hv0 : ∀ x, x ∈ x0_Names → x.size ≤ maxLen) :
    Calls Tryd.prog 4 #[.agg #[.int .i64 x0_Number, .int .i64 x0_Node, .bool x0_Closed, .slice A0 n0 c0]] w fun e w' => e = .returned (.bool true) ∧ Below w.heap.size w w' := by
  go_enter Tryd.func4, Tryd.ntmps4
  have hk0 := bl_refl w
  go_wp2_with fail
  refine (szIncident_any x0_Number x0_Node x0_Closed _ _ _ x0_Names _ _  hn0 (hs0.below (bl_trans hk0 (by repeat' (first | exact bl_refl _ | refine bl_alloc ?_ _ | refine bl_drew ?_ | refine bl_drewN ?_ _ | refine bl_set ?_ ?_ _ | (simp; done) | (simp; omega))))) hv0 (by omega) (by omega)).mono ?_
  rintro e V1 ⟨r0, rfl, hr0, hb1⟩
  have hB1 := bl_trans (a := w) (by repeat' (first | exact bl_refl _ | refine bl_alloc ?_ _ | refine bl_drew ?_ | refine bl_drewN ?_ _ | refine bl_set ?_ ?_ _ | (simp; done) | (simp; omega))) hb1
  have hk1 := bl_trans hk0 hB1
  have z1 : Hid (w.heap.size + 1 ≤ V1.heap.size) := by have := hb1.size; simp only [World.size_alloc] at this; exact (by omega : _)
  have ba0_0_1 : V1.cell? ⟨w.heap.size, 0, none⟩ = some (.int .i64 x0_Number) := cell_later hb1 (by go_simp)
  have ba0_1_1 : V1.cell? ⟨w.heap.size, 1, none⟩ = some (.int .i64 x0_Node) := cell_later hb1 (by go_simp)
  have ba0_2_1 : V1.cell? ⟨w.heap.size, 2, none⟩ = some (.bool x0_Closed) := cell_later hb1 (by go_simp)
  have ba0_3_1 : V1.cell? ⟨w.heap.size, 3, none⟩ = some (.slice A0 n0 c0) := cell_later hb1 (by go_simp)
  have la0_1 : w.heap.size < V1.heap.size := World.block_lt_of_cell? _ _ ba0_0_1
  clear hb1
  rcases hr0 with rfl | ⟨ha0, hc0, hp0⟩
  · go_wp2
    go_ret
    exact ⟨rfl, hk1⟩
  have hl0 : n0 ≤ 1048576 := by have := hp0; omega
  have hL0 : x0_Names.length ≤ 1048576 := by rw [hs0.1]; exact hl0
  clear hp0
  go_wp2_with fail
  refine (toIncident_any x0_Number x0_Node x0_Closed _ _ _ x0_Names _ hl0 (hs0.below hk1)).mono ?_
  rintro e V2 ⟨A_s0, c_s0, rfl, ho_s0, hb2⟩
  have hi_s0 := ho_s0.lies
  have Hi_s0 := Lib.hid hi_s0
  clear hi_s0
  have hB2 := bl_trans (a := V1) (bl_refl _) hb2
  have hk2 := bl_trans hk1 hB2
  have z2 := Lib.hid hB2.size
  have ba0_0_2 : V2.cell? ⟨w.heap.size, 0, none⟩ = some (.int .i64 x0_Number) := cell_later hB2 ba0_0_1
  have ba0_1_2 : V2.cell? ⟨w.heap.size, 1, none⟩ = some (.int .i64 x0_Node) := cell_later hB2 ba0_1_1
  have ba0_2_2 : V2.cell? ⟨w.heap.size, 2, none⟩ = some (.bool x0_Closed) := cell_later hB2 ba0_2_1
  have ba0_3_2 : V2.cell? ⟨w.heap.size, 3, none⟩ = some (.slice A0 n0 c0) := cell_later hB2 ba0_3_1
  have la0_2 : w.heap.size < V2.heap.size := World.block_lt_of_cell? _ _ ba0_0_2
  clear hk1 ba0_0_1 ba0_1_1 ba0_2_1 ba0_3_1 la0_1
  clear hb2
  go_wp2_with fail
  refine (specIncidentText_any _ _ _ _ _ _ _ _ (by omega) ho_s0.sl hv0).mono ?_
  rintro e V3 ⟨rfl, hb3⟩
  clear ho_s0 Hi_s0
  have hB3 := bl_trans (a := V2) (bl_refl _) hb3
  have hk3 := bl_trans hk2 hB3
  have z3 := Lib.hid hB3.size
  have ba0_0_3 : V3.cell? ⟨w.heap.size, 0, none⟩ = some (.int .i64 x0_Number) := cell_later hB3 ba0_0_2
  have ba0_1_3 : V3.cell? ⟨w.heap.size, 1, none⟩ = some (.int .i64 x0_Node) := cell_later hB3 ba0_1_2
  have ba0_2_3 : V3.cell? ⟨w.heap.size, 2, none⟩ = some (.bool x0_Closed) := cell_later hB3 ba0_2_2
  have ba0_3_3 : V3.cell? ⟨w.heap.size, 3, none⟩ = some (.slice A0 n0 c0) := cell_later hB3 ba0_3_2
  have la0_3 : w.heap.size < V3.heap.size := World.block_lt_of_cell? _ _ ba0_0_3
  clear hk2 ba0_0_2 ba0_1_2 ba0_2_2 ba0_3_2 la0_2
  clear hb3
  go_wp2_with fail
  refine (toIncident_any x0_Number x0_Node x0_Closed _ _ _ x0_Names _ hl0 (hs0.below hk3)).mono ?_
  rintro e V4 ⟨A_x0, c_x0, rfl, ho_x0, hb4⟩
  have hi_x0 := ho_x0.lies
  have Hi_x0 := Lib.hid hi_x0
  clear hi_x0
  have hB4 := bl_trans (a := V3) (bl_refl _) hb4
  have hk4 := bl_trans hk3 hB4
  have z4 := Lib.hid hB4.size
  have ba0_0_4 : V4.cell? ⟨w.heap.size, 0, none⟩ = some (.int .i64 x0_Number) := cell_later hB4 ba0_0_3
  have ba0_1_4 : V4.cell? ⟨w.heap.size, 1, none⟩ = some (.int .i64 x0_Node) := cell_later hB4 ba0_1_3
  have ba0_2_4 : V4.cell? ⟨w.heap.size, 2, none⟩ = some (.bool x0_Closed) := cell_later hB4 ba0_2_3
  have ba0_3_4 : V4.cell? ⟨w.heap.size, 3, none⟩ = some (.slice A0 n0 c0) := cell_later hB4 ba0_3_3
  have la0_4 : w.heap.size < V4.heap.size := World.block_lt_of_cell? _ _ ba0_0_4
  clear hk3 ba0_0_3 ba0_1_3 ba0_2_3 ba0_3_3 la0_3
  clear hb4
  go_wp2_with fail
  refine (implIncidentText_any _ _ _ _ _ _ _ _ (by omega) (ho_x0.sl.below (by repeat' (first | exact bl_refl _ | refine bl_alloc ?_ _ | refine bl_drew ?_ | refine bl_drewN ?_ _ | refine bl_set ?_ ?_ _ | (simp; done) | (simp; omega)))) hv0 (ho_x0.cap).1 (he.below (bl_trans hk4 (by repeat' (first | exact bl_refl _ | refine bl_alloc ?_ _ | refine bl_drew ?_ | refine bl_drewN ?_ _ | refine bl_set ?_ ?_ _ | (simp; done) | (simp; omega)))))).mono ?_
  rintro e V5 ⟨rfl, hb5⟩
  have hB5 := bl_trans (a := V4) (by repeat' (first | exact bl_refl _ | refine bl_alloc ?_ _ | refine bl_drew ?_ | refine bl_drewN ?_ _ | refine bl_set ?_ ?_ _ | (simp; done) | (simp; omega))) hb5
  have hk5 := bl_trans hk4 hB5
  have z5 : Hid (V4.heap.size + 1 ≤ V5.heap.size) := by have := hb5.size; simp only [World.size_alloc] at this; exact (by omega : _)
  have x0_5 := ho_x0.below hB5
  have ba0_0_5 : V5.cell? ⟨w.heap.size, 0, none⟩ = some (.int .i64 x0_Number) := cell_later hB5 ba0_0_4
  have ba0_1_5 : V5.cell? ⟨w.heap.size, 1, none⟩ = some (.int .i64 x0_Node) := cell_later hB5 ba0_1_4
  have ba0_2_5 : V5.cell? ⟨w.heap.size, 2, none⟩ = some (.bool x0_Closed) := cell_later hB5 ba0_2_4
  have ba0_3_5 : V5.cell? ⟨w.heap.size, 3, none⟩ = some (.slice A0 n0 c0) := cell_later hB5 ba0_3_4
  have la0_5 : w.heap.size < V5.heap.size := World.block_lt_of_cell? _ _ ba0_0_5
  have bx0_0_5 : V5.cell? ⟨V4.heap.size, 0, none⟩ = some (.int .i64 x0_Number) := cell_later hb5 (by go_simp)
  have bx0_1_5 : V5.cell? ⟨V4.heap.size, 1, none⟩ = some (.int .i64 x0_Node) := cell_later hb5 (by go_simp)
  have bx0_2_5 : V5.cell? ⟨V4.heap.size, 2, none⟩ = some (.bool x0_Closed) := cell_later hb5 (by go_simp)
  have bx0_3_5 : V5.cell? ⟨V4.heap.size, 3, none⟩ = some (.slice A_x0 x0_Names.length c_x0) := cell_later hb5 (by go_simp)
  have lx0_5 : V4.heap.size < V5.heap.size := World.block_lt_of_cell? _ _ bx0_0_5
  clear hk4 ho_x0 ba0_0_4 ba0_1_4 ba0_2_4 ba0_3_4 la0_4
  clear hb5
  have hD7 := bl_drew (bl_refl V5)
  go_wp2_with fail
  go_region_held3 (fun w' => w'.cell? ⟨V4.heap.size, 0, none⟩ = some (.int .i64 x0_Number) ∧ w'.cell? ⟨V4.heap.size, 1, none⟩ = some (.int .i64 x0_Node) ∧ w'.cell? ⟨V4.heap.size, 2, none⟩ = some (.bool x0_Closed) ∧ w'.cell? ⟨V4.heap.size, 3, none⟩ = some (.slice A_x0 x0_Names.length c_x0) ∧ w'.cell? ⟨w.heap.size, 0, none⟩ = some (.int .i64 x0_Number) ∧ w'.cell? ⟨w.heap.size, 1, none⟩ = some (.int .i64 x0_Node) ∧ w'.cell? ⟨w.heap.size, 2, none⟩ = some (.bool x0_Closed) ∧ w'.cell? ⟨w.heap.size, 3, none⟩ = some (.slice A0 n0 c0) ∧ Below V5.heap.size V5 w') (first | exact ⟨cell_later hE7 bx0_0_5, cell_later hE7 bx0_1_5, cell_later hE7 bx0_2_5, cell_later hE7 bx0_3_5, cell_later hE7 ba0_0_5, cell_later hE7 ba0_1_5, cell_later hE7 ba0_2_5, cell_later hE7 ba0_3_5, hE7⟩ | exact ⟨cell_later hE6 bx0_0_5, cell_later hE6 bx0_1_5, cell_later hE6 bx0_2_5, cell_later hE6 bx0_3_5, cell_later hE6 ba0_0_5, cell_later hE6 ba0_1_5, cell_later hE6 ba0_2_5, cell_later hE6 ba0_3_5, hE6⟩ | exact ⟨cell_later hD7 bx0_0_5, cell_later hD7 bx0_1_5, cell_later hD7 bx0_2_5, cell_later hD7 bx0_3_5, cell_later hD7 ba0_0_5, cell_later hD7 ba0_1_5, cell_later hD7 ba0_2_5, cell_later hD7 ba0_3_5, hD7⟩) (first | (go_at_call 14; refine (toIncident_any x0_Number x0_Node x0_Closed _ _ _ x0_Names _ hl0 (hs0.below (bl_trans hk5 hD7))).mono ?_; rintro e V6 ⟨A_y0, c_y0, rfl, ho_y0, hb6⟩; have hE6 := bl_trans hD7 hb6) | (go_at_call 16; refine (eqIncident_any _ _ _ _ _ _ _ _ _ _ _ _ _ _ _ (by omega) (x0_5.sl.below hE6) ho_y0.sl).mono ?_; rintro e V7 ⟨rfl, hb7⟩; have hE7 := bl_trans hE6 hb7))
  rw [sameB_refl]
  have hb7 := hE7
  clear hD7 hE6 hb6 ho_y0
  have hB7 := bl_trans (a := V5) (bl_refl _) hb7
  have hk7 := bl_trans hk5 hB7
  have z7 := Lib.hid hB7.size
  have x0_7 := x0_5.below hB7
  have ba0_0_7 : V7.cell? ⟨w.heap.size, 0, none⟩ = some (.int .i64 x0_Number) := cell_later hB7 ba0_0_5
  have ba0_1_7 : V7.cell? ⟨w.heap.size, 1, none⟩ = some (.int .i64 x0_Node) := cell_later hB7 ba0_1_5
  have ba0_2_7 : V7.cell? ⟨w.heap.size, 2, none⟩ = some (.bool x0_Closed) := cell_later hB7 ba0_2_5
  have ba0_3_7 : V7.cell? ⟨w.heap.size, 3, none⟩ = some (.slice A0 n0 c0) := cell_later hB7 ba0_3_5
  have la0_7 : w.heap.size < V7.heap.size := World.block_lt_of_cell? _ _ ba0_0_7
  have bx0_0_7 : V7.cell? ⟨V4.heap.size, 0, none⟩ = some (.int .i64 x0_Number) := cell_later hB7 bx0_0_5
  have bx0_1_7 : V7.cell? ⟨V4.heap.size, 1, none⟩ = some (.int .i64 x0_Node) := cell_later hB7 bx0_1_5
  have bx0_2_7 : V7.cell? ⟨V4.heap.size, 2, none⟩ = some (.bool x0_Closed) := cell_later hB7 bx0_2_5
  have bx0_3_7 : V7.cell? ⟨V4.heap.size, 3, none⟩ = some (.slice A_x0 x0_Names.length c_x0) := cell_later hB7 bx0_3_5
  have lx0_7 : V4.heap.size < V7.heap.size := World.block_lt_of_cell? _ _ bx0_0_7
  clear hk5 x0_5 ba0_0_5 ba0_1_5 ba0_2_5 ba0_3_5 la0_5 bx0_0_5 bx0_1_5 bx0_2_5 bx0_3_5 lx0_5
  clear hb7
  clear x0_7 Hi_x0 bx0_0_7 bx0_1_7 bx0_2_7 bx0_3_7 lx0_7
  go_wp2
  go_ret
  exact ⟨rfl, hk7⟩

open Go.WideShapes Go.ChangeShapes Go.ChangeAt
theorem own_ : ownKnob Tryd.prog.godebug = none := by kernel_rfl
theorem laid_ : laidOutB Tryd.prog = true := by kernel_rfl
theorem of_change_and_shaped {H : Type} {enc : TypeId × Value → H} {a : Assume} {C : Checked} {os : Os} {f : FuncId} {fn : Func} {s : ChangeSpec} {conds : List PathCond} {apart fresh handsOn again : Bool} {X : World → Array Value → Prop}
    (hX : ∀ (w w' : World) (args : Array Value), w.heap = w'.heap → X w args → X w' args)
    (own : ownKnob C.prog.godebug = none) (started : os.Started) (noInit : C.prog.inits.idxOf? f = none) (hfn : C.prog.funcs[f]? = some fn)
    (witness : ∃ (w : World) (tape : Tape) (i : Input), w.os = os ∧ (w.forCall tape i).Shaped C.prog ∧ i.vars = [] ∧ Input.okWide C.prog (w.forCall tape i) .any w.heap.size f i ∧
      ((s.pre enc C.prog fn conds apart (w.forCall tape i).memory i.args ∧ X (w.forCall tape i).memory i.args) ∧ sizedMet enc C.prog fn (OpenSpec.ofChange s) apart (w.forCall tape i).memory i.args) ∧ a.holds C.prog (lone (Frame.enter C.prog f i.args .normal) [] (w.forCall tape i)))
    (contract : ∀ (W : World) (base : Nat) (args : Array Value) (ds gs : List (DataW H)) (before : List MemPlace),
      (∀ (j : Nat) t v, fn.params[j]? = some t → args[j]? = some v → Value.okWide C.prog W .any base t v) →
      DataW.Whole enc C.prog fn.params.toList s.vars apart W args.toList ds gs before → X W args → W.ShapedOpen C.prog →
      Calls C.prog f args W fun e W' => ∃ v, e = .returned v ∧ s.post enc C.prog fn apart fresh handsOn again W args v W') :
    ReturnsInHanded a C os f .any (fun w args => (s.pre enc C.prog fn conds apart w args ∧ X w args) ∧ sizedMet enc C.prog fn (OpenSpec.ofChange s) apart w args) (s.post enc C.prog fn apart fresh handsOn again) := by
  refine returnsInHanded_of_calls own started noInit witness ?_
  intro w tape i _ hsh _ hok hpre hholds
  obtain ⟨_, _, _, fn', hfn', _, _, _, _, hval⟩ := hok
  have e : fn' = fn := Option.some.inj (hfn'.symm.trans hfn)
  subst e
  obtain ⟨⟨⟨ds, gs, before, hw, _⟩, hx⟩, _⟩ := hpre
  have hw' := DataW.Whole.of_heap (w' := w.forCall tape i) (by rfl) hw
  refine (contract (w.forCall tape i) w.heap.size i.args ds gs before hval hw' (hX _ _ _ (by rfl) hx) hsh).mono fun e W' ⟨v, he, hp⟩ => ?_
  subst he
  exact ChangeSpec.post_blind hp
set_option maxRecDepth 100000 in
theorem contract_ (H : Type) (enc : TypeId × Value → H) (W : World) (base : Nat) (args : Array Value) (ds gs : List (DataW H)) (before : List MemPlace)
    (hval : ∀ (j : Nat) t v, Tryd.f4.params[j]? = some t → args[j]? = some v → Value.okWide Tryd.prog W .any base t v)
    (hW : DataW.Whole enc Tryd.prog Tryd.f4.params.toList Rows.fnExactIncidentTextSpec.vars false W args.toList ds gs before) (hL : laidMetH Tryd.prog Rows.fnExactIncidentTextRow.laid W) (_hS : W.ShapedOpen Tryd.prog) :
    Calls Tryd.prog 4 args W fun e W' => ∃ v, e = .returned v ∧ Rows.fnExactIncidentTextSpec.post enc Tryd.prog Tryd.f4 false true false false W args v W' := by
  have hW' := hW
  obtain ⟨p, q, hA0, hV, rfl, hfz, hnd⟩ := hW
  have hA : DataW.TrodAll enc Tryd.prog W 0 (fun _ => true) true Tryd.f4.params.toList args.toList ds p := hA0
  rw [Tryd.params4] at hA hval
  obtain ⟨v0, vs0, d0, ds0, p0, q0, hargs, rfl, rfl, h0, r0⟩ := trodAll_cons hA
  obtain ⟨rfl, rfl, rfl⟩ := trodAll_nil r0
  obtain rfl : args = #[v0] := by cases args; simp_all
  obtain ⟨rfl, rfl⟩ := trodVars_none hV
  obtain ⟨cs0, rfl, hsz0⟩ := okWide_struct Tryd.underlying32 (hval 0 _ v0 rfl rfl)
  obtain ⟨fuel0, h0⟩ := h0
  obtain ⟨x0, hr0⟩ := opens_incident h0
  obtain ⟨A0, c0, e0, hs0, hm0⟩ := hr0.1
  obtain rfl : cs0 = #[.int .i64 x0.Number, .int .i64 x0.Node, .bool x0.Closed, .slice A0 x0.Names.length c0] := Array.toList_inj.1 (by simpa [Value.cells] using e0)
  have ho0 := hr0.2
  have hm0 : (x0.Names.length : Int) ≤ 9223372036854775807 := by unfold maxLen at hm0; omega
  refine (walk x0.Number x0.Node x0.Closed x0.Names A0 _ c0 W (tab_of hL) hm0 hs0 ho0.2.2.2).mono fun e W' ⟨he, hb⟩ => ?_
  exact ⟨_, he, post_law laid_ Tryd.underlying4 rfl rfl (by kernel_rfl) ⟨rfl, rfl, rfl⟩ hW' hb⟩

set_option maxRecDepth 100000 in
theorem lifted_ (os : Os) (started : os.Started) (H : Type) (enc : TypeId × Value → H) :
    ReturnsInHanded {} Tryd.checked os 4 .any (fun w args => (Rows.fnExactIncidentTextSpec.pre enc Tryd.prog Tryd.f4 [] false w args ∧ laidMetH Tryd.prog Rows.fnExactIncidentTextRow.laid w) ∧ sizedMet enc Tryd.prog Tryd.f4 (OpenSpec.ofChange Rows.fnExactIncidentTextSpec) false w args) (Rows.fnExactIncidentTextSpec.post enc Tryd.prog Tryd.f4 false true false false) := by
  refine of_change_and_shaped (C := Tryd.checked) (X := fun w _ => laidMetH Tryd.prog Rows.fnExactIncidentTextRow.laid w) (fun _ _ _ hh h => h.of_heap hh) own_ started (by kernel_rfl) Tryd.func4
    (ChangeSpec.witness_shaped (enc := enc) (C := Tryd.checked) (os := os) (X := fun w _ => laidMetH Tryd.prog Rows.fnExactIncidentTextRow.laid w) false (World.laidAll Tryd.prog os Rows.fnExactIncidentTextRow.laid) #[.agg #[.int .i64 0, .int .i64 0, .bool false, .slice none 0 0]] 8 (World.laidAll_os _ _ _)
      (World.shaped_of_ZipB (by kernel_rfl) (by kernel_rfl)) (by kernel_rfl) (by kernel_rfl) (by kernel_rfl)
      (by rw [MakeChecks.laidMetH_plain _ _ _ (by kernel_rfl)]; exact laidMet_laidAll _ (by kernel_rfl) (by kernel_rfl))) ?_
  intro W base args ds gs before hval0 hW hL hS
  exact contract_ H enc W base args ds gs before hval0 hW hL hS

theorem said : Rows.FnExactIncidentTextSaid :=
  OpenClaim.holds_of_wide 4 Tryd.f4 rfl rfl rfl rfl rfl rfl rfl ⟨rfl, rfl, rfl, rfl, rfl⟩ rfl rfl rfl rfl rfl (by kernel_rfl) Tryd.func4 (by kernel_rfl)
    (of_decide_eq_true (by kernel_rfl)) (by unfold Func.isWrapper; first | (rw [if_pos (by decide +kernel)]; kernel_rfl) | (rw [if_neg (by decide +kernel)]; exact ⟨rfl, rfl⟩))
    (fun os started H enc _ => lifted_ os started H enc)
/-- No parameter wants a stand-in. -/
theorem plain (f : FuncId) (fn : Func) (hf : Tryd.pinned.checked.prog.funcNamed "loop.example/g01020/laws.FnExactIncidentText" = some f) (hfn : Tryd.pinned.checked.prog.funcs[f]? = some fn) :
    true = Tryd.pinned.checked.prog.looks [] ∧ ∀ (j : Nat) t, fn.params[j]? = some t → Tryd.pinned.checked.prog.wantsStandIn t = false := by
  obtain rfl : f = 4 := Option.some.inj ((show Tryd.prog.funcNamed "loop.example/g01020/laws.FnExactIncidentText" = some 4 by kernel_rfl).symm.trans hf) |>.symm
  obtain rfl : fn = Tryd.f4 := (Option.some.inj (Tryd.func4.symm.trans hfn)).symm
  refine ⟨by kernel_rfl, fun j t ht => ?_⟩
  have hall : (Tryd.f4.params.toList.all fun u => !Tryd.prog.wantsStandIn u) = true := by kernel_rfl
  have hm : t ∈ Tryd.f4.params.toList := by simpa using Array.mem_of_getElem? ht
  exact (show Tryd.prog.wantsStandIn t = false by simpa using List.all_eq_true.1 hall t hm)
theorem proved : Rows.FnExactIncidentTextCardSaid :=
  Claim7.holds_tied_plain_at .later [] _ _ _ _ said (fun _ h => by cases h) (by kernel_rfl) (fun _ h => by cases h) fnExactIncidentText_row_tie rfl ⟨rfl, rfl⟩ (by kernel_rfl) rfl plain (by kernel_rfl)

end Go.Proofs.YtjiokhgmoalnpaaDoor.lawIncidentText
