/-
  Incidents drawn for the laws, one of them. No conditions.
-/
import Derived.Test.YtpdblmcflniomaaGreatDoorIv27
import Derived.Test.YtpdblmcflniomaaGreatDoorIv22
import Derived.Test.YtpdblmcflniomaaGreatDoorIv2
namespace Go.Proofs.YtpdblmcflniomaaGreatDoor
open Go.RowKit

/-- a struct of the list, with its own slice -/
theorem OwnX.inc {w : World} {base : Nat} {E E' : TypeId} {A : Option Addr} {n c : Nat} {xs : List Incident} {F : List Nat} (h : OwnX incidentN w base E E' (.slice A n c) xs F) {k : Nat} (hk : k < n) :
    ∃ b o A' c', A = some ⟨b, o, none⟩ ∧ b < w.heap.size ∧ w.cell? ⟨b, o + k * 4, none⟩ = some (.int .i64 (nth xs k).Number) ∧ w.cell? ⟨b, o + k * 4 + 1, none⟩ = some (.int .i64 (nth xs k).Node) ∧ w.cell? ⟨b, o + k * 4 + 2, none⟩ = some (.bool (nth xs k).Closed) ∧
      w.cell? ⟨b, o + k * 4 + 3, none⟩ = some (.slice A' (nth xs k).Names.length c') ∧ Own w base E' (.slice A' (nth xs k).Names.length c') (nth xs k).Names := by
  obtain ⟨ps, hps, _, hp⟩ := h
  have hs := hp.out.sl
  have hl : ps.length = n := by have := hs.1; rwa [List.length_map] at this
  have hk2 : k < ps.length := by omega
  have hi := hp.inn k ps[k] (List.getElem?_eq_getElem hk2)
  have e1 : nth (ps.map Prod.fst) k = ps[k].1 := nth_get (by rw [List.getElem?_map, List.getElem?_eq_getElem hk2]; rfl)
  have e2 : nth xs k = incidentN.of ps[k].1 ps[k].2 := by
    rw [← hps]; unfold Nest.plain
    exact nth_get (by rw [List.getElem?_map, List.getElem?_eq_getElem hk2]; rfl)
  have hl2 : ps[k].2.length = ps[k].1.n := hi.sl.1
  obtain ⟨b, o, rfl, hc⟩ := hs.flat hk
  rw [e1] at hc
  rw [e2]
  refine ⟨b, o, ps[k].1.A, ps[k].1.c, rfl, hs.lt hk, hc 0 _ rfl, hc 1 _ rfl, hc 2 _ rfl, ?_, ?_⟩
  · have := hc 3 _ rfl
    show World.cell? w ⟨b, o + k * 4 + 3, none⟩ = some (.slice ps[k].1.A ps[k].2.length ps[k].1.c)
    rw [hl2]; exact this
  · show Own w base E' (.slice ps[k].1.A ps[k].2.length ps[k].1.c) ps[k].2
    rw [hl2]; exact hi
/-- an incident that was drawn -/
def DrawnX (w : World) (e : Ending) (w' : World) : Prop := ∃ (x : Incident) (A : Option Addr) (c : Nat), e = .returned (.agg #[.int .i64 x.Number, .int .i64 x.Node, .bool x.Closed, .slice A x.Names.length c]) ∧ x.Names.length ≤ 13 ∧ (∀ y, y ∈ x.Names → y.size ≤ 7) ∧ Own w' w.heap.size 9 (.slice A x.Names.length c) x.Names ∧ Below w.heap.size w w'
theorem upon_eq {d : Tmp} {P : Program} {o : Oper} {a : Act} {K : Act → World → Prop} {Q : Exit → Act → World → Prop} {r r' : Result Next} (_ : o.dst = some d) (h : r = r') (k : Oper.upon P o a K Q r') : Oper.upon P o a K Q r := by rw [h]; exact k
def lenAt (b : Nat) (w : World) : Nat := match w.cell? ⟨b, 3, none⟩ with | some (.slice _ q _) => 14 - q | _ => 0
theorem lenAt_eq {w : World} {b q c : Nat} {A : Option Addr} (h : w.cell? ⟨b, 3, none⟩ = some (.slice A q c)) : lenAt b w = 14 - q := by unfold lenAt; rw [h]
/-- a struct variable of four cells, not frozen -/
structure Box4 (w : World) (b : Nat) (v0 v1 v2 v3 : Value) : Prop where
  c0 : w.cell? ⟨b, 0, none⟩ = some v0
  c1 : w.cell? ⟨b, 1, none⟩ = some v1
  c2 : w.cell? ⟨b, 2, none⟩ = some v2
  c3 : w.cell? ⟨b, 3, none⟩ = some v3
  f0 : w.frozen? ⟨b, 0, none⟩ = false
  f1 : w.frozen? ⟨b, 1, none⟩ = false
  f2 : w.frozen? ⟨b, 2, none⟩ = false
  f3 : w.frozen? ⟨b, 3, none⟩ = false
theorem Box4.lt {w : World} {b : Nat} {v0 v1 v2 v3 : Value} (h : Box4 w b v0 v1 v2 v3) : b < w.heap.size := World.block_lt_of_cell? _ _ h.c0
theorem Box4.only {w w' : World} {b : Nat} {v0 v1 v2 v3 : Value} (h : Box4 w b v0 v1 v2 v3) {F : List Nat} (hf : OnlyF F w w') (hb : b ∉ F) : Box4 w' b v0 v1 v2 v3 :=
  ⟨hf.keeps h.c0 hb, hf.keeps h.c1 hb, hf.keeps h.c2 hb, hf.keeps h.c3 hb, (hf.frozen h.lt hb).trans h.f0, (hf.frozen h.lt hb).trans h.f1, (hf.frozen h.lt hb).trans h.f2, (hf.frozen h.lt hb).trans h.f3⟩
theorem Own.notin {α : Type} [Flat α] {w : World} {base : Nat} {E : TypeId} {v : Value} {xs : List α} (h : Own w base E v xs) {b : Nat} (hb : b < base) : b ∉ v.ownBlock.toList := fun hm => by have := (h.lies b hm).1; omega
theorem OnlyF.of_gbl {w w' : World} {v : Value} (h : w.grownBy w' v.ownBlock) : OnlyF v.ownBlock.toList w w' := OnlyF.of_gb h
set_option maxRecDepth 100000 in
set_option maxHeartbeats 8000000 in
theorem drawIs_any (A : Option Addr) (n c : Nat) (cs : List Byt) (w : World) (hcode : CodeIs w A n cs) :
    Calls Tryz.prog 58 #[.slice A n c] w fun e w' => DrawnX w e w' := by
  go_enter Tryz.func58, Tryz.ntmps58
  go_wp2_with fail
  refine (incidents_any (w.heap.size + 1) 0 _ ((hcode.below (bl_alloc (bl_refl _) _)).cur (by simp)) (by omega)).mono ?_
  rintro e V1 ⟨xs, A', c', F, rfl, hl, hsm, ho1, hc1, hf1⟩
  have hr1 : Box4 V1 w.heap.size (.int .i64 0) (.int .i64 0) (.bool false) (.slice none 0 0) := Box4.only (w := (w.alloc _).alloc _) (by refine ⟨?_, ?_, ?_, ?_, ?_, ?_, ?_, ?_⟩ <;> go_simp) hf1 (by simp only [List.mem_singleton]; omega)
  have hk1 : Below w.heap.size w V1 := below_only (by repeat' (first | exact bl_refl _ | refine bl_alloc ?_ _)) hf1 (lies1 (w.heap.size + 1)) (by omega)
  replace ho1 := ho1.mono (b := w.heap.size + 2) (by simp only [World.size_alloc]; omega)
  clear hf1
  obtain ⟨m, hm⟩ : ∃ m, xs.length = m := ⟨_, rfl⟩
  rw [hm] at hl ho1 ⊢
  have HM := Lib.hid hm
  clear hm
  have lg1 := hc1.lt
  by_cases hm0 : m = 0
  · subst hm0
    obtain ⟨rc0, rc1, rc2, rc3, rf0, rf1, rf2, rf3⟩ := hr1
    go_wp2_with fail
    refine (pick_any (w.heap.size + 1) _ 3 _ hc1 (by omega) (by omega)).mono ?_
    rintro e V2 ⟨q, rfl, hq, hc2, hf2⟩
    clear hq
    have hr2 := Box4.only (b := w.heap.size) ⟨rc0, rc1, rc2, rc3, rf0, rf1, rf2, rf3⟩ hf2 (by simp only [List.mem_singleton]; omega)
    have hk2 : Below w.heap.size w V2 := below_only hk1 hf2 (lies1 (w.heap.size + 1)) (by omega)
    clear rc0 rc1 rc2 rc3 rf0 rf1 rf2 rf3
    obtain ⟨rc0, rc1, rc2, rc3, rf0, rf1, rf2, rf3⟩ := hr2
    have lr2 : w.heap.size < V2.heap.size := World.block_lt_of_cell? _ _ rc0
    go_wp2
    refine bodyPost_ret (v := .agg #[.int .i64 q, .int .i64 0, .bool false, .slice none 0 0]) (by simp [results, Tryz.results58, go_sem, rc0, rc1, rc2, rc3]; try rfl) rfl ?_
    exact ⟨⟨q, 0, false, []⟩, none, 0, rfl, by simp, (fun y hy => by cases hy), Own.nil _ _ _, by repeat' (first | exact hk2 | refine bl_set ?_ (Nat.le_refl _) _)⟩
  · have hmd : decide ((m : Int) = 0) = false := decide_eq_false (by omega)
    have hmd2 : ((m : Int) == 0) = false := by simpa using hm0
    go_wp2_with fail
    refine (pick_any (w.heap.size + 1) _ (m : Int) _ hc1 (by omega) (by omega)).mono ?_
    rintro e V2 ⟨q, rfl, hq, hc2, hf2⟩
    have ho2 := ho1.only hf2 (fun k hk hm => by have := (ho1.lies k hk).1; have := List.mem_singleton.1 hm; omega)
    obtain ⟨q, rfl⟩ := Int.eq_ofNat_of_zero_le hq.1
    have hqm : q < m := by have := hq.2 (by omega); omega
    have hqd : (q : Int) < m := by omega
    clear hq
    have hyl := Lib.hid (hsm _ (nth_mem (xs := xs) (k := q) (by rw [HM.out]; exact hqm)))
    obtain ⟨b, o, Ay, cy, rfl, hbz, d0, d1, d2, d3, hoy⟩ := ho2.inc hqm
    obtain ⟨y, hy⟩ : ∃ y, y = nth xs q := ⟨_, rfl⟩
    rw [← hy] at d0 d1 d2 d3 hoy hyl
    clear hy ho1 ho2 hsm
    have hr2 := hr1.only hf2 (by simp only [List.mem_singleton]; omega)
    have hk2 : Below w.heap.size w V2 := below_only hk1 hf2 (lies1 (w.heap.size + 1)) (by omega)
    have lr2 := hr2.lt
    have lg2 := hc2.lt
    clear hk1 hf2 hc1 hr1 lg1 hmd hmd2 hm0
    go_wp2_with fail
    refine (one_any (w.heap.size + 1) _ 20 _ (hc2.below (bl_alloc (bl_refl _) _)) (by omega) (by omega)).mono ?_
    rintro e V3 ⟨bb, rfl, hc3, hf3⟩
    have hf3' := (OnlyF.below (bl_alloc (bl_refl V2) (.cells #[.int .i64 y.Number, .int .i64 y.Node, .bool y.Closed, .slice Ay y.Names.length cy] 32))).trans hf3
    have hr3 := hr2.only hf3' (by simp only [List.mem_singleton]; omega)
    have hx3 : Box4 V3 V2.heap.size (.int .i64 y.Number) (.int .i64 y.Node) (.bool y.Closed) (.slice Ay y.Names.length cy) := Box4.only (w := V2.alloc _) (by refine ⟨?_, ?_, ?_, ?_, ?_, ?_, ?_, ?_⟩ <;> go_simp) hf3 (by simp only [List.mem_singleton]; omega)
    have hoy3 := Own.onlyF hoy hf3' (by omega)
    have hk3 : Below w.heap.size w V3 := below_only hk2 hf3' (lies1 (w.heap.size + 1)) (by omega)
    have lx3 := hx3.lt
    have lg3 := hc3.lt
    have lr3 := hr3.lt
    clear hr2 hk2 hc2 hf3 hf3' d0 d1 d2 d3 hoy hbz
    cases bb
    · obtain ⟨rc0, rc1, rc2, rc3, rf0, rf1, rf2, rf3⟩ := hr3
      obtain ⟨xc0, xc1, xc2, xc3, xf0, xf1, xf2, xf3⟩ := hx3
      go_wp2
      refine bodyPost_ret (v := .agg #[.int .i64 y.Number, .int .i64 y.Node, .bool y.Closed, .slice Ay y.Names.length cy]) (by simp [results, Tryz.results58, go_sem, rc0, rc1, rc2, rc3]; try rfl) rfl ?_
      skip
      exact ⟨⟨y.Number, y.Node, y.Closed, y.Names⟩, Ay, cy, rfl, Nat.le_trans hyl.out.1 (by decide), (fun z hz => hyl.out.2 z hz), (Own.onlyF (g := w.heap.size) hoy3 (by repeat' (first | exact OnlyF.refl _ _ | refine OnlyF.set ?_ (List.mem_singleton.2 rfl) _)) (by omega)).mono (by omega), by repeat' (first | exact hk3 | refine bl_set ?_ (Nat.le_refl _) _)⟩
    · clear hoy3
      obtain ⟨rc0, rc1, rc2, rc3, rf0, rf1, rf2, rf3⟩ := hr3
      obtain ⟨xc0, xc1, xc2, xc3, xf0, xf1, xf2, xf3⟩ := hx3
      go_wp2_with fail
      refine (pick_any (w.heap.size + 1) _ 2 _ (hc3.onlyF (F := [V2.heap.size]) (by repeat' (first | exact OnlyF.refl _ _ | refine OnlyF.set ?_ (List.mem_singleton.2 rfl) _)) (fun j hj => by rw [List.mem_singleton.1 hj]; omega)) (by omega) (by omega)).mono ?_
      rintro e V4 ⟨q2, rfl, hq2, hc4, hf4⟩
      have hxs : OnlyF [V2.heap.size] V3 (V3.setCell ⟨V2.heap.size, 3, none⟩ (.slice none 0 0)) := (OnlyF.refl _ _).set (List.mem_singleton.2 rfl) _
      have hr4 := (Box4.only (b := w.heap.size) ⟨rc0, rc1, rc2, rc3, rf0, rf1, rf2, rf3⟩ hxs (by simp only [List.mem_singleton]; omega)).only hf4 (by simp only [List.mem_singleton]; omega)
      have hx4 : Box4 V4 V2.heap.size (.int .i64 y.Number) (.int .i64 y.Node) (.bool y.Closed) (.slice none 0 0) := Box4.only (w := V3.setCell ⟨V2.heap.size, 3, none⟩ (.slice none 0 0)) (by refine ⟨?_, ?_, ?_, ?_, ?_, ?_, ?_, ?_⟩ <;> go_simp) hf4 (by simp only [List.mem_singleton]; omega)
      have hk4 : Below w.heap.size w V4 := below_only (bl_set hk3 (by simp only []; omega) _) hf4 (lies1 (w.heap.size + 1)) (by omega)
      clear rc0 rc1 rc2 rc3 rf0 rf1 rf2 rf3 xc0 xc1 xc2 xc3 xf0 xf1 xf2 xf3 hk3 hf4 hxs hc3
      obtain ⟨q2, rfl⟩ := Int.eq_ofNat_of_zero_le hq2.1
      have hq22 : q2 < 2 := by have := hq2.2 (by omega); omega
      clear hq2
      have lg4 := hc4.lt
      have lx4 := hx4.lt
      have lr4 := hr4.lt
      have hw0 : IntKind.i64.wrap (12 + (q2 : Int)) = ((12 + q2 : Nat) : Int) := by rw [IntWalk.i64_in _ (by omega)]; omega
      obtain ⟨nn, hnn⟩ : ∃ nn, 12 + q2 = nn := ⟨_, rfl⟩
      rw [hnn] at hw0
      have hn13 : nn ≤ 13 := by omega
      clear hnn
      go_wp2
      go_loopw [] (fun wr => ∃ (ns : List ByteArray) (A : Option Addr) (k c : Nat), Hid (ns.length = k) ∧ k ≤ nn ∧ Hid (∀ z, z ∈ ns → z.size ≤ 7) ∧ Own wr (V2.heap.size + 1) 9 (.slice A k c) ns ∧ Box4 wr w.heap.size (.int .i64 0) (.int .i64 0) (.bool false) (.slice none 0 0) ∧ Box4 wr V2.heap.size (.int .i64 y.Number) (.int .i64 y.Node) (.bool y.Closed) (.slice A k c) ∧ Below w.heap.size w wr) (lenAt V2.heap.size)
      case atStart => exact ⟨[], none, 0, 0, rfl, by omega, (fun z hz => by cases hz), Own.nil _ _ _, hr4, hx4, hk4⟩
      case round =>
        obtain ⟨ns, A, k, c, hnl, hkn, hsz, ho, hr, hx, hb⟩ := hrel
        clear hr4 hx4 hk4 hc4 lg4 lx4 lr4
        have lxr := hx.lt
        have lrr := hr.lt
        have hoc := Lib.hid ho.cap
        have HX0 := Lib.hid hx
        obtain ⟨xc0, xc1, xc2, xc3, xf0, xf1, xf2, xf3⟩ := hx
        by_cases hlt : k < nn
        · have hkd : (k : Int) < nn := by omega
          have hkb : decide (k < nn) = true := decide_eq_true hlt
          have w2 : IntKind.i64.wrap ((k : Int) + 1) = ((k + 1 : Nat) : Int) := by rw [IntWalk.i64_in _ (by omega)]; omega
          have hs5 : (⟨#[97, 98, 99, 100, 101, 102, 103, 104, 105, 106, 107, 108, 109]⟩ : ByteArray).size = 13 := rfl
          have hsz1 : ((⟨#[97, 98, 99, 100, 101, 102, 103, 104, 105, 106, 107, 108, 109]⟩ : ByteArray).extract k (k + 1)).size = 1 := by rw [ByteArray.size_extract, hs5]; omega
          have b1 : k ≤ k + 1 := by omega
          have b2 : k + 1 ≤ 13 := by omega
          have hs1 : (⟨#[112]⟩ : ByteArray).size = 1 := rfl
          have a1 : ¬ (9223372036854775807 < (⟨#[112]⟩ : ByteArray).size + ((⟨#[97, 98, 99, 100, 101, 102, 103, 104, 105, 106, 107, 108, 109]⟩ : ByteArray).extract k (k + 1)).size) := by omega
          have HKN := Lib.hid (show k + 1 ≤ nn by omega)
          go_upto_region 10 with fail
          have hps : ((⟨#[112]⟩ : ByteArray) ++ (⟨#[97, 98, 99, 100, 101, 102, 103, 104, 105, 106, 107, 108, 109]⟩ : ByteArray).extract k (k + 1)).size ≤ 7 := by rw [ByteArray.size_append]; omega
          obtain ⟨A2, c2, V5, hr5, ho5, hg5⟩ := run_appN (P := Tryz.prog) 30 30 9 el_str (base := V2.heap.size + 1) (w := (wr.alloc (.cells #[.string ((⟨#[112]⟩ : ByteArray) ++ (⟨#[97, 98, 99, 100, 101, 102, 103, 104, 105, 106, 107, 108, 109]⟩ : ByteArray).extract k (k + 1))] 9)).drew) (A := A) (n := k) (c := c) (xs := ns) (B := some ⟨wr.heap.size, 0, none⟩) (m := 1) (d := 1) (ys := [((⟨#[112]⟩ : ByteArray) ++ (⟨#[97, 98, 99, 100, 101, 102, 103, 104, 105, 106, 107, 108, 109]⟩ : ByteArray).extract k (k + 1))]) (ho.below (bl_drew (bl_alloc (bl_refl _) _))) (by simp; omega) ((sl_lit' rfl rfl rfl).below (bl_drew (bl_refl _))) (by omega)
          have HR := Lib.hid (show ((Builtin.append_ #[30, 30] 30 #[.slice A k c, .slice (some ⟨wr.heap.size, 0, none⟩) 1 1]).run Tryz.prog ((wr.alloc (.cells #[.string ((⟨#[112]⟩ : ByteArray) ++ (⟨#[97, 98, 99, 100, 101, 102, 103, 104, 105, 106, 107, 108, 109]⟩ : ByteArray).extract k (k + 1))] 9)).drew)).andThen (fun v w' => .ok (Next.value v) w') = .ok (Next.value (.slice A2 (k + 1) c2)) V5 from by rw [hr5]; rfl)
          clear hr5
          have hf5 := OnlyF.of_gbl hg5
          have hx5 := HX0.out.only ((OnlyF.below (bl_drew (bl_alloc (bl_refl wr) _))).trans hf5) (ho.notin (by omega))
          have hr5 := hr.only ((OnlyF.below (bl_drew (bl_alloc (bl_refl wr) _))).trans hf5) (ho.notin (by omega))
          have hb5 : Below w.heap.size w V5 := bl_grown (bl_trans hb (bl_drew (bl_alloc (bl_refl wr) _))) hg5 (fun j hj => by have := (ho.lt j hj).1; omega)
          have lx5 := hx5.lt
          clear hf5 hg5
          obtain ⟨vc0, vc1, vc2, vc3, vf0, vf1, vf2, vf3⟩ := hx5
          have HFIN := Lib.hid (show (∃ (nz : List ByteArray) (Az : Option Addr) (kz cz : Nat), Hid (nz.length = kz) ∧ kz ≤ nn ∧ Hid (∀ z, z ∈ nz → z.size ≤ 7) ∧ Own (V5.setCell ⟨V2.heap.size, 3, none⟩ (.slice A2 (k + 1) c2)) (V2.heap.size + 1) 9 (.slice Az kz cz) nz ∧ Box4 (V5.setCell ⟨V2.heap.size, 3, none⟩ (.slice A2 (k + 1) c2)) w.heap.size (.int .i64 0) (.int .i64 0) (.bool false) (.slice none 0 0) ∧ Box4 (V5.setCell ⟨V2.heap.size, 3, none⟩ (.slice A2 (k + 1) c2)) V2.heap.size (.int .i64 y.Number) (.int .i64 y.Node) (.bool y.Closed) (.slice Az kz cz) ∧ Below w.heap.size w (V5.setCell ⟨V2.heap.size, 3, none⟩ (.slice A2 (k + 1) c2))) ∧ lenAt V2.heap.size (V5.setCell ⟨V2.heap.size, 3, none⟩ (.slice A2 (k + 1) c2)) < lenAt V2.heap.size wr from ⟨⟨ns ++ [((⟨#[112]⟩ : ByteArray) ++ (⟨#[97, 98, 99, 100, 101, 102, 103, 104, 105, 106, 107, 108, 109]⟩ : ByteArray).extract k (k + 1))], A2, k + 1, c2, by rw [Hid, List.length_append, hnl.out]; rfl, HKN.out, (fun z hz => by rcases List.mem_append.1 hz with hz | hz; exact hsz.out z hz; rw [List.mem_singleton.1 hz]; exact hps), Own.onlyF (g := V2.heap.size) ho5 (by repeat' (first | exact OnlyF.refl _ _ | refine OnlyF.set ?_ (List.mem_singleton.2 rfl) _ | refine OnlyF.drew ?_)) (by omega), hr5.only (F := [V2.heap.size]) (by repeat' (first | exact OnlyF.refl _ _ | refine OnlyF.set ?_ (List.mem_singleton.2 rfl) _ | refine OnlyF.drew ?_)) (by simp only [List.mem_singleton]; omega), (by refine ⟨?_, ?_, ?_, ?_, ?_, ?_, ?_, ?_⟩ <;> go_simp), by repeat' (first | exact hb5 | refine bl_set ?_ (by simp only []; omega) _ | refine bl_drew ?_)⟩, by rw [lenAt_eq HX0.out.c3, lenAt_eq (A := A2) (q := k + 1) (c := c2) (by go_simp)]; omega⟩)
          clear ho5 hr5 hb5 ho hr hb xc0 xc1 xc2 xf0 xf1 xf2 vc0 vc1 vc2 vf0 vf1 vf2 hkn hlt hn13 hps hs1 hw0 HKN hnl hsz hoc HX0 lr2 lg2 lx3 lg3 lr3 lrr hkd hkb
          go_region_with ((refine upon_eq (d := 48) (r' := .ok (Next.value (.slice A2 (k + 1) c2)) V5) rfl ?_ ?_; (focus (rw [← HR.out]; go_simp; done))))
          go_wp2
          all_goals exact HFIN.out
        · have hkd : ¬ ((k : Int) < nn) := by omega
          have hkb : decide (k < nn) = false := decide_eq_false hlt
          obtain ⟨rc0, rc1, rc2, rc3, rf0, rf1, rf2, rf3⟩ := hr
          go_wp2
          refine bodyPost_ret (v := .agg #[.int .i64 y.Number, .int .i64 y.Node, .bool y.Closed, .slice A k c]) (by simp [results, Tryz.results58, go_sem, rc0, rc1, rc2, rc3]; try rfl) rfl ?_
          skip
          exact ⟨⟨y.Number, y.Node, y.Closed, ns⟩, A, c, by rw [hnl.out], by rw [hnl.out]; omega, hsz.out, by rw [hnl.out]; exact (Own.onlyF (g := w.heap.size) ho (by repeat' (first | exact OnlyF.refl _ _ | refine OnlyF.set ?_ (List.mem_singleton.2 rfl) _)) (by omega)).mono (by omega), by repeat' (first | exact hb | refine bl_set ?_ (Nat.le_refl _) _)⟩
end Go.Proofs.YtpdblmcflniomaaGreatDoor
