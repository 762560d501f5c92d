/-
  Filling: what becomes of the memory at one move. No conditions.
-/
import Derived.Test.YtokcgjjnljflaaaMvG
import Derived.Test.YtokcgjjnljflaaaLoadN
import Derived.Test.YtokcgjjnljflaaaNestB
import Derived.Test.YtokcgjjnljflaaaMvB
namespace Go.Proofs.Ytokcgjjnljflaaa
open Go.RowKit

theorem bl_only {w a b : World} {F : List Nat} (h : Below w.heap.size w a) (hf : OnlyF F a b) (hF : ∀ y, y ∈ F → w.heap.size ≤ y) : Below w.heap.size w b :=
  h.trans ⟨hf.os, hf.tape, hf.output, hf.size, fun k hk => hf.block k (Nat.lt_of_lt_of_le hk h.size) (fun hm => by have := hF k hm; omega)⟩
/-- where filling stands: one load in a variable, the others in a list of the call's own -/
structure Fill (Y : World) (N : Nat) (A9 : Option Addr) (c9 p bx : Nat) (x : Load) (rest : List Load) (A1 : Option Addr) (c1 : Nat) (ps : List (LoadR × List Thing)) (wr : World) : Prop where
  of : OnlyF (bx :: (Value.ownBlock (.slice A9 p c9)).toList) Y wr
  xb : BoxL wr bx x.Appliance A1 x.Things.length c1
  ox : Own wr N 59 (.slice A1 x.Things.length c1) x.Things
  op : OwnP loadN wr N 28 59 (.slice A9 p c9) ps
  pl : loadN.plain ps = rest
  vx : loadB x.Appliance x.Things = true
  vr : AllL rest
  ln : rest.length = p
  nb : bx ∉ loadN.foot (.slice A9 p c9) ps
  nx : ∀ k, Value.ownBlock (.slice A1 x.Things.length c1) = some k → k ≠ bx ∧ k ∉ loadN.foot (.slice A9 p c9) ps
theorem Fill.below {Y : World} {N : Nat} {A9 : Option Addr} {c9 p bx : Nat} {x : Load} {rest : List Load} {A1 : Option Addr} {c1 : Nat} {ps : List (LoadR × List Thing)} {wr V : World} (h : Fill Y N A9 c9 p bx x rest A1 c1 ps wr) (hb : Below wr.heap.size wr V) : Fill Y N A9 c9 p bx x rest A1 c1 ps V :=
  ⟨h.of.trans (.below hb), h.xb.below hb, h.ox.below hb, h.op.below hb, h.pl, h.vx, h.vr, h.ln, h.nb, h.nx⟩
theorem Fill.move {Y : World} {N g c9 p bx : Nat} {x : Load} {rest : List Load} {A1 : Option Addr} {c1 : Nat} {ps : List (LoadR × List Thing)} {wr V : World} (h : Fill Y N (some ⟨g, 0, none⟩) c9 p bx x rest A1 c1 ps wr) (hb : Below wr.heap.size wr V) {k : Nat} (hk : k < p) {a b : Load} {A2 B2 : Option Addr} {c2 d2 : Nat}
    (ha : Own V wr.heap.size 59 (.slice A2 a.Things.length c2) a.Things) (hbb : Own V wr.heap.size 59 (.slice B2 b.Things.length d2) b.Things) (hap : ∀ k, Value.ownBlock (.slice A2 a.Things.length c2) = some k → Value.ownBlock (.slice B2 b.Things.length d2) ≠ some k)
    (va : loadB a.Appliance a.Things = true) (vb : loadB b.Appliance b.Things = true) (hN : N ≤ wr.heap.size) :
    ∃ ps', Fill Y N (some ⟨g, 0, none⟩) c9 p bx b (rest.set k a) B2 d2 ps' ((((V.setCell ⟨g, k * 2, none⟩ (.string a.Appliance)).setCell ⟨g, k * 2 + 1, none⟩ (.slice A2 a.Things.length c2)).setCell ⟨bx, 0, none⟩ (.string b.Appliance)).setCell ⟨bx, 1, none⟩ (.slice B2 b.Things.length d2)) := by
  have hV := h.below hb
  have hgl : g < wr.heap.size := (h.op.out.lt g rfl).2
  have hbl : bx < wr.heap.size := h.xb.lt
  have hgb : g ≠ bx := fun e => h.nb (loadN.mem_foot.2 (.inl (by rw [← e]; rfl)))
  have hlen : ps.length = p := h.op.len
  obtain ⟨p0, hp0⟩ : ∃ p0, ps[k]? = some p0 := ⟨_, List.getElem?_eq_getElem (by omega)⟩
  have hold : ∀ (j : Nat) q, ps[j]? = some q → ∀ y, (loadN.hdr q.1).ownBlock = some y → y < wr.heap.size := fun j q hq y hy => ((h.op.inn j q hq).lt y hy).2
  have hA2g : Value.ownBlock (.slice A2 a.Things.length c2) ≠ some g := fun e => by have := (ha.lt g e).1; omega
  have hA2b : Value.ownBlock (.slice A2 a.Things.length c2) ≠ some bx := fun e => by have := (ha.lt bx e).1; omega
  have hB2g : Value.ownBlock (.slice B2 b.Things.length d2) ≠ some g := fun e => by have := (hbb.lt g e).1; omega
  have hB2b : Value.ownBlock (.slice B2 b.Things.length d2) ≠ some bx := fun e => by have := (hbb.lt bx e).1; omega
  obtain ⟨p', hp'⟩ : ∃ p' : LoadR × List Thing, p' = (⟨a.Appliance, A2, a.Things.length, c2⟩, a.Things) := ⟨_, rfl⟩
  have hof : loadN.of p'.1 p'.2 = a := by rw [hp']; rfl
  have hhd : loadN.hdr p'.1 = .slice A2 a.Things.length c2 := by rw [hp']; rfl
  have ho := hV.op.out.put hk p'.1
  have e2 : setCells V g (k * Flat.sz LoadR) (Flat.enc p'.1) = (V.setCell ⟨g, k * 2, none⟩ (.string a.Appliance)).setCell ⟨g, k * 2 + 1, none⟩ (.slice A2 a.Things.length c2) := by rw [hp']; rfl
  rw [e2] at ho
  have hf1 : OnlyF [g] V ((V.setCell ⟨g, k * 2, none⟩ (.string a.Appliance)).setCell ⟨g, k * 2 + 1, none⟩ (.slice A2 a.Things.length c2)) := OnlyF.set (OnlyF.set (OnlyF.refl _ _) (List.mem_singleton.2 rfl) _) (List.mem_singleton.2 rfl) _
  have h1 := hV.op.upd hp0 ho (by rw [hhd, hp']; exact Own.set_ne (Own.set_ne (ha.mono hN) hA2g _ _) hA2g _ _)
    (fun y hy => .inr (fun j q hq hy' => by rw [hhd] at hy; have := (ha.lt y hy).1; have := hold j q hq y hy'; omega)) (hf1.mono (fun y hy => by rw [List.mem_singleton.1 hy]; exact List.mem_cons_self ..))
  have hfoot : ∀ y, y ∈ loadN.foot (.slice (some ⟨g, 0, none⟩) p c9) (ps.set k p') → y = g ∨ (y < wr.heap.size ∧ y ∈ loadN.foot (.slice (some ⟨g, 0, none⟩) p c9) ps) ∨ Value.ownBlock (.slice A2 a.Things.length c2) = some y := fun y hy => by
    rcases loadN.mem_foot.1 hy with hy | ⟨j, q, hq, hy⟩
    · exact .inl (Option.some.inj (show some g = some y from hy)).symm
    · by_cases e : j = k
      · subst e
        rw [List.getElem?_set_self (by omega)] at hq
        injection hq with hq
        subst hq
        rw [hhd] at hy
        exact .inr (.inr hy)
      · rw [List.getElem?_set_ne (Ne.symm e)] at hq
        exact .inr (.inl ⟨hold j q hq y hy, loadN.mem_foot.2 (.inr ⟨j, q, hq, hy⟩)⟩)
  have hnb : bx ∉ loadN.foot (.slice (some ⟨g, 0, none⟩) p c9) (ps.set k p') := fun hm => by
    rcases hfoot bx hm with e | ⟨_, e⟩ | e
    · exact hgb e.symm
    · exact h.nb e
    · exact hA2b e
  have hf2 : ∀ W : World, OnlyF [bx] W ((W.setCell ⟨bx, 0, none⟩ (.string b.Appliance)).setCell ⟨bx, 1, none⟩ (.slice B2 b.Things.length d2)) := fun W => OnlyF.set (OnlyF.set (OnlyF.refl _ _) (List.mem_singleton.2 rfl) _) (List.mem_singleton.2 rfl) _
  refine ⟨ps.set k p', ?_, ?_, ?_, ?_, ?_, vb, ?_, ?_, hnb, ?_⟩
  · refine hV.of.trans ((hf1.mono ?_).trans ((hf2 _).mono ?_))
    · intro y hy; rw [List.mem_singleton.1 hy]; exact List.mem_cons_of_mem _ (by simp [Value.ownBlock])
    · intro y hy; rw [List.mem_singleton.1 hy]; exact List.mem_cons_self ..
  · exact (((hV.xb.set_ne hgb _ _).set_ne hgb _ _).set0 _).set1 _ _ _
  · exact Own.set_ne (Own.set_ne (Own.set_ne (Own.set_ne (hbb.mono hN) hB2g _ _) hB2g _ _) hB2b _ _) hB2b _ _
  · exact h1.only (hf2 _) (fun y hy hm => by rw [List.mem_singleton.1 hm] at hy; exact hnb hy)
  · have hpl := h.pl
    unfold Nest.plain at hpl ⊢
    rw [List.map_set, hpl, hof]
  · exact h.vr.set (by rw [h.ln]; exact hk) va
  · rw [List.length_set]; exact h.ln
  · intro y hy
    have hyl := (hbb.lt y hy).1
    refine ⟨by omega, fun hm => ?_⟩
    rcases hfoot y hm with e | ⟨e, _⟩ | e
    · omega
    · omega
    · exact hap y e hy
def FillP (Y : World) (N : Nat) (A9 : Option Addr) (c9 p bx : Nat) (x : Load) (rest : List Load) (A1 : Option Addr) (c1 : Nat) (ba : Nat) (nm : ByteArray) (wr : World) : Prop := (∃ ps, Fill Y N A9 c9 p bx x rest A1 c1 ps wr) ∧ wr.cell? ⟨ba, 0, none⟩ = some (.string nm)
/-- A call hands back a load and a list of loads of its own, which share no memory, and a bool. -/
def RetFill (w : World) (r : Load × List Load × Bool) (e : Ending) (w' : World) : Prop :=
  ∃ A c B d F, e = .returned (.tuple #[.agg #[.string r.1.Appliance, .slice A r.1.Things.length c], .slice B r.2.1.length d, .bool r.2.2]) ∧ Own w' w.heap.size 59 (.slice A r.1.Things.length c) r.1.Things ∧ OwnX loadN w' w.heap.size 28 59 (.slice B r.2.1.length d) r.2.1 F ∧
    (∀ k, Value.ownBlock (.slice A r.1.Things.length c) = some k → k ∉ F) ∧ Below w.heap.size w w'
theorem retFill_mk {w w' : World} {r : Load × List Load × Bool} {x : Load} {rest : List Load} {b : Bool} {A B : Option Addr} {c p d : Nat} {ps : List (LoadR × List Thing)} (hr : r = (x, rest, b)) (ho : Own w' w.heap.size 59 (.slice A x.Things.length c) x.Things) (hp : OwnP loadN w' w.heap.size 28 59 (.slice B p d) ps) (hl : loadN.plain ps = rest)
    (hap : ∀ k, Value.ownBlock (.slice A x.Things.length c) = some k → k ∉ loadN.foot (.slice B p d) ps) (hb : Below w.heap.size w w') : RetFill w r (.returned (.tuple #[.agg #[.string x.Appliance, .slice A x.Things.length c], .slice B p d, .bool b])) w' := by
  subst hr; subst hl
  have hn : p = (loadN.plain ps).length := hp.sl.1.symm
  subst hn
  exact ⟨A, c, B, d, _, rfl, ho, hp.x, hap, hb⟩
theorem retFill_no {w w' : World} {r : Load × List Load × Bool} (hr : r = noL) (hb : Below w.heap.size w w') : RetFill w r (.returned (.tuple #[.agg #[.string ⟨#[]⟩, .slice none 0 0], .slice none 0 0, .bool false])) w' :=
  retFill_mk (ps := []) hr (Own.nil _ _ _) (OwnP.nil _ _ _ (by decide)) rfl (fun k h => by simp [Value.ownBlock] at h) hb
theorem Fill.at {Y : World} {N g c9 p bx : Nat} {x : Load} {rest : List Load} {A1 : Option Addr} {c1 : Nat} {ps : List (LoadR × List Thing)} {wr : World} (h : Fill Y N (some ⟨g, 0, none⟩) c9 p bx x rest A1 c1 ps wr) {j : Nat} (hj : j < p) :
    ∃ A2 c2, wr.cell? ⟨g, j * 2, none⟩ = some (.string (nth rest j).Appliance) ∧ wr.cell? ⟨g, j * 2 + 1, none⟩ = some (.slice A2 (nth rest j).Things.length c2) ∧ Own wr N 59 (.slice A2 (nth rest j).Things.length c2) (nth rest j).Things ∧ wr.frozen? ⟨g, j * 2, none⟩ = false ∧ wr.frozen? ⟨g, j * 2 + 1, none⟩ = false ∧ loadB (nth rest j).Appliance (nth rest j).Things = true := by
  have hlen : ps.length = p := h.op.len
  obtain ⟨p0, hp0⟩ : ∃ p0, ps[j]? = some p0 := ⟨_, List.getElem?_eq_getElem (by omega)⟩
  have hr : nth (ps.map Prod.fst) j = p0.1 := nth_get (by rw [List.getElem?_map, hp0]; rfl)
  have hn : nth rest j = loadN.of p0.1 p0.2 := nth_get (by rw [← h.pl]; unfold Nest.plain; rw [List.getElem?_map, hp0]; rfl)
  have hc := h.op.out.cellAt hj
  rw [hr] at hc
  have hi := h.op.inn j p0 hp0
  have hl : p0.2.length = p0.1.n := hi.sl.1
  have e : loadN.hdr p0.1 = .slice p0.1.A p0.2.length p0.1.c := by rw [hl]; rfl
  refine ⟨p0.1.A, p0.1.c, ?_, ?_, ?_, h.op.out.frozenAt _, h.op.out.frozenAt _, h.vr j (by rw [h.ln]; exact hj)⟩
  · rw [hn]; exact hc 0 _ rfl
  · rw [hn]
    have := hc 1 _ rfl
    show wr.cell? _ = some (.slice p0.1.A p0.2.length p0.1.c)
    rw [hl]; exact this
  · rw [hn]
    show Own wr N _ (.slice p0.1.A p0.2.length p0.1.c) p0.2
    rw [← e]; exact hi

end Go.Proofs.Ytokcgjjnljflaaa
