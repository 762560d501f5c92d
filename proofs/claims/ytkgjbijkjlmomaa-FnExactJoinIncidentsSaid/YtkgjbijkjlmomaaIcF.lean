/-
  A name committed and released at one of a list. No conditions.
-/
import Derived.Test.YtkgjbijkjlmomaaIcA
import Derived.Test.YtkgjbijkjlmomaaIcR1
namespace Go.Proofs.Ytkgjbijkjlmomaa
open Go.RowKit

set_option maxHeartbeats 4000000 in
theorem addAt_any (ys : List Incident) (a : Nat) (nm : ByteArray) (ps : List (IncidentR × List ByteArray)) (g c base : Nat) (w : World) (hop : OwnP incidentN w base 56 9 (.slice (some ⟨g, 0, none⟩) ys.length c) ps) (hp : incidentN.plain ps = ys) (ha : a < ys.length) (hlen : (nth ys a).Names.length ≤ 1048575) (hso : sortB (nth ys a).Names = true) (hbase : base ≤ w.heap.size) :
    Calls Try.prog 57 #[.pointer (some ⟨g, a * 4, none⟩), .string nm] w fun e w' => ∃ ps', e = .returned (.tuple #[]) ∧ OwnP incidentN w' base 56 9 (.slice (some ⟨g, 0, none⟩) ys.length c) ps' ∧ incidentN.plain ps' = ys.set a (adX (nth ys a) nm) ∧ OnlyF (incidentN.foot (.slice (some ⟨g, 0, none⟩) ys.length c) ps) w w' := by
  have hjl : a < ps.length := by rw [hop.len]; exact ha
  obtain ⟨p, hpq⟩ : ∃ p, ps[a]? = some p := ⟨_, List.getElem?_eq_getElem hjl⟩
  have he : nth (ps.map Prod.fst) a = p.1 := nth_get (by rw [List.getElem?_map, hpq]; rfl)
  have hx : nth ys a = incidentN.of p.1 p.2 := nth_get (by rw [← hp]; unfold Nest.plain; rw [List.getElem?_map, hpq]; rfl)
  have d3 : w.cell? ⟨g, a * 4 + 3, none⟩ = some (.slice (nth (ps.map Prod.fst) a).A (nth (ps.map Prod.fst) a).n (nth (ps.map Prod.fst) a).c) := hop.out.cellAt ha 3 _ rfl
  have f3 := hop.out.frozenAt (a * 4 + 3)
  rw [he] at d3
  have hin : Own w base 9 (.slice p.1.A p.1.n p.1.c) p.2 := hop.inn a p hpq
  have hpn : p.2.length = p.1.n := hin.sl.1
  have hpl : (nth ys a).Names = p.2 := by rw [hx]; rfl
  have hsep : ∀ y, (.slice p.1.A p.1.n p.1.c : Value).ownBlock = some y → y ≠ g := fun y hy hyg => hop.sep (k := g) rfl hpq (by rw [← hyg]; exact hy)
  refine (add_any g (a * 4) nm p.1.A p.1.n p.1.c base p.2 _ (by rw [← hpn, ← hpl]; exact hlen) d3 f3 hin hsep (by rw [← hpl]; exact hso) hbase).mono ?_
  rintro e V9 ⟨A8, c8, V8, rfl, rfl, ho8, hof8, hbk8⟩
  have hg8 : OnlyF (g :: (.slice p.1.A p.1.n p.1.c : Value).ownBlock.toList) w (V8.setCell ⟨g, a * 4 + 3, none⟩ (.slice A8 (p.1.n + 1) c8)) := OnlyF.set (hof8.mono (fun y hy => List.mem_cons_of_mem _ hy)) List.mem_cons_self _
  have hown8 : Own V8 base 56 (.slice (some ⟨g, 0, none⟩) ys.length c) (ps.map Prod.fst) := hop.out.only hof8 (fun y hy hm' => hsep y (by simpa using hm') (by simpa [Value.ownBlock] using hy))
  have h2 : Own (V8.setCell ⟨g, a * 4 + 3, none⟩ (.slice A8 (p.1.n + 1) c8)) base 56 (.slice (some ⟨g, 0, none⟩) ys.length c) ((ps.map Prod.fst).set a (⟨p.1.Number, p.1.Node, p.1.Closed, A8, p.1.n + 1, c8⟩ : IncidentR)) := by
    have hh := hown8.put1 ha 3 (by decide) (y := (⟨p.1.Number, p.1.Node, p.1.Closed, A8, p.1.n + 1, c8⟩ : IncidentR)) (v := .slice A8 (p.1.n + 1) c8) (by rw [he]; rfl)
    exact hh
  have hne8 : ∀ y, Value.ownBlock (.slice A8 (p.1.n + 1) c8) = some y → y ≠ g := fun y hy hyg => by
    obtain ⟨cu1, e1⟩ := ho8.ty hy
    obtain ⟨cu2, e2⟩ := hown8.ty (k := g) rfl
    rw [hyg, e2] at e1
    injection e1 with e1
    injection e1 with _ e3
    exact absurd e3 (by decide)
  have hblk8 : ∀ x, Value.ownBlock (.slice A8 (p.1.n + 1) c8) = some x → (incidentN.hdr p.1).ownBlock = some x ∨ ∀ (q' : Nat) r, ps[q']? = some r → (incidentN.hdr r.1).ownBlock ≠ some x := fun x hx1 => (hbk8 x hx1).imp id (fun h q' r hr hx2 => by have := ((hop.inn q' r hr).lt x hx2).2; omega)
  have ho9 : Own (V8.setCell ⟨g, a * 4 + 3, none⟩ (.slice A8 (p.1.n + 1) c8)) base 9 (.slice A8 (p.1.n + 1) c8) (insQ p.2 (posS p.2 nm) nm) := ho8.only (OnlyF.set (OnlyF.refl _ _) (List.mem_singleton.2 rfl) _) (fun y hy hm' => hne8 y (by simpa using hy) (List.mem_singleton.1 hm'))
  refine ⟨_, rfl, hop.upd (p' := ((⟨p.1.Number, p.1.Node, p.1.Closed, A8, p.1.n + 1, c8⟩ : IncidentR), insQ p.2 (posS p.2 nm) nm)) hpq h2 ho9 (fun x hx1 => hblk8 x hx1) hg8, ?_, ?_⟩
  · unfold Nest.plain at hp ⊢; rw [List.map_set, hp]; unfold adX; rw [hpl, hx]; rfl
  · refine hg8.mono (fun y hy => ?_)
    rw [Nest.mem_foot]
    rcases List.mem_cons.1 hy with rfl | hy
    · exact .inl rfl
    · exact .inr ⟨a, p, hpq, own_mem hy⟩
set_option maxHeartbeats 4000000 in
theorem removeAt_any (ys : List Incident) (a : Nat) (nm : ByteArray) (ps : List (IncidentR × List ByteArray)) (g c base : Nat) (w : World) (hop : OwnP incidentN w base 56 9 (.slice (some ⟨g, 0, none⟩) ys.length c) ps) (hp : incidentN.plain ps = ys) (ha : a < ys.length) (hlen : (nth ys a).Names.length ≤ 1048575) :
    Calls Try.prog 55 #[.pointer (some ⟨g, a * 4, none⟩), .string nm] w fun e w' => ∃ ps', e = .returned (.tuple #[]) ∧ OwnP incidentN w' base 56 9 (.slice (some ⟨g, 0, none⟩) ys.length c) ps' ∧ incidentN.plain ps' = ys.set a (rlX (nth ys a) nm) ∧ OnlyF (incidentN.foot (.slice (some ⟨g, 0, none⟩) ys.length c) ps) w w' := by
  have hjl : a < ps.length := by rw [hop.len]; exact ha
  obtain ⟨p, hpq⟩ : ∃ p, ps[a]? = some p := ⟨_, List.getElem?_eq_getElem hjl⟩
  have he : nth (ps.map Prod.fst) a = p.1 := nth_get (by rw [List.getElem?_map, hpq]; rfl)
  have hx : nth ys a = incidentN.of p.1 p.2 := nth_get (by rw [← hp]; unfold Nest.plain; rw [List.getElem?_map, hpq]; rfl)
  have d3 : w.cell? ⟨g, a * 4 + 3, none⟩ = some (.slice (nth (ps.map Prod.fst) a).A (nth (ps.map Prod.fst) a).n (nth (ps.map Prod.fst) a).c) := hop.out.cellAt ha 3 _ rfl
  have f3 := hop.out.frozenAt (a * 4 + 3)
  rw [he] at d3
  have hin : Own w base 9 (.slice p.1.A p.1.n p.1.c) p.2 := hop.inn a p hpq
  have hpn : p.2.length = p.1.n := hin.sl.1
  have hpl : (nth ys a).Names = p.2 := by rw [hx]; rfl
  have hsep : ∀ y, (.slice p.1.A p.1.n p.1.c : Value).ownBlock = some y → y ≠ g := fun y hy hyg => hop.sep (k := g) rfl hpq (by rw [← hyg]; exact hy)
  refine (remove_any g (a * 4) nm p.1.A p.1.n p.1.c base p.2 _ (by rw [← hpn, ← hpl]; omega) d3 f3 hin hsep).mono ?_
  rintro e V9 ⟨m, V8, rfl, rfl, ho8, hm8, hof8⟩
  have hg8 : OnlyF (g :: (.slice p.1.A p.1.n p.1.c : Value).ownBlock.toList) w (V8.setCell ⟨g, a * 4 + 3, none⟩ (.slice p.1.A m p.1.c)) := OnlyF.set (hof8.mono (fun y hy => List.mem_cons_of_mem _ hy)) List.mem_cons_self _
  have hown8 : Own V8 base 56 (.slice (some ⟨g, 0, none⟩) ys.length c) (ps.map Prod.fst) := hop.out.only hof8 (fun y hy hm' => hsep y (by simpa using hm') (by simpa [Value.ownBlock] using hy))
  have h2 : Own (V8.setCell ⟨g, a * 4 + 3, none⟩ (.slice p.1.A m p.1.c)) base 56 (.slice (some ⟨g, 0, none⟩) ys.length c) ((ps.map Prod.fst).set a (⟨p.1.Number, p.1.Node, p.1.Closed, p.1.A, m, p.1.c⟩ : IncidentR)) := by
    have hh := hown8.put1 ha 3 (by decide) (y := (⟨p.1.Number, p.1.Node, p.1.Closed, p.1.A, m, p.1.c⟩ : IncidentR)) (v := .slice p.1.A m p.1.c) (by rw [he]; rfl)
    exact hh
  have hblk8 : ∀ x, Value.ownBlock (.slice p.1.A m p.1.c) = some x → (incidentN.hdr p.1).ownBlock = some x ∨ ∀ (q' : Nat) r, ps[q']? = some r → (incidentN.hdr r.1).ownBlock ≠ some x := fun x hx1 => .inl ((own_blk (A := p.1.A) (n := p.1.n) (m := m) (c := p.1.c) (d := p.1.c)).trans hx1)
  have ho9 : Own (V8.setCell ⟨g, a * 4 + 3, none⟩ (.slice p.1.A m p.1.c)) base 9 (.slice p.1.A m p.1.c) (dropS p.2 nm) := ho8.only (OnlyF.set (OnlyF.refl _ _) (List.mem_singleton.2 rfl) _) (fun y hy hm' => hsep y (own_mem hy) (List.mem_singleton.1 hm'))
  refine ⟨_, rfl, hop.upd (p' := ((⟨p.1.Number, p.1.Node, p.1.Closed, p.1.A, m, p.1.c⟩ : IncidentR), dropS p.2 nm)) hpq h2 ho9 (fun x hx1 => hblk8 x hx1) hg8, ?_, ?_⟩
  · unfold Nest.plain at hp ⊢; rw [List.map_set, hp]; unfold rlX; rw [hpl, hx]; rfl
  · refine hg8.mono (fun y hy => ?_)
    rw [Nest.mem_foot]
    rcases List.mem_cons.1 hy with rfl | hy
    · exact .inl rfl
    · exact .inr ⟨a, p, hpq, own_mem hy⟩

end Go.Proofs.Ytkgjbijkjlmomaa
