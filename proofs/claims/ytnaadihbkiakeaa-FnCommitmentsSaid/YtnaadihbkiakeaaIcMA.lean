/-
  Several texts in one. No conditions.
-/
import Derived.Test.YtnaadihbkiakeaaIcMB
import Derived.Test.YtnaadihbkiakeaaIcG0
import Derived.Test.YtnaadihbkiakeaaIncU
import Derived.Lib.AppendZerosOnto
import Derived.Test.YtnaadihbkiakeaaIcH0
import Derived.Test.YtnaadihbkiakeaaIncM
import Derived.Test.YtnaadihbkiakeaaIcLen
import Derived.Test.YtnaadihbkiakeaaIcM
import Derived.Test.YtnaadihbkiakeaaMem
import Derived.ProofKit
import Derived.OpenShut
import Derived.Deep.Slices
import Derived.Deep.Fields
import Derived.ChangeSame
import Derived.Lib.SmallJoins
namespace Go.Proofs.Ytnaadihbkiakeaa
open Go.RowKit

set_option maxHeartbeats 4000000 in
theorem addAt_any (ys : List Incident) (a : Nat) (nm : ByteArray) (ps : List (IncidentR × List ByteArray)) (g c base : Nat) (w : World) (hop : OwnP incidentN w base 76 9 (.slice (some ⟨g, 0, none⟩) ys.length c) ps) (hp : incidentN.plain ps = ys) (ha : a < ys.length) (hlen : (nth ys a).Names.length ≤ 1048575) (hso : sortB (nth ys a).Names = true) (hbase : base ≤ w.heap.size) :
    Calls Try.prog 99 #[.pointer (some ⟨g, a * 4, none⟩), .string nm] w fun e w' => ∃ ps', e = .returned (.tuple #[]) ∧ OwnP incidentN w' base 76 9 (.slice (some ⟨g, 0, none⟩) ys.length c) ps' ∧ incidentN.plain ps' = ys.set a (adX (nth ys a) nm) ∧ OnlyF (incidentN.foot (.slice (some ⟨g, 0, none⟩) ys.length c) ps) w w' := by
  have hjl : a < ps.length := by rw [hop.len]; exact ha
  obtain ⟨p, hpq⟩ : ∃ p, ps[a]? = some p := ⟨_, List.getElem?_eq_getElem hjl⟩
  have he : nth (ps.map Prod.fst) a = p.1 := nth_get (by rw [List.getElem?_map, hpq]; rfl)
  have hx : nth ys a = incidentN.of p.1 p.2 := nth_get (by rw [← hp]; unfold Nest.plain; rw [List.getElem?_map, hpq]; rfl)
  have d3 : w.cell? ⟨g, a * 4 + 3, none⟩ = some (.slice (nth (ps.map Prod.fst) a).A (nth (ps.map Prod.fst) a).n (nth (ps.map Prod.fst) a).c) := hop.out.cellAt ha 3 _ rfl
  have f3 := hop.out.frozenAt (a * 4 + 3)
  rw [he] at d3
  have hin : Own w base 9 (.slice p.1.A p.1.n p.1.c) p.2 := hop.inn a p hpq
  have hpn : p.2.length = p.1.n := hin.sl.1
  have hpl : (nth ys a).Names = p.2 := by rw [hx]; rfl
  have hsep : ∀ y, (.slice p.1.A p.1.n p.1.c : Value).ownBlock = some y → y ≠ g := fun y hy hyg => hop.sep (k := g) rfl hpq (by rw [← hyg]; exact hy)
  refine (add_any g (a * 4) nm p.1.A p.1.n p.1.c base p.2 _ (by rw [← hpn, ← hpl]; exact hlen) d3 f3 hin hsep (by rw [← hpl]; exact hso) hbase).mono ?_
  rintro e V9 ⟨A8, c8, V8, rfl, rfl, ho8, hof8, hbk8⟩
  have hg8 : OnlyF (g :: (.slice p.1.A p.1.n p.1.c : Value).ownBlock.toList) w (V8.setCell ⟨g, a * 4 + 3, none⟩ (.slice A8 (p.1.n + 1) c8)) := OnlyF.set (hof8.mono (fun y hy => List.mem_cons_of_mem _ hy)) List.mem_cons_self _
  have hown8 : Own V8 base 76 (.slice (some ⟨g, 0, none⟩) ys.length c) (ps.map Prod.fst) := hop.out.only hof8 (fun y hy hm' => hsep y (by simpa using hm') (by simpa [Value.ownBlock] using hy))
  have h2 : Own (V8.setCell ⟨g, a * 4 + 3, none⟩ (.slice A8 (p.1.n + 1) c8)) base 76 (.slice (some ⟨g, 0, none⟩) ys.length c) ((ps.map Prod.fst).set a (⟨p.1.Number, p.1.Node, p.1.Closed, A8, p.1.n + 1, c8⟩ : IncidentR)) := by
    have hh := hown8.put1 ha 3 (by decide) (y := (⟨p.1.Number, p.1.Node, p.1.Closed, A8, p.1.n + 1, c8⟩ : IncidentR)) (v := .slice A8 (p.1.n + 1) c8) (by rw [he]; rfl)
    exact hh
  have hne8 : ∀ y, Value.ownBlock (.slice A8 (p.1.n + 1) c8) = some y → y ≠ g := fun y hy hyg => by
    obtain ⟨cu1, e1⟩ := ho8.ty hy
    obtain ⟨cu2, e2⟩ := hown8.ty (k := g) rfl
    rw [hyg, e2] at e1
    injection e1 with e1
    injection e1 with _ e3
    exact absurd e3 (by decide)
  have hblk8 : ∀ x, Value.ownBlock (.slice A8 (p.1.n + 1) c8) = some x → (incidentN.hdr p.1).ownBlock = some x ∨ ∀ (q' : Nat) r, ps[q']? = some r → (incidentN.hdr r.1).ownBlock ≠ some x := fun x hx1 => (hbk8 x hx1).imp id (fun h q' r hr hx2 => by have := ((hop.inn q' r hr).lt x hx2).2; omega)
  have ho9 : Own (V8.setCell ⟨g, a * 4 + 3, none⟩ (.slice A8 (p.1.n + 1) c8)) base 9 (.slice A8 (p.1.n + 1) c8) (insQ p.2 (posS p.2 nm) nm) := ho8.only (OnlyF.set (OnlyF.refl _ _) (List.mem_singleton.2 rfl) _) (fun y hy hm' => hne8 y (by simpa using hy) (List.mem_singleton.1 hm'))
  refine ⟨_, rfl, hop.upd (p' := ((⟨p.1.Number, p.1.Node, p.1.Closed, A8, p.1.n + 1, c8⟩ : IncidentR), insQ p.2 (posS p.2 nm) nm)) hpq h2 ho9 (fun x hx1 => hblk8 x hx1) hg8, ?_, ?_⟩
  · unfold Nest.plain at hp ⊢; rw [List.map_set, hp]; unfold adX; rw [hpl, hx]; rfl
  · refine hg8.mono (fun y hy => ?_)
    rw [Nest.mem_foot]
    rcases List.mem_cons.1 hy with rfl | hy
    · exact .inl rfl
    · exact .inr ⟨a, p, hpq, own_mem hy⟩
set_option maxHeartbeats 4000000 in
theorem removeAt_any (ys : List Incident) (a : Nat) (nm : ByteArray) (ps : List (IncidentR × List ByteArray)) (g c base : Nat) (w : World) (hop : OwnP incidentN w base 76 9 (.slice (some ⟨g, 0, none⟩) ys.length c) ps) (hp : incidentN.plain ps = ys) (ha : a < ys.length) (hlen : (nth ys a).Names.length ≤ 1048575) :
    Calls Try.prog 106 #[.pointer (some ⟨g, a * 4, none⟩), .string nm] w fun e w' => ∃ ps', e = .returned (.tuple #[]) ∧ OwnP incidentN w' base 76 9 (.slice (some ⟨g, 0, none⟩) ys.length c) ps' ∧ incidentN.plain ps' = ys.set a (rlX (nth ys a) nm) ∧ OnlyF (incidentN.foot (.slice (some ⟨g, 0, none⟩) ys.length c) ps) w w' := by
  have hjl : a < ps.length := by rw [hop.len]; exact ha
  obtain ⟨p, hpq⟩ : ∃ p, ps[a]? = some p := ⟨_, List.getElem?_eq_getElem hjl⟩
  have he : nth (ps.map Prod.fst) a = p.1 := nth_get (by rw [List.getElem?_map, hpq]; rfl)
  have hx : nth ys a = incidentN.of p.1 p.2 := nth_get (by rw [← hp]; unfold Nest.plain; rw [List.getElem?_map, hpq]; rfl)
  have d3 : w.cell? ⟨g, a * 4 + 3, none⟩ = some (.slice (nth (ps.map Prod.fst) a).A (nth (ps.map Prod.fst) a).n (nth (ps.map Prod.fst) a).c) := hop.out.cellAt ha 3 _ rfl
  have f3 := hop.out.frozenAt (a * 4 + 3)
  rw [he] at d3
  have hin : Own w base 9 (.slice p.1.A p.1.n p.1.c) p.2 := hop.inn a p hpq
  have hpn : p.2.length = p.1.n := hin.sl.1
  have hpl : (nth ys a).Names = p.2 := by rw [hx]; rfl
  have hsep : ∀ y, (.slice p.1.A p.1.n p.1.c : Value).ownBlock = some y → y ≠ g := fun y hy hyg => hop.sep (k := g) rfl hpq (by rw [← hyg]; exact hy)
  refine (remove_any g (a * 4) nm p.1.A p.1.n p.1.c base p.2 _ (by rw [← hpn, ← hpl]; omega) d3 f3 hin hsep).mono ?_
  rintro e V9 ⟨m, V8, rfl, rfl, ho8, hm8, hof8⟩
  have hg8 : OnlyF (g :: (.slice p.1.A p.1.n p.1.c : Value).ownBlock.toList) w (V8.setCell ⟨g, a * 4 + 3, none⟩ (.slice p.1.A m p.1.c)) := OnlyF.set (hof8.mono (fun y hy => List.mem_cons_of_mem _ hy)) List.mem_cons_self _
  have hown8 : Own V8 base 76 (.slice (some ⟨g, 0, none⟩) ys.length c) (ps.map Prod.fst) := hop.out.only hof8 (fun y hy hm' => hsep y (by simpa using hm') (by simpa [Value.ownBlock] using hy))
  have h2 : Own (V8.setCell ⟨g, a * 4 + 3, none⟩ (.slice p.1.A m p.1.c)) base 76 (.slice (some ⟨g, 0, none⟩) ys.length c) ((ps.map Prod.fst).set a (⟨p.1.Number, p.1.Node, p.1.Closed, p.1.A, m, p.1.c⟩ : IncidentR)) := by
    have hh := hown8.put1 ha 3 (by decide) (y := (⟨p.1.Number, p.1.Node, p.1.Closed, p.1.A, m, p.1.c⟩ : IncidentR)) (v := .slice p.1.A m p.1.c) (by rw [he]; rfl)
    exact hh
  have hblk8 : ∀ x, Value.ownBlock (.slice p.1.A m p.1.c) = some x → (incidentN.hdr p.1).ownBlock = some x ∨ ∀ (q' : Nat) r, ps[q']? = some r → (incidentN.hdr r.1).ownBlock ≠ some x := fun x hx1 => .inl ((own_blk (A := p.1.A) (n := p.1.n) (m := m) (c := p.1.c) (d := p.1.c)).trans hx1)
  have ho9 : Own (V8.setCell ⟨g, a * 4 + 3, none⟩ (.slice p.1.A m p.1.c)) base 9 (.slice p.1.A m p.1.c) (dropS p.2 nm) := ho8.only (OnlyF.set (OnlyF.refl _ _) (List.mem_singleton.2 rfl) _) (fun y hy hm' => hsep y (own_mem hy) (List.mem_singleton.1 hm'))
  refine ⟨_, rfl, hop.upd (p' := ((⟨p.1.Number, p.1.Node, p.1.Closed, p.1.A, m, p.1.c⟩ : IncidentR), dropS p.2 nm)) hpq h2 ho9 (fun x hx1 => hblk8 x hx1) hg8, ?_, ?_⟩
  · unfold Nest.plain at hp ⊢; rw [List.map_set, hp]; unfold rlX; rw [hpl, hx]; rfl
  · refine hg8.mono (fun y hy => ?_)
    rw [Nest.mem_foot]
    rcases List.mem_cons.1 hy with rfl | hy
    · exact .inl rfl
    · exact .inr ⟨a, p, hpq, own_mem hy⟩

end Go.Proofs.Ytnaadihbkiakeaa

namespace Go.Proofs.Ytnaadihbkiakeaa
open Go.RowKit

set_option maxRecDepth 100000 in
set_option maxHeartbeats 4000000 in
theorem implTransfer_any (xs : List Incident) (nm : ByteArray) (number : Int) (A : Option Addr) (n c : Nat) (w : World) (hz : nm.size ≤ maxLen) (hn : n ≤ 1048576) (hc : n ≤ c) (hs : Sl w A n xs) (hv : ∀ x, x ∈ xs → ∀ y, y ∈ x.Names → y.size ≤ maxLen) (hin : ∀ x, x ∈ xs → x.Names.length ≤ 1048576) :
    Calls Try.prog 41 #[.slice A n c, .string nm, .int .i64 number] w (RetOwnX2 incidentN w 76 9 (trF xs nm number)) := by
  have HV := Lib.hid hv
  have HIN := Lib.hid hin
  have HL := Lib.hid hs.1
  have hn' : (n : Int) ≤ 9223372036854775807 := by omega
  clear hv hin
  go_enter Try.func41, Try.ntmps41
  have hk0 := bl_refl w
  go_wp2_with fail
  refine (openAt_any xs number _ _ _ _ hn' hs).mono ?_
  rintro e V1 ⟨rfl, hb1⟩
  have hB1 := bl_trans (a := w) (bl_refl _) hb1
  have hk1 := bl_trans hk0 hB1
  have z1 := Lib.hid hB1.size
  have hge := indexF_range (isO number) xs
  obtain ⟨i, hi⟩ : ∃ i, i = openI xs number := ⟨_, rfl⟩
  have hge2 : -1 ≤ i ∧ i < xs.length := by rw [hi]; exact hge
  rw [← hi]
  have hi' := Lib.hid hi
  clear hi hge
  go_wp2_with fail
  refine (areIncidents_any xs _ _ _ _ hn' hc (hs.below hk1) HV.out).mono ?_
  rintro e V2 ⟨rfl, hb2⟩
  have hB2 := bl_trans (a := V1) (bl_refl _) hb2
  have hk2 := bl_trans hk1 hB2
  have z2 := Lib.hid hB2.size
  clear hk1
  cases h0 : incsB xs
  · have Hz := Lib.hid (trF_no (xs := xs) (number := number) (s := nm) (by unfold trC; rw [h0]; simp))
    clear h0
    go_wp2
    go_ret2
    exact retOwnX2_nil (by decide) Hz.out hk2
  have H0 := Lib.hid h0
  clear h0
  by_cases h8 : i < 0
  · have hd : decide (i < 0) = true := by simpa using h8
    have Hz := Lib.hid (trF_no (xs := xs) (number := number) (s := nm) (by unfold trC; rw [← hi'.out, decide_eq_false (by omega : ¬ 0 ≤ i)]; simp))
    go_wp2
    go_ret2
    exact retOwnX2_nil (by decide) Hz.out hk2
  have hd : decide (i < 0) = false := by simpa using h8
  obtain ⟨j, rfl⟩ := Int.eq_ofNat_of_zero_le (by omega : 0 ≤ i)
  have hjx : j < xs.length := by omega
  have hjn : j < n := by have := HL.out; omega
  clear hge2 h8
  go_wp2_with fail
  refine (isName_any nm _ hz).mono ?_
  rintro e V3 ⟨rfl, hb3⟩
  have hB3 := bl_trans (a := V2) (bl_refl _) hb3
  have hk3 := bl_trans hk2 hB3
  have z3 := Lib.hid hB3.size
  clear hk2
  cases h1 : nameB nm
  · have Hz := Lib.hid (trF_no (xs := xs) (number := number) (s := nm) (by unfold trC; rw [h1]; simp))
    clear h1
    go_wp2
    go_ret2
    exact retOwnX2_nil (by decide) Hz.out hk3
  have H1 := Lib.hid h1
  clear h1
  obtain ⟨b, o, A', c', rfl, hbz, c0, c1, c2, c3, _, hil⟩ := (hs.below hk3).incident hjn
  have hv := incs_iff.1 H0.out
  have h12 : (nth xs j).Names.length ≤ 12 := vi_names hv _ (nth_mem hjx)
  have HSN : Hid (sortB (nth xs j).Names = true) := (incB_split (hv.one j hjx)).2.2.2.1
  have HVI := Lib.hid hv
  clear c0 c1 c2 hil hv
  go_wp2_with fail
  refine (committedAt_any xs nm _ _ _ _ hn' (hs.below hk3)).mono ?_
  rintro e V4 ⟨rfl, hb4⟩
  have c4 := cell_later hb4 c3
  have hbz4 := World.block_lt_of_cell? _ _ c4
  clear c3 hbz
  have hB4 := bl_trans (a := V3) (bl_refl _) hb4
  have hk4 := bl_trans hk3 hB4
  have z4 := Lib.hid hB4.size
  clear hk3
  have c3 := c4
  have hbz := hbz4
  clear c4 hbz4
  obtain ⟨q, hq⟩ : ∃ q, q = atB xs nm := ⟨_, rfl⟩
  rw [← hq]
  have HQ := Lib.hid hq
  have hqr : q < xs.length := by rw [hq]; exact (indexF_range (fun y : Incident => hasS y.Names nm) xs).2
  clear hq
  by_cases h9 : q < 0
  · have hd2 : decide (q < 0) = true := by simpa using h9
    have Hz := Lib.hid (trF_no (xs := xs) (number := number) (s := nm) (by unfold trC; rw [← HQ.out, decide_eq_false (by omega : ¬ 0 ≤ q)]; simp))
    clear h9 c3
    go_wp2
    go_ret2
    exact retOwnX2_nil (by decide) Hz.out hk4
  have hd2 : decide (q < 0) = false := by simpa using h9
  obtain ⟨bq, rfl⟩ := Int.eq_ofNat_of_zero_le (by omega : 0 ≤ q)
  have hbx : bq < xs.length := by omega
  clear h9 hqr
  go_wp2_with fail
  refine (committedAt_any xs nm _ _ _ _ hn' (hs.below hk4)).mono ?_
  rintro e V5 ⟨rfl, hb5⟩
  have c4 := cell_later hb5 c3
  have hbz4 := World.block_lt_of_cell? _ _ c4
  clear c3 hbz
  have hB5 := bl_trans (a := V4) (bl_refl _) hb5
  have hk5 := bl_trans hk4 hB5
  have z5 := Lib.hid hB5.size
  clear hk4
  have c3 := c4
  have hbz := hbz4
  clear c4 hbz4
  rw [← HQ.out]
  by_cases h7 : bq = j
  · have hd4 : ((bq : Int) == (j : Int)) = true := by simp [h7]
    have Hz := Lib.hid (trF_no (xs := xs) (number := number) (s := nm) (by unfold trC; rw [← HQ.out, ← hi'.out, decide_eq_true (by omega : (bq : Int) = (j : Int))]; simp))
    clear h7 c3
    go_wp2
    go_ret2
    exact retOwnX2_nil (by decide) Hz.out hk5
  have hd4 : ((bq : Int) == (j : Int)) = false := by simp; omega
  by_cases h6 : (nth xs j).Names.length = 12
  · have hd3 : (((nth xs j).Names.length : Int) == 12) = true := by simp [h6]
    have Hz := Lib.hid (trF_no (xs := xs) (number := number) (s := nm) (by unfold trC; rw [← hi'.out]; show (_ && decide ((nth xs j).Names.length < 12)) = false; rw [decide_eq_false (show ¬ (nth xs j).Names.length < 12 by omega)]; simp))
    clear h6 h7 h12
    go_wp2
    go_ret2
    exact retOwnX2_nil (by decide) Hz.out hk5
  have hd3 : (((nth xs j).Names.length : Int) == 12) = false := by simp; omega
  have Hz := Lib.hid (trF_yes H0.out H1.out hi'.out.symm HQ.out.symm h7 (by omega : (nth xs j).Names.length < 12))
  have H7 := Lib.hid h7
  have hxn : xs.length ≤ 1048576 := by rw [HL.out]; exact hn
  clear h7 h6
  go_wp2_with fail
  refine (copyIncidents_any xs _ _ _ _ hn (hs.below hk5) HIN.out).mono ?_
  rintro e V6 ⟨A_c, c_c, F_c, rfl, ho_c, hb6⟩
  clear c3 hbz
  have hB6 := bl_trans (a := V5) (bl_refl _) hb6
  have hk6 := bl_trans hk5 hB6
  have z6 := Lib.hid hB6.size
  clear hk5
  obtain ⟨ps, hp, _, hop⟩ := ho_c
  obtain ⟨g, rfl⟩ := hop.out.form (by omega : 0 < xs.length)
  have HOP := Lib.hid (hop.mono (b := w.heap.size) (by have := z1.out; have := z2.out; have := z3.out; have := z4.out; have := z5.out; have := z6.out; omega))
  have hjc : xs.length ≤ c_c := hop.out.cap.1
  clear hop
  go_wp2_with fail
  refine (committedAt_any xs nm _ _ _ _ hn' (hs.below hk6)).mono ?_
  rintro e V7 ⟨rfl, hb7⟩
  have HOQ := Lib.hid (HOP.out.below hb7)
  have hB7 := bl_trans (a := V6) (bl_refl _) hb7
  have hk7 := bl_trans hk6 hB7
  have z7 := Lib.hid hB7.size
  clear hk6
  rw [← HQ.out]
  have hbI : (bq : Int) < xs.length := by omega
  have hb0 : (0 : Int) ≤ bq := by omega
  have hjI : (j : Int) < xs.length := by omega
  have hj0 : (0 : Int) ≤ j := by omega
  have hnb : (nth xs bq).Names.length ≤ 1048575 := by have := vi_names HVI.out _ (nth_mem hbx); omega
  have HW := Lib.hid hk7
  clear hs
  go_wp2_with fail
  refine (removeAt_any xs bq nm ps g c_c w.heap.size _ HOQ.out hp hbx hnb).mono ?_
  rintro e V8 ⟨p8, rfl, hop8, hp8, hf8⟩
  have hk8 := below_only HW.out hf8 (fun y hy => HOQ.out.lies y hy) (by have := z1.out; have := z2.out; have := z3.out; have := z4.out; have := z5.out; have := z6.out; have := z7.out; omega)
  have hyl : (rlL xs bq nm).length = xs.length := rlL_len _ _ _
  have hyj : nth (rlL xs bq nm) j = nth xs j := rlL_at hjx H7.out
  have hp8' : incidentN.plain p8 = rlL xs bq nm := hp8
  have hop8' : OwnP incidentN V8 w.heap.size 76 9 (.slice (some ⟨g, 0, none⟩) (rlL xs bq nm).length c_c) p8 := by rw [hyl]; exact hop8
  have HC : Hid (Calls Try.prog 99 #[.pointer (some ⟨g, j * 4, none⟩), .string nm] V8 fun e w' => ∃ ps', e = .returned (.tuple #[]) ∧ OwnP incidentN w' w.heap.size 76 9 (.slice (some ⟨g, 0, none⟩) xs.length c_c) ps' ∧ incidentN.plain ps' = trL xs nm bq j ∧ OnlyF (incidentN.foot (.slice (some ⟨g, 0, none⟩) xs.length c_c) p8) V8 w') := by
    have h := addAt_any (rlL xs bq nm) j nm p8 g c_c w.heap.size V8 hop8' hp8' (by rw [hyl]; exact hjx) (by rw [hyj]; omega) (by rw [hyj]; exact HSN.out) (by have := hk8.size; omega)
    rw [hyl] at h
    exact h
  have HF := Lib.hid hop8.lies
  have HK8 := Lib.hid hk8
  clear hf8 hyl hyj hp8 hp8' hop8' hop8 hk8
  go_wp2_with fail
  refine HC.out.mono ?_
  rintro e V9 ⟨p9, rfl, hop9, hp9, hf9⟩
  have hk9 := below_only HK8.out hf9 HF.out (Nat.le_refl _)
  have HO9 := Lib.hid hop9
  clear hf9 hop9
  go_wp2
  go_ret2
  exact retOwnX2_mk Hz.out hp9 HO9.out hk9

end Go.Proofs.Ytnaadihbkiakeaa

namespace Go.Proofs.Ytnaadihbkiakeaa
open Go.RowKit

theorem filt_yes {α : Type} [Inhabited α] {p : α → Bool} {xs : List α} {k : Nat} (hk : k < xs.length) (h : p (nth xs k) = true) : (xs.take (k + 1)).filter p = (xs.take k).filter p ++ [nth xs k] := by
  rw [take_succ hk, List.filter_append]; simp [h]
theorem filt_no {α : Type} [Inhabited α] {p : α → Bool} {xs : List α} {k : Nat} (hk : k < xs.length) (h : p (nth xs k) = false) : (xs.take (k + 1)).filter p = (xs.take k).filter p := by
  rw [take_succ hk, List.filter_append]; simp [h]
theorem OnlyF.shrink {F G : List Nat} {a b : World} (h : OnlyF (F ++ G) a b) (hG : ∀ y, y ∈ G → a.heap.size ≤ y) : OnlyF F a b := ⟨h.os, h.tape, h.output, h.size, fun k hk hn => h.block k hk (fun hm => by
  rcases List.mem_append.1 hm with hm | hm
  · exact hn hm
  · have := hG k hm; omega)⟩
set_option maxRecDepth 100000 in
set_option maxHeartbeats 8000000 in
theorem ixDrop_any (xs : List Incident) (j : Nat) (nm : ByteArray) (A : Option Addr) (n c : Nat) (w : World) (hn : n ≤ 1048576) (hs : Sl w A n xs) (hin : ∀ x, x ∈ xs → x.Names.length ≤ 1048576) (hj : j < n) :
    Calls Try.prog 107 #[.slice A n c, .int .i64 j, .string nm] w (RetOwnX incidentN w 76 9 (xs.set j (rlX (nth xs j) nm))) := by
  have HIN := Lib.hid hin
  have HL := Lib.hid hs.1
  clear hin
  go_enter Try.func107, Try.ntmps107
  have hk0 := bl_refl w
  go_wp2_with fail
  refine (ixOwn_any xs _ _ _ _ hn hs HIN.out).mono ?_
  rintro e V1 ⟨A_c, c_c, F_c, rfl, ho_c, hb1⟩
  have hB1 := bl_trans (a := w) (bl_refl _) hb1
  have hk1 := bl_trans hk0 hB1
  have z1 := Lib.hid hB1.size
  have hjx : j < xs.length := by rw [HL.out]; exact hj
  obtain ⟨ps, hp, _, hop⟩ := ho_c
  obtain ⟨g, rfl⟩ := hop.out.form (by omega : 0 < xs.length)
  have hjl : j < ps.length := by rw [hop.len]; exact hjx
  obtain ⟨p, hpq⟩ : ∃ p, ps[j]? = some p := ⟨_, List.getElem?_eq_getElem hjl⟩
  have he : nth (ps.map Prod.fst) j = p.1 := nth_get (by rw [List.getElem?_map, hpq]; rfl)
  have hx : Hid (nth xs j = incidentN.of p.1 p.2) := nth_get (by rw [← hp]; unfold Nest.plain; rw [List.getElem?_map, hpq]; rfl)
  obtain ⟨b, o, A', c', rfl, hbz, c0, c1, c2, c3, hi, hil⟩ := (hs.below hk1).incident hj
  have hjc : xs.length ≤ c_c := hop.out.cap.1
  have hjI : (j : Int) < xs.length := by omega
  have hjN : (j : Int) < n := by omega
  have hj0 : (0 : Int) ≤ j := by omega
  have HW := Lib.hid hk1
  have hnl : (nth xs j).Names.length ≤ 1048576 := HIN.out _ (nth_mem hjx)
  have d0 : V1.cell? ⟨g, j * 4, none⟩ = some (.int .i64 (nth (ps.map Prod.fst) j).Number) := hop.out.cellAt hjx 0 _ rfl
  have d1 : V1.cell? ⟨g, j * 4 + 1, none⟩ = some (.int .i64 (nth (ps.map Prod.fst) j).Node) := hop.out.cellAt hjx 1 _ rfl
  have d2 : V1.cell? ⟨g, j * 4 + 2, none⟩ = some (.bool (nth (ps.map Prod.fst) j).Closed) := hop.out.cellAt hjx 2 _ rfl
  have d3 : V1.cell? ⟨g, j * 4 + 3, none⟩ = some (.slice (nth (ps.map Prod.fst) j).A (nth (ps.map Prod.fst) j).n (nth (ps.map Prod.fst) j).c) := hop.out.cellAt hjx 3 _ rfl
  have f0 := hop.out.frozenAt (j * 4)
  have f1 := hop.out.frozenAt (j * 4 + 1)
  have f2 := hop.out.frozenAt (j * 4 + 2)
  have f3 := hop.out.frozenAt (j * 4 + 3)
  rw [he] at d0 d1 d2 d3
  have HOP := Lib.hid hop
  have Hi := Lib.hid hi
  have hgz : g < V1.heap.size := World.block_lt_of_cell? _ _ d0
  clear hs hi hil hop hk0 hB1 hk1 c0 c1 c2
  go_upto_region 4 with fail
  refine wp_hideI (R := fun X => Below V1.heap.size V1 X ∧ V1.heap.size + 1 = X.heap.size ∧ X.cell? ⟨V1.heap.size, 0, none⟩ = some (.int .i64 p.1.Number) ∧ X.cell? ⟨V1.heap.size, 1, none⟩ = some (.int .i64 p.1.Node) ∧ X.cell? ⟨V1.heap.size, 2, none⟩ = some (.bool p.1.Closed) ∧ X.cell? ⟨V1.heap.size, 3, none⟩ = some (.slice none 0 0) ∧ X.frozen? ⟨V1.heap.size, 3, none⟩ = false) ⟨by repeat' (first | exact bl_refl _ | refine bl_alloc ?_ _ | refine bl_set ?_ (Nat.le_refl _) _), by simp, by go_simp, by go_simp, by go_simp, by go_simp, by go_simp⟩ (fun X ⟨hbX, hXz, e0, e1, e2, e3, g3⟩ => ?_)
  have c4 := cell_later hbX c3
  have hbzX : b < X.heap.size := by omega
  have HX := Lib.hid hbX
  clear c3 hbX d0 d1 d2 d3 f0 f1 f2 f3
  go_wp2
  go_loopw [24] (fun iv wr => ∃ (k q c2 : Nat) (A2 : Option Addr), k ≤ (nth xs j).Names.length ∧ iv = .int .i64 k ∧ q ≤ k ∧ wr.cell? ⟨V1.heap.size, 0, none⟩ = some (.int .i64 p.1.Number) ∧ wr.cell? ⟨V1.heap.size, 1, none⟩ = some (.int .i64 p.1.Node) ∧ wr.cell? ⟨V1.heap.size, 2, none⟩ = some (.bool p.1.Closed) ∧ wr.cell? ⟨V1.heap.size, 3, none⟩ = some (.slice A2 q c2) ∧ wr.frozen? ⟨V1.heap.size, 3, none⟩ = false ∧ Own wr (V1.heap.size + 1) 9 (.slice A2 q c2) (((nth xs j).Names.take k).filter (fun x => !(x.toList == nm.toList))) ∧ OnlyF [V1.heap.size] X wr) (fun iv _ => (nth xs j).Names.length - (intOf iv).toNat)
  case atStart => exact ⟨0, 0, 0, none, Nat.zero_le _, rfl, Nat.le_refl _, e0, e1, e2, e3, g3, Own.nil _ _ _, OnlyF.refl _ _⟩
  case round =>
    obtain ⟨k, q, c2, A2, hk, rfl, hq, y0, y1, y2, y3, z3, ho2, hof⟩ := hrel
    have hbz2 : V1.heap.size < wr.heap.size := World.block_lt_of_cell? _ _ y0
    have hbV : Below V1.heap.size V1 wr := below_only HX.out hof (fun y hy => by rw [List.mem_singleton.1 hy]; exact ⟨Nat.le_refl _, by omega⟩) (Nat.le_refl _)
    have hszX := hof.size
    clear e0 e1 e2 e3 g3 c4
    by_cases hlt : k < (nth xs j).Names.length
    · obtain ⟨b2, o2, rfl, hb2z, n0⟩ := (Hi.out.below hbV).str hlt
      have hkx : Hid (k < (nth xs j).Names.length) := hlt
      cases hp2 : (nth (nth xs j).Names k).toList == nm.toList
      · have hpt : Hid ((!((nth (nth xs j).Names k).toList == nm.toList)) = true) := by rw [Hid, hp2]; rfl
        have hne : ((nth (nth xs j).Names k).toList != nm.toList) = true := by simp [bne, hp2]
        obtain ⟨A3, c3, w3, hr, ho3, hg3⟩ := run_appN (P := Try.prog) 47 47 9 el_str (d := 1) (ho2.alloc (.cells #[.string (nth (nth xs j).Names k)] 9)) (by simp; omega) (sl_strI (b := wr.heap.size) (o := 0) (s := nth (nth xs j).Names k) (by go_simp)) (by omega)
        have hf3 : OnlyF (Value.ownBlock (.slice A2 q c2)).toList wr w3 := (OnlyF.alloc (OnlyF.refl _ _) _).trans (OnlyF.of_gb hg3)
        have hno : ∀ y, y ∈ (Value.ownBlock (.slice A2 q c2)).toList → V1.heap.size + 1 ≤ y := fun y hy => (ho2.lt y (own_mem hy)).1
        have x0 := hf3.keeps y0 (fun hm => by have := hno _ hm; simp only [] at this; omega)
        have x1 := hf3.keeps y1 (fun hm => by have := hno _ hm; simp only [] at this; omega)
        have x2 := hf3.keeps y2 (fun hm => by have := hno _ hm; simp only [] at this; omega)
        have x3 := hf3.keeps y3 (fun hm => by have := hno _ hm; simp only [] at this; omega)
        have t3 := (hf3.frozen (p := ⟨V1.heap.size, 3, none⟩) hbz2 (fun hm => by have := hno _ hm; simp only [] at this; omega)).trans z3
        have hz3 : V1.heap.size < w3.heap.size := World.block_lt_of_cell? _ _ x0
        have HO3 := Lib.hid ho3
        have HF3 := Lib.hid hf3
        have HNO := Lib.hid hno
        clear ho2 hg3 hf3 hno ho3
        go_wp2_with ((at_builtin; refine Lib.wpList_append_run _ rfl _ _ _ _ rfl _ _ rfl rfl _ _ hr ?_))
        go_roundw
        case rel =>
          refine ⟨k + 1, q + 1, c3, A3, by omega, by go_num, by omega, ?_, ?_, ?_, ?_, ?_, ?_, ?_⟩
          · go_simp
          · go_simp
          · go_simp
          · go_simp
          · go_simp
          · rw [filt_yes (p := fun x : ByteArray => !(x.toList == nm.toList)) hkx.out hpt.out]
            exact Own.set HO3.out (Nat.lt_succ_self _) _
          · refine OnlyF.set (OnlyF.shrink (G := (Value.ownBlock (.slice A2 q c2)).toList) ((hof.mono (fun y hy => List.mem_append_left _ hy)).trans (HF3.out.mono (fun y hy => List.mem_append_right _ hy))) (fun y hy => by have := HNO.out y hy; omega)) (List.mem_singleton.2 rfl) _
        case measure => simp [intOf]; omega
      · have hpt : Hid ((!((nth (nth xs j).Names k).toList == nm.toList)) = false) := by rw [Hid, hp2]; rfl
        have hne : ((nth (nth xs j).Names k).toList != nm.toList) = false := by simp [bne, hp2]
        go_wp2
        go_roundw
        case rel => exact ⟨k + 1, q, c2, A2, by omega, by go_num, by omega, y0, y1, y2, y3, z3, by rw [filt_no (p := fun x : ByteArray => !(x.toList == nm.toList)) hkx.out hpt.out]; exact ho2, hof⟩
        case measure => simp [intOf]; omega
    · obtain rfl : k = (nth xs j).Names.length := by omega
      rw [List.take_length] at ho2
      have hopr := Lib.hid (HOP.out.below hbV)
      have HO2 : Hid (Own wr (V1.heap.size + 1) 9 (.slice A2 q c2) (dropS (nth xs j).Names nm)) := ho2
      have d0 : wr.cell? ⟨g, j * 4, none⟩ = some (.int .i64 (nth (ps.map Prod.fst) j).Number) := hopr.out.out.cellAt hjx 0 _ rfl
      have d1 : wr.cell? ⟨g, j * 4 + 1, none⟩ = some (.int .i64 (nth (ps.map Prod.fst) j).Node) := hopr.out.out.cellAt hjx 1 _ rfl
      have d2 : wr.cell? ⟨g, j * 4 + 2, none⟩ = some (.bool (nth (ps.map Prod.fst) j).Closed) := hopr.out.out.cellAt hjx 2 _ rfl
      have d3 : wr.cell? ⟨g, j * 4 + 3, none⟩ = some (.slice (nth (ps.map Prod.fst) j).A (nth (ps.map Prod.fst) j).n (nth (ps.map Prod.fst) j).c) := hopr.out.out.cellAt hjx 3 _ rfl
      have f0 := hopr.out.out.frozenAt (j * 4)
      have f1 := hopr.out.out.frozenAt (j * 4 + 1)
      have f2 := hopr.out.out.frozenAt (j * 4 + 2)
      have f3 := hopr.out.out.frozenAt (j * 4 + 3)
      have HBV := Lib.hid hbV
      clear ho2 hof
      go_wp2
      go_ret
      refine retOwnX_mk ?_ ((hopr.out.mono (b := w.heap.size) (Nat.le_refl _)).upd (p' := ((⟨p.1.Number, p.1.Node, p.1.Closed, A2, q, c2⟩ : IncidentR), dropS (nth xs j).Names nm)) hpq (hopr.out.out.put hjx (⟨p.1.Number, p.1.Node, p.1.Closed, A2, q, c2⟩ : IncidentR)) ?_ ?_ ?_) ?_
      · unfold Nest.plain at hp ⊢; rw [List.map_set, hp, hx.out]; rfl
      · refine Own.mono (base := V1.heap.size + 1) ?_ (by have := HW.out.size; omega)
        repeat' (first | exact HO2.out | refine Own.set ?_ (by omega) _)
      · intro x hx1
        refine .inr fun q' r hr hx2 => ?_
        have h1 := (HO2.out.lt x hx1).1
        have h2 := ((HOP.out.inn q' r hr).lt x hx2).2
        omega
      · repeat' (first | exact OnlyF.refl _ _ | refine OnlyF.set ?_ List.mem_cons_self _)
      · repeat' (first | exact bl_trans HW.out HBV.out | refine bl_set ?_ (by have := (hopr.out.out.lt g rfl).1; simp only []; omega) _)
set_option maxRecDepth 100000 in
set_option maxHeartbeats 4000000 in
theorem specReleaseFrom_any (xs : List Incident) (number : Int) (nm : ByteArray) (A : Option Addr) (n c : Nat) (w : World) (hz : nm.size ≤ maxLen) (hn : n ≤ 1048576) (hc : n ≤ c) (hs : Sl w A n xs) (hv : ∀ x, x ∈ xs → ∀ y, y ∈ x.Names → y.size ≤ maxLen) (hin : ∀ x, x ∈ xs → x.Names.length ≤ 1048576) :
    Calls Try.prog 50 #[.slice A n c, .int .i64 number, .string nm] w (RetOwnX2 incidentN w 76 9 (rlF xs number nm)) := by
  have HV := Lib.hid hv
  have HIN := Lib.hid hin
  have HL := Lib.hid hs.1
  have hn' : (n : Int) ≤ 9223372036854775807 := by omega
  clear hv hin
  go_enter Try.func50, Try.ntmps50
  have hk0 := bl_refl w
  go_wp2_with fail
  refine (ixAsked_any xs number nm _ _ _ _ hz hn hc hs HV.out).mono ?_
  rintro e V1 ⟨rfl, hb1⟩
  have hB1 := bl_trans (a := w) (bl_refl _) hb1
  have hk1 := bl_trans hk0 hB1
  have z1 := Lib.hid hB1.size
  cases h0 : askB xs number nm
  · have Hz := Lib.hid (rlF_no (xs := xs) (number := number) (s := nm) (by simp only [askB] at h0; cases e1 : incsB xs <;> cases e2 : nameB nm <;> cases e3 : decide (0 ≤ openI xs number) <;> simp_all))
    clear h0
    go_wp2
    go_ret2
    exact retOwnX2_nil (by decide) Hz.out hk1
  have H0 := Lib.hid (askB_yes h0)
  clear h0
  have hge := indexF_range (isO number) xs
  have hge0 : 0 ≤ openI xs number := H0.out.2.1
  go_wp2_with fail
  refine (ixOf_any xs nm _ _ _ _ hn' (hs.below hk1)).mono ?_
  rintro e V2 ⟨rfl, hb2⟩
  have hB2 := bl_trans (a := V1) (bl_refl _) hb2
  have hk2 := bl_trans hk1 hB2
  have z2 := Lib.hid hB2.size
  clear hk1
  go_wp2_with fail
  refine (ixFind_any xs number _ _ _ _ hn' (hs.below hk2)).mono ?_
  rintro e V3 ⟨rfl, hb3⟩
  have hB3 := bl_trans (a := V2) (bl_refl _) hb3
  have hk3 := bl_trans hk2 hB3
  have z3 := Lib.hid hB3.size
  clear hk2
  obtain ⟨i, hi⟩ : ∃ i, i = openI xs number := ⟨_, rfl⟩
  have hge2 : i < xs.length := by rw [hi]; exact hge.2
  rw [← hi] at hge0 ⊢
  have hi' := Lib.hid hi
  clear hi hge
  obtain ⟨j, rfl⟩ := Int.eq_ofNat_of_zero_le hge0
  have hjn : j < n := by have := HL.out; omega
  clear hge2 hge0
  obtain ⟨q, hq⟩ : ∃ q, q = atB xs nm := ⟨_, rfl⟩
  rw [← hq]
  by_cases h9 : q = (j : Int)
  rotate_left
  · have hd2 : (q != (j : Int)) = true := by simpa [bne] using h9
    have Hz := Lib.hid (rlF_no (xs := xs) (number := number) (s := nm) (by rw [← hi'.out, ← hq, decide_eq_false h9]; simp))
    clear hq h9
    go_wp2
    go_ret2
    exact retOwnX2_nil (by decide) Hz.out hk3
  have hd2 : (q != (j : Int)) = false := by simp [bne, h9]
  have Hz := Lib.hid (rlF_yes H0.out.1 H0.out.2.2 hi'.out.symm (hq.symm.trans h9))
  clear hq h9
  go_wp2_with fail
  refine (ixFind_any xs number _ _ _ _ hn' (hs.below hk3)).mono ?_
  rintro e V4 ⟨rfl, hb4⟩
  have hB4 := bl_trans (a := V3) (bl_refl _) hb4
  have hk4 := bl_trans hk3 hB4
  have z4 := Lib.hid hB4.size
  clear hk3
  rw [← hi'.out]
  go_wp2_with fail
  refine (ixDrop_any xs j nm _ _ _ _ hn (hs.below hk4) HIN.out hjn).mono ?_
  rintro e V5 ⟨A_c, c_c, F_c, rfl, ho_c, hb5⟩
  have hB5 := bl_trans (a := V4) (bl_refl _) hb5
  have hk5 := bl_trans hk4 hB5
  have z5 := Lib.hid hB5.size
  clear hk4
  obtain ⟨ps, hp, _, hop⟩ := ho_c
  have HOP := Lib.hid (hop.mono (b := w.heap.size) (by have := z1.out; have := z2.out; have := z3.out; have := z4.out; have := z5.out; omega))
  clear hop hs
  try rw [Hid, List.length_set] at HOP
  go_wp2
  go_ret2
  exact retOwnX2_mk Hz.out hp HOP hk5

end Go.Proofs.Ytnaadihbkiakeaa

namespace Go.Proofs.Ytnaadihbkiakeaa
open Go.RowKit

end Go.Proofs.Ytnaadihbkiakeaa

namespace Go.Proofs.Ytnaadihbkiakeaa
open Go.RowKit

set_option maxRecDepth 100000 in
set_option maxHeartbeats 4000000 in
theorem specTransfer_any (xs : List Incident) (nm : ByteArray) (number : Int) (A : Option Addr) (n c : Nat) (w : World) (hz : nm.size ≤ maxLen) (hn : n ≤ 1048576) (hc : n ≤ c) (hs : Sl w A n xs) (hv : ∀ x, x ∈ xs → ∀ y, y ∈ x.Names → y.size ≤ maxLen) (hin : ∀ x, x ∈ xs → x.Names.length ≤ 1048576) :
    Calls Try.prog 42 #[.slice A n c, .string nm, .int .i64 number] w (RetOwnX2 incidentN w 76 9 (trF xs nm number)) := by
  have HV := Lib.hid hv
  have HIN := Lib.hid hin
  have HL := Lib.hid hs.1
  have hn' : (n : Int) ≤ 9223372036854775807 := by omega
  clear hv hin
  go_enter Try.func42, Try.ntmps42
  have hk0 := bl_refl w
  go_wp2_with fail
  refine (ixAsked_any xs number nm _ _ _ _ hz hn hc hs HV.out).mono ?_
  rintro e V1 ⟨rfl, hb1⟩
  have hB1 := bl_trans (a := w) (bl_refl _) hb1
  have hk1 := bl_trans hk0 hB1
  have z1 := Lib.hid hB1.size
  cases h0 : askB xs number nm
  · have Hz := Lib.hid (trF_no (xs := xs) (number := number) (s := nm) (by simp only [askB] at h0; unfold trC; cases e1 : incsB xs <;> cases e2 : nameB nm <;> cases e3 : decide (0 ≤ openI xs number) <;> simp_all))
    clear h0
    go_wp2
    go_ret2
    exact retOwnX2_nil (by decide) Hz.out hk1
  have H0 := Lib.hid (askB_yes h0)
  clear h0
  go_wp2_with fail
  refine (ixOf_any xs nm _ _ _ _ hn' (hs.below hk1)).mono ?_
  rintro e V2 ⟨rfl, hb2⟩
  have hB2 := bl_trans (a := V1) (bl_refl _) hb2
  have hk2 := bl_trans hk1 hB2
  have z2 := Lib.hid hB2.size
  clear hk1
  obtain ⟨q, hq⟩ : ∃ q, q = atB xs nm := ⟨_, rfl⟩
  rw [← hq]
  have HQ := Lib.hid hq
  have hqr : q < xs.length := by rw [hq]; exact (indexF_range (fun y : Incident => hasS y.Names nm) xs).2
  clear hq
  by_cases h9 : q < 0
  · have hd2 : decide (q < 0) = true := by simpa using h9
    have Hz := Lib.hid (trF_no (xs := xs) (number := number) (s := nm) (by unfold trC; rw [← HQ.out, decide_eq_false (by omega : ¬ 0 ≤ q)]; simp))
    clear h9
    go_wp2
    go_ret2
    exact retOwnX2_nil (by decide) Hz.out hk2
  have hd2 : decide (q < 0) = false := by simpa using h9
  obtain ⟨bq, rfl⟩ := Int.eq_ofNat_of_zero_le (by omega : 0 ≤ q)
  have hbx : bq < xs.length := by omega
  have hbn : bq < n := by have := HL.out; omega
  clear h9 hqr
  go_wp2_with fail
  refine (ixOf_any xs nm _ _ _ _ hn' (hs.below hk2)).mono ?_
  rintro e V3 ⟨rfl, hb3⟩
  have hB3 := bl_trans (a := V2) (bl_refl _) hb3
  have hk3 := bl_trans hk2 hB3
  have z3 := Lib.hid hB3.size
  clear hk2
  rw [← HQ.out]
  have hge := indexF_range (isO number) xs
  have hge0 : 0 ≤ openI xs number := H0.out.2.1
  go_wp2_with fail
  refine (ixFind_any xs number _ _ _ _ hn' (hs.below hk3)).mono ?_
  rintro e V4 ⟨rfl, hb4⟩
  have hB4 := bl_trans (a := V3) (bl_refl _) hb4
  have hk4 := bl_trans hk3 hB4
  have z4 := Lib.hid hB4.size
  clear hk3
  obtain ⟨i, hi⟩ : ∃ i, i = openI xs number := ⟨_, rfl⟩
  have hge2 : i < xs.length := by rw [hi]; exact hge.2
  rw [← hi] at hge0 ⊢
  have hi' := Lib.hid hi
  clear hi hge
  obtain ⟨j, rfl⟩ := Int.eq_ofNat_of_zero_le hge0
  have hjn : j < n := by have := HL.out; omega
  have hjx : j < xs.length := by omega
  clear hge2 hge0
  by_cases h7 : bq = j
  · have hd4 : ((bq : Int) == (j : Int)) = true := by simp [h7]
    have Hz := Lib.hid (trF_no (xs := xs) (number := number) (s := nm) (by unfold trC; rw [← HQ.out, ← hi'.out, decide_eq_true (by omega : (bq : Int) = (j : Int))]; simp))
    clear h7
    go_wp2
    go_ret2
    exact retOwnX2_nil (by decide) Hz.out hk4
  have hd4 : ((bq : Int) == (j : Int)) = false := by simp; omega
  have H7 := Lib.hid h7
  clear h7
  have hv := incs_iff.1 H0.out.1
  have hsb := (at_some HQ.out.symm).2
  have hoa := open_at hi'.out.symm
  have HGd := Lib.hid (tr_good hv H0.out.2.2 hjx hoa.2.2 hbx hsb H7.out)
  have hno : nm ∉ (nth (rlL xs bq nm) j).Names := (rlL_vi hv hbx hsb).2 j (by rw [rlL_len]; exact hjx)
  have HNO := Lib.hid hno
  have hin2 : ∀ x, x ∈ rlL xs bq nm → x.Names.length ≤ 1048576 := fun x hx => by
    have := set_names (vi_names hv) (Nat.le_trans (List.length_filter_le _ _) (vi_names hv _ (nth_mem hbx)) : (rlX (nth xs bq) nm).Names.length ≤ 12) x hx
    omega
  have HIN2 := Lib.hid hin2
  clear hv hsb hoa hno hin2
  go_wp2_with fail
  refine (ixOf_any xs nm _ _ _ _ hn' (hs.below hk4)).mono ?_
  rintro e V5 ⟨rfl, hb5⟩
  have hB5 := bl_trans (a := V4) (bl_refl _) hb5
  have hk5 := bl_trans hk4 hB5
  have z5 := Lib.hid hB5.size
  clear hk4
  rw [← HQ.out]
  go_wp2_with fail
  refine (ixDrop_any xs bq nm _ _ _ _ hn (hs.below hk5) HIN.out hbn).mono ?_
  rintro e V6 ⟨A_c, c_c, F_c, rfl, ho_c, hb6⟩
  have hB6 := bl_trans (a := V5) (bl_refl _) hb6
  have hk6 := bl_trans hk5 hB6
  have z6 := Lib.hid hB6.size
  clear hk5
  obtain ⟨ps, hp, _, hop⟩ := ho_c
  have hsl : Sl V6 A_c (xs.set bq (rlX (nth xs bq) nm)).length (rlL xs bq nm) := by have h := hop.sl; rw [hp] at h; exact h
  rw [List.length_set] at hsl
  have HSL := Lib.hid hsl
  have hcc := hop.out.cap.1
  rw [List.length_set] at hcc
  clear hop hsl
  go_wp2_with fail
  refine (ixFind_any xs number _ _ _ _ hn' (hs.below hk6)).mono ?_
  rintro e V7 ⟨rfl, hb7⟩
  have HSL2 := Lib.hid (HSL.out.below hb7)
  have hB7 := bl_trans (a := V6) (bl_refl _) hb7
  have hk7 := bl_trans hk6 hB7
  have z7 := Lib.hid hB7.size
  clear hk6
  rw [← hi'.out]
  have hxn : xs.length ≤ 1048576 := by rw [HL.out]; exact hn
  clear hs
  go_wp2_with fail
  refine (ixAdd_any (rlL xs bq nm) j nm _ _ _ _ hxn HSL2.out HIN2.out hjx HNO.out).mono ?_
  rintro e V8 ⟨A_d, c_d, F_d, rfl, ho_d, hb8⟩
  have hB8 := bl_trans (a := V7) (bl_refl _) hb8
  have hk8 := bl_trans hk7 hB8
  have z8 := Lib.hid hB8.size
  clear hk7
  obtain ⟨ps2, hp2, _, hop2⟩ := ho_d
  have HOP := Lib.hid (hop2.mono (b := w.heap.size) (by have := z1.out; have := z2.out; have := z3.out; have := z4.out; have := z5.out; have := z6.out; have := z7.out; have := z8.out; omega))
  have hsl := hop2.sl
  rw [hp2] at hsl
  have hcc2 := hop2.out.cap.1
  have hll : ((rlL xs bq nm).set j (adX (nth (rlL xs bq nm) j) nm)).length = xs.length := by rw [List.length_set, rlL_len]
  have hll2 : (rlL xs bq nm).length = xs.length := rlL_len _ _ _
  rw [hll] at hsl hcc2
  rw [Hid, hll] at HOP
  try rw [hll]
  clear hop2
  have HVT : Hid (∀ x, x ∈ trL xs nm bq j → ∀ y, y ∈ x.Names → y.size ≤ maxLen) := hv_ad (fun x hx => by
    rcases List.mem_or_eq_of_mem_set hx with hx | rfl
    · exact HV.out x hx
    · intro y hy; exact HV.out _ (nth_mem hbx) y (dropS_mem.1 hy).1) hz (by rw [rlL_len]; exact hjx)
  go_wp2_with fail
  refine (ixIf_any (trL xs nm bq j) _ _ _ _ _ (by omega) hcc2 hsl HVT.out HGd.out).mono ?_
  rintro e V9 ⟨rfl, hb9⟩
  have hbk := bl_trans hk8 hb9
  have HO9 := Lib.hid (OwnP.below HOP hb9)
  clear hsl hcc hcc2 hb9 hll hll2
  cases h8 : decide ((nth xs j).Names.length < 12)
  · have Hz := Lib.hid (trF_no (xs := xs) (number := number) (s := nm) (by unfold trC; rw [hi'.out.symm]; show (_ && decide ((nth xs j).Names.length < 12)) = false; rw [h8]; simp))
    clear h8 HO9
    go_wp2
    go_ret2
    exact retOwnX2_nil (by decide) Hz.out hbk
  have Hz := Lib.hid (trF_yes H0.out.1 H0.out.2.2 hi'.out.symm HQ.out.symm H7.out (of_decide_eq_true h8))
  clear h8
  go_wp2
  go_ret2
  exact retOwnX2_mk Hz.out hp2 HO9.out hbk

end Go.Proofs.Ytnaadihbkiakeaa

namespace Go.Proofs.Ytnaadihbkiakeaa
open Go.RowKit

theorem set_self {xs : List Incident} {a : Nat} (h : a < xs.length) : xs.set a (nth xs a) = xs := by rw [← nth_ge h]; exact List.set_getElem_self h
set_option maxRecDepth 100000 in
set_option maxHeartbeats 4000000 in
theorem implJoinIncidents_any (xs : List Incident) (number other : Int) (A : Option Addr) (n c : Nat) (w : World) (hn : n ≤ 1048576) (hc : n ≤ c) (hs : Sl w A n xs) (hv : ∀ x, x ∈ xs → ∀ y, y ∈ x.Names → y.size ≤ maxLen) (hin : ∀ x, x ∈ xs → x.Names.length ≤ 1048576) :
    Calls Try.prog 45 #[.slice A n c, .int .i64 number, .int .i64 other] w (RetOwnX2 incidentN w 76 9 (joF xs number other)) := by
  have HV := Lib.hid hv
  have HIN := Lib.hid hin
  have HL := Lib.hid hs.1
  have hn' : (n : Int) ≤ 9223372036854775807 := by omega
  clear hv hin
  go_enter Try.func45, Try.ntmps45
  have hk0 := bl_refl w
  go_wp2_with fail
  refine (openAt_any xs number _ _ _ _ hn' hs).mono ?_
  rintro e V1 ⟨rfl, hb1⟩
  have hB1 := bl_trans (a := w) (bl_refl _) hb1
  have hk1 := bl_trans hk0 hB1
  have z1 := Lib.hid hB1.size
  go_wp2_with fail
  refine (openAt_any xs other _ _ _ _ hn' (hs.below hk1)).mono ?_
  rintro e V2 ⟨rfl, hb2⟩
  have hB2 := bl_trans (a := V1) (bl_refl _) hb2
  have hk2 := bl_trans hk1 hB2
  have z2 := Lib.hid hB2.size
  clear hk1
  have hg1 := (indexF_range (isO number) xs)
  have hg2 := (indexF_range (isO other) xs)
  obtain ⟨i, hi⟩ : ∃ i, i = openI xs number := ⟨_, rfl⟩
  obtain ⟨i2, hi2⟩ : ∃ i2, i2 = openI xs other := ⟨_, rfl⟩
  have hr1 : -1 ≤ i ∧ i < xs.length := by rw [hi]; exact hg1
  have hr2 : -1 ≤ i2 ∧ i2 < xs.length := by rw [hi2]; exact hg2
  rw [← hi, ← hi2]
  have Hi := Lib.hid hi
  have Hi2 := Lib.hid hi2
  clear hi hi2 hg1 hg2
  have HS := Lib.hid (hs.below hk2)
  have HS0 := Lib.hid hs
  clear hs
  cases h0 : incsB xs
  · have Hz := Lib.hid (joF_no (xs := xs) (number := number) (other := other) (by unfold jnC; rw [h0]; simp))
    go_wp2_with fail
    refine wp_region_grow (by kernel_rfl) (by kernel_rfl) (fun X hX => ?_)
    have hbX : Below V2.heap.size V2 X := by rw [hX]; exact bl_refl _
    have HX := Lib.hid hX
    clear hX
    repeat (go_big_quiet_step ((go_at_call 96; exact Calls.grow_of (areIncidents_any xs _ _ _ _ hn' hc ((HS.out.below hbX).below (Subtype.property _)) HV.out))))
    refine wpGrow_nil (fun V9 hV9 => ?_)
    have hb9 := bl_trans hbX hV9
    clear hV9 hbX HX 
    go_wp2
    go_ret2
    exact retOwnX2_nil (by decide) Hz.out (bl_trans hk2 hb9)
  by_cases h8 : i < 0
  · have hd : decide (i < 0) = true := by simpa using h8
    have Hz := Lib.hid (joF_no (xs := xs) (number := number) (other := other) (by unfold jnC; rw [← Hi.out, decide_eq_false (by omega : ¬ 0 ≤ i)]; simp))
    go_wp2_with fail
    refine wp_region_grow (by kernel_rfl) (by kernel_rfl) (fun X hX => ?_)
    have hbX : Below V2.heap.size V2 X := by rw [hX]; exact bl_refl _
    have HX := Lib.hid hX
    clear hX
    repeat (go_big_quiet_step ((go_at_call 96; exact Calls.grow_of (areIncidents_any xs _ _ _ _ hn' hc ((HS.out.below hbX).below (Subtype.property _)) HV.out))))
    refine wpGrow_nil (fun V9 hV9 => ?_)
    have hb9 := bl_trans hbX hV9
    clear hV9 hbX HX 
    go_wp2
    go_ret2
    exact retOwnX2_nil (by decide) Hz.out (bl_trans hk2 hb9)
  have hd : decide (i < 0) = false := by simpa using h8
  by_cases h9 : i2 < 0
  · have hd2 : decide (i2 < 0) = true := by simpa using h9
    have Hz := Lib.hid (joF_no (xs := xs) (number := number) (other := other) (by unfold jnC; rw [← Hi2.out, decide_eq_false (by omega : ¬ 0 ≤ i2)]; simp))
    go_wp2_with fail
    refine wp_region_grow (by kernel_rfl) (by kernel_rfl) (fun X hX => ?_)
    have hbX : Below V2.heap.size V2 X := by rw [hX]; exact bl_refl _
    have HX := Lib.hid hX
    clear hX
    repeat (go_big_quiet_step ((go_at_call 96; exact Calls.grow_of (areIncidents_any xs _ _ _ _ hn' hc ((HS.out.below hbX).below (Subtype.property _)) HV.out))))
    refine wpGrow_nil (fun V9 hV9 => ?_)
    have hb9 := bl_trans hbX hV9
    clear hV9 hbX HX 
    go_wp2
    go_ret2
    exact retOwnX2_nil (by decide) Hz.out (bl_trans hk2 hb9)
  have hd2 : decide (i2 < 0) = false := by simpa using h9
  obtain ⟨a, rfl⟩ := Int.eq_ofNat_of_zero_le (by omega : 0 ≤ i)
  obtain ⟨b, rfl⟩ := Int.eq_ofNat_of_zero_le (by omega : 0 ≤ i2)
  have hax : a < xs.length := by omega
  have hbx : b < xs.length := by omega
  have han : a < n := by have := HL.out; omega
  have hbn : b < n := by have := HL.out; omega
  clear hr1 hr2 h8 h9
  by_cases h7 : a = b
  · have hd3 : ((a : Int) == (b : Int)) = true := by simp [h7]
    have Hz := Lib.hid (joF_no (xs := xs) (number := number) (other := other) (by unfold jnC; rw [← Hi.out, ← Hi2.out, decide_eq_true (by omega : (a : Int) = (b : Int))]; simp))
    clear h7
    go_wp2_with fail
    refine wp_region_grow (by kernel_rfl) (by kernel_rfl) (fun X hX => ?_)
    have hbX : Below V2.heap.size V2 X := by rw [hX]; exact bl_refl _
    have HX := Lib.hid hX
    clear hX
    repeat (go_big_quiet_step ((go_at_call 96; exact Calls.grow_of (areIncidents_any xs _ _ _ _ hn' hc ((HS.out.below hbX).below (Subtype.property _)) HV.out))))
    refine wpGrow_nil (fun V9 hV9 => ?_)
    have hb9 := bl_trans hbX hV9
    clear hV9 hbX HX 
    go_wp2
    go_ret2
    exact retOwnX2_nil (by decide) Hz.out (bl_trans hk2 hb9)
  have hd3 : ((a : Int) == (b : Int)) = false := by simp; omega
  have hv := incs_iff.1 h0
  have l1 := vi_names hv _ (nth_mem hax)
  have l2 := vi_names hv _ (nth_mem hbx)
  have HVI := Lib.hid hv
  clear hv
  obtain ⟨b1, o1, A1, k1, e1, hz1, _, _, _, c3, _, _⟩ := HS0.out.incident han
  obtain ⟨b2, o2, A2, k2, e2, hz2, _, _, _, d3, hiB, _⟩ := HS0.out.incident hbn
  subst e1
  injection e2 with e2
  injection e2 with e2 e3
  subst e2 e3
  have c3 := cell_later hk2 c3
  have d3 := cell_later hk2 d3
  have hzV := World.block_lt_of_cell? _ _ c3
  have haI : (a : Int) < n := by omega
  have hbI : (b : Int) < n := by omega
  have haI2 : (a : Int) < xs.length := by omega
  have hbI2 : (b : Int) < xs.length := by omega
  have ha0 : (0 : Int) ≤ a := by omega
  have hb0 : (0 : Int) ≤ b := by omega
  have hac : a ≤ c := by omega
  have hbc : b ≤ c := by omega
  have w5 : IntKind.i64.wrap (((nth xs a).Names.length : Int) + ((nth xs b).Names.length : Int)) = ((nth xs a).Names.length : Int) + ((nth xs b).Names.length : Int) := IntWalk.i64_in _ (by omega)
  by_cases h6 : 12 < (nth xs a).Names.length + (nth xs b).Names.length
  · have hd4 : decide (((nth xs a).Names.length : Int) + ((nth xs b).Names.length : Int) > 12) = true := by simp; omega
    have Hz := Lib.hid (joF_no (xs := xs) (number := number) (other := other) (by unfold jnC; rw [← Hi.out, ← Hi2.out]; show (_ && decide ((nth xs a).Names.length + (nth xs b).Names.length ≤ 12)) = false; rw [decide_eq_false (by omega : ¬ (nth xs a).Names.length + (nth xs b).Names.length ≤ 12)]; simp))
    clear h6 h7
    go_wp2_with fail
    refine wp_region_grow (by kernel_rfl) (by kernel_rfl) (fun X hX => ?_)
    have hbX : Below V2.heap.size V2 X := by rw [hX]; exact bl_refl _
    have q_c3 := Gw.cell (cell_later hbX c3)
    have q_d3 := Gw.cell (cell_later hbX d3)
    have HX := Lib.hid hX
    clear hX
    repeat (go_big_quiet_step ((go_at_call 96; exact Calls.grow_of (areIncidents_any xs _ _ _ _ hn' hc ((HS.out.below hbX).below (Subtype.property _)) HV.out))))
    refine wpGrow_nil (fun V9 hV9 => ?_)
    have hb9 := bl_trans hbX hV9
    clear hV9 hbX HX q_c3 q_d3
    go_wp2
    go_ret2
    exact retOwnX2_nil (by decide) Hz.out (bl_trans hk2 hb9)
  have hd4 : decide (((nth xs a).Names.length : Int) + ((nth xs b).Names.length : Int) > 12) = false := by simp; omega
  have Hz := Lib.hid (joF_yes h0 Hi.out.symm Hi2.out.symm h7 (by omega : (nth xs a).Names.length + (nth xs b).Names.length ≤ 12))
  have H7 := Lib.hid h7
  have hl12 : (nth xs a).Names.length + (nth xs b).Names.length ≤ 12 := by omega
  clear h6 h7
  go_wp2_with fail
  refine wp_region_grow (by kernel_rfl) (by kernel_rfl) (fun X hX => ?_)
  have hbX : Below V2.heap.size V2 X := by rw [hX]; exact bl_refl _
  have q_c3 := Gw.cell (cell_later hbX c3)
  have q_d3 := Gw.cell (cell_later hbX d3)
  have HX := Lib.hid hX
  clear hX
  repeat (go_big_quiet_step ((go_at_call 96; exact Calls.grow_of (areIncidents_any xs _ _ _ _ hn' hc ((HS.out.below hbX).below (Subtype.property _)) HV.out))))
  refine wpGrow_nil (fun V9 hV9 => ?_)
  have hb9 := bl_trans hbX hV9
  clear hV9 hbX HX q_c3 q_d3
  have hk9 := bl_trans hk2 hb9
  have e3 := cell_later hb9 d3
  have hz9 := World.block_lt_of_cell? _ _ e3
  have HiB := Lib.hid hiB
  have HS9 := Lib.hid (HS.out.below hb9)
  have hxn : xs.length ≤ 1048576 := by rw [HL.out]; exact hn
  have z9 := Lib.hid hk9.size
  clear c3 d3 w5 hb9 hiB HS hz1 hz2 hzV hd3 hd4 h0 l1 l2
  go_wp2_with fail
  refine (copyIncidents_any xs _ _ _ _ hn HS9.out HIN.out).mono ?_
  rintro e VC ⟨A_c, c_c, F_c, rfl, ho_c, hbC⟩
  have hkC := bl_trans hk9 hbC
  have e4 := cell_later hbC e3
  have hzC := World.block_lt_of_cell? _ _ e4
  obtain ⟨ps, hp, _, hop⟩ := ho_c
  obtain ⟨g, rfl⟩ := hop.out.form (by omega : 0 < xs.length)
  have HOP := Lib.hid (hop.mono (b := w.heap.size) (by have := z9.out; omega))
  have hjc : xs.length ≤ c_c := hop.out.cap.1
  have HKC := Lib.hid hkC
  clear hop e3 hz9 hbC hk9 hkC HS9
  have HP0 : Hid (incidentN.plain ps = xs.set a (adN (nth xs a) ((nth xs b).Names.take 0))) := by rw [Hid, hp, List.take_zero, adN_nil]; exact (set_self hax).symm
  clear hp
  go_wp2
  go_loopw [59] (fun iv wr => ∃ (k : Nat) (ps' : List (IncidentR × List ByteArray)), k ≤ (nth xs b).Names.length ∧ iv = .int .i64 k ∧ OwnP incidentN wr w.heap.size 76 9 (.slice (some ⟨g, 0, none⟩) xs.length c_c) ps' ∧ Hid (incidentN.plain ps' = xs.set a (adN (nth xs a) ((nth xs b).Names.take k))) ∧ Below w.heap.size w wr) (fun iv _ => (nth xs b).Names.length - (intOf iv).toNat)
  case atStart => exact ⟨0, ps, Nat.zero_le _, rfl, HOP.out, HP0, HKC.out⟩
  case round =>
    obtain ⟨k, ps', hk, rfl, hop, hpl, hbw⟩ := hrel
    clear e4 hzC HOP HP0
    by_cases hlt : k < (nth xs b).Names.length
    · obtain ⟨b3, o3, rfl, hz3, n0⟩ := (HiB.out.below hbw).str hlt
      obtain ⟨p1, p2, p3⟩ := adT_props (k := k) HVI.out hax hbx H7.out
      have hyl : (xs.set a (adN (nth xs a) ((nth xs b).Names.take k))).length = xs.length := List.length_set
      have hya : nth (xs.set a (adN (nth xs a) ((nth xs b).Names.take k))) a = adN (nth xs a) ((nth xs b).Names.take k) := by rw [nth_set hax, if_pos rfl]
      rw [List.length_take] at p2
      have HC : Hid (Calls Try.prog 99 #[.pointer (some ⟨g, a * 4, none⟩), .string (nth (nth xs b).Names k)] wr fun e w' => ∃ ps2, e = .returned (.tuple #[]) ∧ OwnP incidentN w' w.heap.size 76 9 (.slice (some ⟨g, 0, none⟩) xs.length c_c) ps2 ∧ incidentN.plain ps2 = xs.set a (adN (nth xs a) ((nth xs b).Names.take (k + 1))) ∧ OnlyF (incidentN.foot (.slice (some ⟨g, 0, none⟩) xs.length c_c) ps') wr w') := by
        have h := addAt_any (xs.set a (adN (nth xs a) ((nth xs b).Names.take k))) a (nth (nth xs b).Names k) ps' g c_c w.heap.size wr (by rw [hyl]; exact hop) hpl.out (by rw [hyl]; exact hax) (by rw [hya, p2]; omega) (by rw [hya]; exact p1) hbw.size
        rw [hyl, hya, List.set_set, ← adN_succ hlt] at h
        exact h
      have HLI := Lib.hid hop.lies
      have HBW := Lib.hid hbw
      clear p1 p2 p3 hyl hya hop hpl hbw
      go_wp2_with fail
      refine HC.out.mono ?_
      rintro e V2 ⟨ps2, rfl, hop2, hp2, hf2⟩
      have hbw2 := below_only HBW.out hf2 HLI.out (Nat.le_refl _)
      clear hf2 n0
      go_wp2
      go_roundw
      case rel => exact ⟨k + 1, ps2, by omega, by go_num, hop2, hp2, hbw2⟩
      case measure => simp [intOf]; omega
    · obtain rfl : k = (nth xs b).Names.length := by omega
      rw [List.take_length] at hpl
      have hjl : b < ps'.length := by rw [hop.len]; exact hbx
      obtain ⟨p, hpq⟩ : ∃ p, ps'[b]? = some p := ⟨_, List.getElem?_eq_getElem hjl⟩
      have he : nth (ps'.map Prod.fst) b = p.1 := nth_get (by rw [List.getElem?_map, hpq]; rfl)
      have hx : Hid (nth (xs.set a (adN (nth xs a) (nth xs b).Names)) b = incidentN.of p.1 p.2) := nth_get (by rw [← hpl.out]; unfold Nest.plain; rw [List.getElem?_map, hpq]; rfl)
      have d2 : wr.cell? ⟨g, b * 4 + 2, none⟩ = some (.bool (nth (ps'.map Prod.fst) b).Closed) := hop.out.cellAt hbx 2 _ rfl
      have d3 : wr.cell? ⟨g, b * 4 + 3, none⟩ = some (.slice (nth (ps'.map Prod.fst) b).A (nth (ps'.map Prod.fst) b).n (nth (ps'.map Prod.fst) b).c) := hop.out.cellAt hbx 3 _ rfl
      have f2 := hop.out.frozenAt (b * 4 + 2)
      have f3 := hop.out.frozenAt (b * 4 + 3)
      have h1 : Hid (Own (wr.setCell ⟨g, b * 4 + 2, none⟩ (.bool true)) w.heap.size 76 (.slice (some ⟨g, 0, none⟩) xs.length c_c) ((ps'.map Prod.fst).set b (⟨p.1.Number, p.1.Node, true, p.1.A, p.1.n, p.1.c⟩ : IncidentR))) := by
        have hh := hop.out.put1 hbx 2 (by decide) (y := (⟨p.1.Number, p.1.Node, true, p.1.A, p.1.n, p.1.c⟩ : IncidentR)) (v := .bool true) (by rw [he]; rfl)
        exact hh
      have h2 : Hid (Own ((wr.setCell ⟨g, b * 4 + 2, none⟩ (.bool true)).setCell ⟨g, b * 4 + 3, none⟩ (.slice none 0 0)) w.heap.size 76 (.slice (some ⟨g, 0, none⟩) xs.length c_c) ((ps'.map Prod.fst).set b (⟨p.1.Number, p.1.Node, true, none, 0, 0⟩ : IncidentR))) := by
        have hh := h1.out.put1 hbx 3 (by decide) (y := (⟨p.1.Number, p.1.Node, true, none, 0, 0⟩ : IncidentR)) (v := .slice none 0 0) (by rw [nth_set_self (by rw [List.length_map]; exact hjl)]; rfl)
        rw [List.set_set] at hh
        exact hh
      have HOP := Lib.hid hop
      have HBW := Lib.hid hbw
      clear hop hbw he
      go_wp2
      go_ret2
      refine retOwnX2_mk Hz.out ?_ (HOP.out.upd (p' := ((⟨p.1.Number, p.1.Node, true, none, 0, 0⟩ : IncidentR), ([] : List ByteArray))) hpq h2.out (Own.nil _ _ _) (fun x hx1 => absurd hx1 (by simp [incidentN, Value.ownBlock])) ?_) ?_
      · rw [← jnL_alt H7.out hbx]; unfold Nest.plain at hpl ⊢; rw [List.map_set, hpl.out, hx.out]; rfl
      · repeat' (first | exact OnlyF.refl _ _ | refine OnlyF.set ?_ List.mem_cons_self _)
      · repeat' (first | exact HBW.out | refine bl_set ?_ (by have := (HOP.out.out.lt g rfl).1; simp only []; omega) _)

end Go.Proofs.Ytnaadihbkiakeaa

namespace Go.Proofs.Ytnaadihbkiakeaa
open Go.RowKit

theorem hv_join {xs : List Incident} {a b : Nat} (hv : ∀ x, x ∈ xs → ∀ y, y ∈ x.Names → y.size ≤ maxLen) (ha : a < xs.length) (hb : b < xs.length) (hp : ∀ t, t ∈ (adN (nth xs a) (nth xs b).Names).Names ↔ t ∈ (nth xs a).Names ∨ t ∈ (nth xs b).Names) : ∀ x, x ∈ jnL xs a b → ∀ y, y ∈ x.Names → y.size ≤ maxLen := fun x hx => by
  rcases List.mem_or_eq_of_mem_set hx with hx | rfl
  · rcases List.mem_or_eq_of_mem_set hx with hx | rfl
    · exact hv x hx
    · intro y hy; cases hy
  · intro y hy
    rcases (hp y).1 hy with h | h
    · exact hv _ (nth_mem ha) y h
    · exact hv _ (nth_mem hb) y h
theorem nth_clL {xs : List Incident} {a b : Nat} (ha : a < xs.length) (hab : a ≠ b) : nth (clL xs b) a = nth xs a := by unfold clL; rw [nth_set ha, if_neg (fun h => hab h.symm)]
theorem set_selfC {xs : List Incident} {a : Nat} (h : a < xs.length) : xs.set a (nth xs a) = xs := by rw [← nth_ge h]; exact List.set_getElem_self h
set_option maxRecDepth 100000 in
set_option maxHeartbeats 4000000 in
theorem specJoinIncidents_any (xs : List Incident) (number other : Int) (A : Option Addr) (n c : Nat) (w : World) (hn : n ≤ 1048576) (hc : n ≤ c) (hs : Sl w A n xs) (hv : ∀ x, x ∈ xs → ∀ y, y ∈ x.Names → y.size ≤ maxLen) (hin : ∀ x, x ∈ xs → x.Names.length ≤ 1048576) :
    Calls Try.prog 46 #[.slice A n c, .int .i64 number, .int .i64 other] w (RetOwnX2 incidentN w 76 9 (joF xs number other)) := by
  have HV := Lib.hid hv
  have HIN := Lib.hid hin
  have HL := Lib.hid hs.1
  have hn' : (n : Int) ≤ 9223372036854775807 := by omega
  clear hv hin
  go_enter Try.func46, Try.ntmps46
  have hk0 := bl_refl w
  go_wp2_with fail
  refine (ixFind_any xs number _ _ _ _ hn' hs).mono ?_
  rintro e V1 ⟨rfl, hb1⟩
  have hB1 := bl_trans (a := w) (bl_refl _) hb1
  have hk1 := bl_trans hk0 hB1
  have z1 := Lib.hid hB1.size
  go_wp2_with fail
  refine (ixFind_any xs other _ _ _ _ hn' (hs.below hk1)).mono ?_
  rintro e V2 ⟨rfl, hb2⟩
  have hB2 := bl_trans (a := V1) (bl_refl _) hb2
  have hk2 := bl_trans hk1 hB2
  have z2 := Lib.hid hB2.size
  clear hk1
  have hg1 := (indexF_range (isO number) xs)
  have hg2 := (indexF_range (isO other) xs)
  obtain ⟨i, hi⟩ : ∃ i, i = openI xs number := ⟨_, rfl⟩
  obtain ⟨i2, hi2⟩ : ∃ i2, i2 = openI xs other := ⟨_, rfl⟩
  have hr1 : -1 ≤ i ∧ i < xs.length := by rw [hi]; exact hg1
  have hr2 : -1 ≤ i2 ∧ i2 < xs.length := by rw [hi2]; exact hg2
  rw [← hi, ← hi2]
  have Hi := Lib.hid hi
  have Hi2 := Lib.hid hi2
  clear hi hi2 hg1 hg2
  go_wp2_with fail
  refine (ixGood_any xs _ _ _ _ hn' hc (hs.below hk2) HV.out).mono ?_
  rintro e V3 ⟨rfl, hb3⟩
  have hB3 := bl_trans (a := V2) (bl_refl _) hb3
  have hk3 := bl_trans hk2 hB3
  have z3 := Lib.hid hB3.size
  clear hk2
  cases h0 : incsB xs
  · have Hz := Lib.hid (joF_no (xs := xs) (number := number) (other := other) (by unfold jnC; rw [h0]; simp))
    clear h0
    go_wp2
    go_ret2
    exact retOwnX2_nil (by decide) Hz.out hk3
  have H0 := Lib.hid h0
  clear h0
  by_cases h8 : i < 0
  · have hd : decide (i < 0) = true := by simpa using h8
    have Hz := Lib.hid (joF_no (xs := xs) (number := number) (other := other) (by unfold jnC; rw [← Hi.out, decide_eq_false (by omega : ¬ 0 ≤ i)]; simp))
    go_wp2
    go_ret2
    exact retOwnX2_nil (by decide) Hz.out hk3
  have hd : decide (i < 0) = false := by simpa using h8
  by_cases h9 : i2 < 0
  · have hd2 : decide (i2 < 0) = true := by simpa using h9
    have Hz := Lib.hid (joF_no (xs := xs) (number := number) (other := other) (by unfold jnC; rw [← Hi2.out, decide_eq_false (by omega : ¬ 0 ≤ i2)]; simp))
    go_wp2
    go_ret2
    exact retOwnX2_nil (by decide) Hz.out hk3
  have hd2 : decide (i2 < 0) = false := by simpa using h9
  obtain ⟨a, rfl⟩ := Int.eq_ofNat_of_zero_le (by omega : 0 ≤ i)
  obtain ⟨b, rfl⟩ := Int.eq_ofNat_of_zero_le (by omega : 0 ≤ i2)
  have hax : a < xs.length := by omega
  have hbx : b < xs.length := by omega
  have han : a < n := by have := HL.out; omega
  have hbn : b < n := by have := HL.out; omega
  clear hr1 hr2 h8 h9
  by_cases h7 : a = b
  · have hd3 : ((a : Int) == (b : Int)) = true := by simp [h7]
    have Hz := Lib.hid (joF_no (xs := xs) (number := number) (other := other) (by unfold jnC; rw [← Hi.out, ← Hi2.out, decide_eq_true (by omega : (a : Int) = (b : Int))]; simp))
    clear h7
    go_wp2
    go_ret2
    exact retOwnX2_nil (by decide) Hz.out hk3
  have hd3 : ((a : Int) == (b : Int)) = false := by simp; omega
  have H7 := Lib.hid h7
  have hv := incs_iff.1 H0.out
  have l1 := vi_names hv _ (nth_mem hax)
  have l2 := vi_names hv _ (nth_mem hbx)
  have HVI := Lib.hid hv
  have HGd := Lib.hid (join_good hv hax (open_at Hi.out.symm).2.2 hbx h7)
  clear hv h7
  obtain ⟨b2, o2, A2, k2, rfl, hz2, _, _, _, d3, hiB, _⟩ := hs.incident hbn
  have HiB := Lib.hid hiB
  have hbI : (b : Int) < n := by omega
  have hb0 : (0 : Int) ≤ b := by omega
  have hbc : b ≤ c := by omega
  have hxn : xs.length ≤ 1048576 := by rw [HL.out]; exact hn
  clear hiB
  go_wp2_with fail
  refine (ixClose_any xs b _ _ _ _ hn (hs.below hk3) HIN.out hbn).mono ?_
  rintro e V4 ⟨A_c, c_c, F_c, rfl, ho_c, hb4⟩
  have hB4 := bl_trans (a := V3) (bl_refl _) hb4
  have hk4 := bl_trans hk3 hB4
  have z4 := Lib.hid hB4.size
  clear hk3
  obtain ⟨ps, hp, _, hop⟩ := ho_c
  have hpC : incidentN.plain ps = clL xs b := hp
  have HOP : Hid (OwnP incidentN V4 w.heap.size 76 9 (.slice A_c xs.length c_c) ps) := by have h := hop.mono (b := w.heap.size) (by have := z1.out; have := z2.out; have := z3.out; have := z4.out; omega); rw [List.length_set] at h; exact h
  have HP0 : Hid (incidentN.plain ps = (clL xs b).set a (adN (nth xs a) ((nth xs b).Names.take 0))) := by rw [Hid, hpC, List.take_zero, adN_nil, ← nth_clL hax H7.out]; exact (set_selfC (by rw [clL_len]; exact hax)).symm
  have HK := Lib.hid hk4
  have d4 := cell_later HK.out d3
  have hz4 := World.block_lt_of_cell? _ _ d4
  clear d3 hz2 hs hop hp hpC
  go_wp2
  go_loopw [10, 44] (fun tv iv wr => ∃ (k c' : Nat) (A' : Option Addr) (ps' : List (IncidentR × List ByteArray)), k ≤ (nth xs b).Names.length ∧ iv = .int .i64 k ∧ tv = .slice A' xs.length c' ∧ OwnP incidentN wr w.heap.size 76 9 (.slice A' xs.length c') ps' ∧ Hid (incidentN.plain ps' = (clL xs b).set a (adN (nth xs a) ((nth xs b).Names.take k))) ∧ Below w.heap.size w wr) (fun _ iv _ => (nth xs b).Names.length - (intOf iv).toNat)
  case atStart => exact ⟨0, c_c, A_c, ps, Nat.zero_le _, rfl, rfl, HOP.out, HP0, HK.out⟩
  case round =>
    obtain ⟨k, c', A', ps', hk, rfl, rfl, hop, hpl, hbw⟩ := hrel
    clear d4 hz4
    by_cases hlt : k < (nth xs b).Names.length
    · obtain ⟨b3, o3, rfl, hz3, n0⟩ := (HiB.out.below hbw).str hlt
      obtain ⟨p1, p2, p3⟩ := adT_props (k := k) HVI.out hax hbx H7.out
      have hyl : ((clL xs b).set a (adN (nth xs a) ((nth xs b).Names.take k))).length = xs.length := by rw [List.length_set, clL_len]
      have hya : nth ((clL xs b).set a (adN (nth xs a) ((nth xs b).Names.take k))) a = adN (nth xs a) ((nth xs b).Names.take k) := by rw [nth_set (by rw [clL_len]; exact hax), if_pos rfl]
      rw [List.length_take] at p2
      have hin2 : ∀ x, x ∈ (clL xs b).set a (adN (nth xs a) ((nth xs b).Names.take k)) → x.Names.length ≤ 1048576 := fun x hx => by
        have := set_names (m := 24) (set_names (m := 24) (fun x hx => Nat.le_trans (vi_names HVI.out x hx) (by omega)) (Nat.zero_le _)) (by rw [p2]; omega) x hx
        omega
      have HC : Hid (Calls Try.prog 103 #[.slice A' xs.length c', .int .i64 a, .string (nth (nth xs b).Names k)] wr (RetOwnX incidentN wr 76 9 ((clL xs b).set a (adN (nth xs a) ((nth xs b).Names.take (k + 1)))))) := by
        have hsl := hop.sl
        rw [hpl.out] at hsl
        have h := ixAdd_any ((clL xs b).set a (adN (nth xs a) ((nth xs b).Names.take k))) a (nth (nth xs b).Names k) A' xs.length c' wr hxn hsl hin2 hax (by rw [hya]; exact adT_no HVI.out hax hbx H7.out hlt)
        rw [hya, List.set_set, ← adN_succ hlt] at h
        exact h
      have HBW := Lib.hid hbw
      clear p1 p2 p3 hyl hya hop hpl hbw hin2
      have hyl2 : Hid (((clL xs b).set a (adN (nth xs a) ((nth xs b).Names.take (k + 1)))).length = xs.length) := by rw [Hid, List.length_set, clL_len]
      go_wp2_with fail
      refine HC.out.mono ?_
      rintro e V2 ⟨A_d, c_d, F_d, rfl, ho_d, hb2⟩
      obtain ⟨ps2, hp2, _, hop2⟩ := ho_d
      rw [hyl2.out] at hop2 ⊢
      have hop3 := hop2.mono (b := w.heap.size) HBW.out.size
      have hbw2 := bl_trans HBW.out hb2
      clear hb2 n0 hop2
      go_wp2
      go_roundw
      case rel => exact ⟨k + 1, c_d, A_d, ps2, by omega, by go_num, rfl, hop3, hp2, hbw2⟩
      case measure => simp [intOf]; omega
    · obtain rfl : k = (nth xs b).Names.length := by omega
      rw [List.take_length] at hpl
      have hpJ : incidentN.plain ps' = jnL xs a b := hpl.out
      have p3 := (adT_props (k := (nth xs b).Names.length) HVI.out hax hbx H7.out).2.2
      rw [List.take_length] at p3
      have HVJ := Lib.hid (hv_join HV.out hax hbx p3)
      have hsl := hop.sl
      rw [hpJ] at hsl
      have hcc := hop.out.cap.1
      have HOP2 := Lib.hid hop
      have HBW := Lib.hid hbw
      clear hpl p3 hop hbw
      go_wp2_with fail
      refine (ixIf_any (jnL xs a b) _ _ _ _ _ (by omega) hcc hsl HVJ.out HGd.out).mono ?_
      rintro e V9 ⟨rfl, hb9⟩
      have hbk := bl_trans HBW.out hb9
      have HO9 := Lib.hid (HOP2.out.below hb9)
      clear hsl hcc hb9
      cases h8 : decide ((nth xs a).Names.length + (nth xs b).Names.length ≤ 12)
      · have Hz := Lib.hid (joF_no (xs := xs) (number := number) (other := other) (by unfold jnC; rw [← Hi.out, ← Hi2.out]; show (_ && decide ((nth xs a).Names.length + (nth xs b).Names.length ≤ 12)) = false; rw [h8]; simp))
        clear h8 HO9
        go_wp2
        go_ret2
        exact retOwnX2_nil (by decide) Hz.out hbk
      · have Hz := Lib.hid (joF_yes H0.out Hi.out.symm Hi2.out.symm H7.out (of_decide_eq_true h8))
        clear h8
        go_wp2
        go_ret2
        exact retOwnX2_mk Hz.out hpJ HO9.out hbk

end Go.Proofs.Ytnaadihbkiakeaa

namespace Go.Proofs.Ytnaadihbkiakeaa
open Go.RowKit

set_option maxRecDepth 100000 in
set_option maxHeartbeats 4000000 in
theorem implCommit_any (xs : List Incident) (number : Int) (nm : ByteArray) (A : Option Addr) (n c : Nat) (w : World) (hz : nm.size ≤ maxLen) (hn : n ≤ 1048576) (hc : n ≤ c) (hs : Sl w A n xs) (hv : ∀ x, x ∈ xs → ∀ y, y ∈ x.Names → y.size ≤ maxLen) (hin : ∀ x, x ∈ xs → x.Names.length ≤ 1048576) :
    Calls Try.prog 34 #[.slice A n c, .int .i64 number, .string nm] w (RetOwnX2 incidentN w 76 9 (cmF xs number nm)) := by
  have HV := Lib.hid hv
  have HIN := Lib.hid hin
  have HL := Lib.hid hs.1
  have hn' : (n : Int) ≤ 9223372036854775807 := by omega
  clear hv hin
  go_enter Try.func34, Try.ntmps34
  have hk0 := bl_refl w
  go_wp2_with fail
  refine (openAt_any xs number _ _ _ _ hn' hs).mono ?_
  rintro e V1 ⟨rfl, hb1⟩
  have hB1 := bl_trans (a := w) (bl_refl _) hb1
  have hk1 := bl_trans hk0 hB1
  have z1 := Lib.hid hB1.size
  have hge := indexF_range (isO number) xs
  obtain ⟨i, hi⟩ : ∃ i, i = openI xs number := ⟨_, rfl⟩
  have hge2 : -1 ≤ i ∧ i < xs.length := by rw [hi]; exact hge
  rw [← hi]
  have hi' := Lib.hid hi
  clear hi hge
  go_wp2_with fail
  refine (areIncidents_any xs _ _ _ _ hn' hc (hs.below hk1) HV.out).mono ?_
  rintro e V2 ⟨rfl, hb2⟩
  have hB2 := bl_trans (a := V1) (bl_refl _) hb2
  have hk2 := bl_trans hk1 hB2
  have z2 := Lib.hid hB2.size
  clear hk1
  cases h0 : incsB xs
  · have Hz := Lib.hid (cmF_no (xs := xs) (number := number) (s := nm) (by rw [h0]; first | done | simp))
    clear h0
    go_wp2
    go_ret2
    exact retOwnX2_nil (by decide) Hz.out hk2
  have H0 := Lib.hid h0
  clear h0
  by_cases h8 : i < 0
  · have hd : decide (i < 0) = true := by simpa using h8
    have Hz := Lib.hid (cmF_no (xs := xs) (number := number) (s := nm) (by rw [← hi'.out, decide_eq_false (by omega : ¬ 0 ≤ i)]; simp))
    go_wp2
    go_ret2
    exact retOwnX2_nil (by decide) Hz.out hk2
  have hd : decide (i < 0) = false := by simpa using h8
  obtain ⟨j, rfl⟩ := Int.eq_ofNat_of_zero_le (by omega : 0 ≤ i)
  have hjx : j < xs.length := by omega
  have hjn : j < n := by have := HL.out; omega
  clear hge2 h8
  go_wp2_with fail
  refine (isName_any nm _ hz).mono ?_
  rintro e V3 ⟨rfl, hb3⟩
  have hB3 := bl_trans (a := V2) (bl_refl _) hb3
  have hk3 := bl_trans hk2 hB3
  have z3 := Lib.hid hB3.size
  clear hk2
  cases h1 : nameB nm
  · have Hz := Lib.hid (cmF_no (xs := xs) (number := number) (s := nm) (by rw [h1]; first | done | simp))
    clear h1
    go_wp2
    go_ret2
    exact retOwnX2_nil (by decide) Hz.out hk3
  have H1 := Lib.hid h1
  clear h1
  obtain ⟨b, o, A', c', rfl, hbz, c0, c1, c2, c3, _, hil⟩ := (hs.below hk3).incident hjn
  have hv := incs_iff.1 H0.out
  have h12 : (nth xs j).Names.length ≤ 12 := vi_names hv _ (nth_mem hjx)
  have HSN : Hid (sortB (nth xs j).Names = true) := (incB_split (hv.one j hjx)).2.2.2.1
  clear c0 c1 c2 hil hv
  go_wp2_with fail
  refine (committedAt_any xs nm _ _ _ _ hn' (hs.below hk3)).mono ?_
  rintro e V4 ⟨rfl, hb4⟩
  have c4 := cell_later hb4 c3
  have hbz4 := World.block_lt_of_cell? _ _ c4
  clear c3 hbz
  have hB4 := bl_trans (a := V3) (bl_refl _) hb4
  have hk4 := bl_trans hk3 hB4
  have z4 := Lib.hid hB4.size
  clear hk3
  obtain ⟨q, hq⟩ : ∃ q, q = atB xs nm := ⟨_, rfl⟩
  rw [← hq]
  have HQ := Lib.hid hq
  clear hq
  by_cases h9 : q < 0
  rotate_left
  · have hd2 : decide (q ≥ 0) = true := by simp; omega
    have Hz := Lib.hid (cmF_no (xs := xs) (number := number) (s := nm) (by rw [← HQ.out, decide_eq_false h9]; simp))
    clear h9 c4
    go_wp2
    go_ret2
    exact retOwnX2_nil (by decide) Hz.out hk4
  have hd2 : decide (q ≥ 0) = false := by simp; omega
  have ha9 : atB xs nm < 0 := by rw [← HQ.out]; exact h9
  by_cases h7 : (nth xs j).Names.length = 12
  · have hd3 : (((nth xs j).Names.length : Int) == 12) = true := by simp [h7]
    have Hz := Lib.hid (cmF_no (xs := xs) (number := number) (s := nm) (by rw [← hi'.out]; show (_ && decide ((nth xs j).Names.length < 12)) = false; rw [decide_eq_false (show ¬ (nth xs j).Names.length < 12 by omega)]; simp))
    clear h7 h9 ha9 h12
    go_wp2
    go_ret2
    exact retOwnX2_nil (by decide) Hz.out hk4
  have hd3 : (((nth xs j).Names.length : Int) == 12) = false := by simp; omega
  have Hz := Lib.hid (cmF_yes H0.out H1.out hi'.out.symm ha9 (by omega : (nth xs j).Names.length < 12))
  have hxn : xs.length ≤ 1048576 := by rw [HL.out]; exact hn
  have HA9 := Lib.hid ha9
  clear h9 h7 ha9
  go_wp2_with fail
  refine (copyIncidents_any xs _ _ _ _ hn (hs.below hk4) HIN.out).mono ?_
  rintro e V5 ⟨A_c, c_c, F_c, rfl, ho_c, hb5⟩
  clear c4 hbz4
  have hB5 := bl_trans (a := V4) (bl_refl _) hb5
  have hk5 := bl_trans hk4 hB5
  have z5 := Lib.hid hB5.size
  clear hk4
  obtain ⟨ps, hp, _, hop⟩ := ho_c
  obtain ⟨g, rfl⟩ := hop.out.form (by omega : 0 < xs.length)
  have hjl : j < ps.length := by rw [hop.len]; exact hjx
  obtain ⟨p, hpq⟩ : ∃ p, ps[j]? = some p := ⟨_, List.getElem?_eq_getElem hjl⟩
  have he : nth (ps.map Prod.fst) j = p.1 := nth_get (by rw [List.getElem?_map, hpq]; rfl)
  have hx : Hid (nth xs j = incidentN.of p.1 p.2) := nth_get (by rw [← hp]; unfold Nest.plain; rw [List.getElem?_map, hpq]; rfl)
  have hjc : xs.length ≤ c_c := hop.out.cap.1
  have hjI : (j : Int) < xs.length := by omega
  have hj0 : (0 : Int) ≤ j := by omega
  have HW := Lib.hid hk5
  have d3 : V5.cell? ⟨g, j * 4 + 3, none⟩ = some (.slice (nth (ps.map Prod.fst) j).A (nth (ps.map Prod.fst) j).n (nth (ps.map Prod.fst) j).c) := hop.out.cellAt hjx 3 _ rfl
  have f3 := hop.out.frozenAt (j * 4 + 3)
  rw [he] at d3
  have hin := hop.inn j p hpq
  have hpn : p.2.length = p.1.n := hin.sl.1
  have hpl : (nth xs j).Names = p.2 := by rw [hx.out]; rfl
  have hsep : ∀ y, (.slice p.1.A p.1.n p.1.c : Value).ownBlock = some y → y ≠ g := fun y hy hyg => hop.sep (k := g) rfl hpq (by rw [← hyg]; exact hy)
  have hpnn : p.1.n ≤ 1048575 := by rw [← hpn, ← hpl]; omega
  have HSP : Hid (sortB p.2 = true) := by rw [Hid, ← hpl]; exact HSN.out
  have HOP := Lib.hid hop
  have HSEP := Lib.hid hsep
  have HIN2 := Lib.hid hin
  have HPL := Lib.hid hpl
  have HPN := Lib.hid hpn
  clear hop hsep hin hs hpn hpl
  go_wp2_with fail
  refine (add_any g (j * 4) nm p.1.A p.1.n p.1.c w.heap.size p.2 _ hpnn d3 f3 (HIN2.out.mono (by have := z1.out; have := z2.out; have := z3.out; have := z4.out; have := z5.out; omega)) HSEP.out HSP.out (by have := z1.out; have := z2.out; have := z3.out; have := z4.out; have := z5.out; omega)).mono ?_
  rintro e V9 ⟨A8, c8, V8, rfl, rfl, ho8, hof8, hbk8⟩
  have hg8 : OnlyF (g :: (.slice p.1.A p.1.n p.1.c : Value).ownBlock.toList) V5 (V8.setCell ⟨g, j * 4 + 3, none⟩ (.slice A8 (p.1.n + 1) c8)) := OnlyF.set (hof8.mono (fun y hy => List.mem_cons_of_mem _ hy)) List.mem_cons_self _
  have hown8 : Own V8 w.heap.size 76 (.slice (some ⟨g, 0, none⟩) xs.length c_c) (ps.map Prod.fst) := (HOP.out.out.mono (by have := z1.out; have := z2.out; have := z3.out; have := z4.out; have := z5.out; omega)).only hof8 (fun y hy hm' => HSEP.out y (by simpa using hm') (by simpa [Value.ownBlock] using hy))
  have h2 : Own (V8.setCell ⟨g, j * 4 + 3, none⟩ (.slice A8 (p.1.n + 1) c8)) w.heap.size 76 (.slice (some ⟨g, 0, none⟩) xs.length c_c) ((ps.map Prod.fst).set j (⟨p.1.Number, p.1.Node, p.1.Closed, A8, p.1.n + 1, c8⟩ : IncidentR)) := by
    have hh := hown8.put1 hjx 3 (by decide) (y := (⟨p.1.Number, p.1.Node, p.1.Closed, A8, p.1.n + 1, c8⟩ : IncidentR)) (v := .slice A8 (p.1.n + 1) c8) (by rw [he]; rfl)
    exact hh
  have hne8 : ∀ y, Value.ownBlock (.slice A8 (p.1.n + 1) c8) = some y → y ≠ g := fun y hy hyg => by
    obtain ⟨cu1, e1⟩ := ho8.ty hy
    obtain ⟨cu2, e2⟩ := hown8.ty (k := g) rfl
    rw [hyg, e2] at e1
    injection e1 with e1
    injection e1 with _ e3
    exact absurd e3 (by decide)
  have hblk8 : ∀ x, Value.ownBlock (.slice A8 (p.1.n + 1) c8) = some x → (incidentN.hdr p.1).ownBlock = some x ∨ ∀ (q' : Nat) r, ps[q']? = some r → (incidentN.hdr r.1).ownBlock ≠ some x := fun x hx1 => (hbk8 x hx1).imp id (fun h q' r hr hx2 => by have := ((HOP.out.inn q' r hr).lt x hx2).2; omega)
  clear hbk8
  have ho9 : Own (V8.setCell ⟨g, j * 4 + 3, none⟩ (.slice A8 (p.1.n + 1) c8)) w.heap.size 9 (.slice A8 (p.1.n + 1) c8) (insQ p.2 (posS p.2 nm) nm) := ho8.only (OnlyF.set (OnlyF.refl _ _) (List.mem_singleton.2 rfl) _) (fun y hy hm' => hne8 y (by simpa using hy) (List.mem_singleton.1 hm'))
  have hbk : Below w.heap.size w (V8.setCell ⟨g, j * 4 + 3, none⟩ (.slice A8 (p.1.n + 1) c8)) := by
    have hb8 := below_only HW.out hof8 (fun y hy => HIN2.out.lt y (own_mem hy)) (by have := z1.out; have := z2.out; have := z3.out; have := z4.out; have := z5.out; omega)
    exact bl_set hb8 (by have := (HOP.out.out.lt g rfl).1; simp only []; have := z1.out; have := z2.out; have := z3.out; have := z4.out; have := z5.out; omega) _
  have hup := (HOP.out.mono (b := w.heap.size) (by have := z1.out; have := z2.out; have := z3.out; have := z4.out; have := z5.out; omega)).upd (p' := ((⟨p.1.Number, p.1.Node, p.1.Closed, A8, p.1.n + 1, c8⟩ : IncidentR), insQ p.2 (posS p.2 nm) nm)) hpq h2 ho9 (fun x hx1 => hblk8 x hx1) hg8
  have HUP := Lib.hid hup
  clear hg8 hown8 h2 ho9 hup hof8 ho8 d3 f3 hne8 hblk8
  go_wp2
  go_ret2
  refine retOwnX2_mk Hz.out ?_ HUP.out hbk
  unfold Nest.plain at hp ⊢; rw [List.map_set, hp]; unfold adX; rw [HPL.out, hx.out]; rfl

end Go.Proofs.Ytnaadihbkiakeaa

namespace Go.Proofs.Ytnaadihbkiakeaa
open Go.RowKit Go.WideShapes Go.ChangeShapes Go.ChangeAt Go.Deep

/-- A list in memory is plain data, too: the slice value of one cell. -/
instance {α : Type} [Deep α] : Deep (List α) where
  sz := 1
  pos := by omega
  rep := fun w cs xs => ∃ A c, cs = [.slice A xs.length c] ∧ Sl w A xs.length xs ∧ xs.length ≤ maxLen
  len := fun {_ _ _} h => by obtain ⟨A, c, rfl, _⟩ := h; rfl
  keep := fun {_ _ _ _} k h => by obtain ⟨A, c, e, hs, hl⟩ := h; exact ⟨A, c, e, hs.keep k, hl⟩

/-- What every datum that can be read keeps to. -/
class Ok (α : Type) where
  ok : α → Prop
instance : Ok Int := ⟨fun x => -9223372036854775808 ≤ x ∧ x ≤ 9223372036854775807⟩
instance : Ok Bool := ⟨fun _ => True⟩
instance : Ok ByteArray := ⟨fun s => s.size ≤ maxLen⟩
instance {α : Type} [Ok α] : Ok (List α) := ⟨fun xs => ∀ x, x ∈ xs → Ok.ok x⟩
/-- Whatever reads at type t reads as an α. -/
def Opens (P : Program) (t : TypeId) (α : Type) [Deep α] [Ok α] : Prop :=
  ∀ {H : Type} {enc : TypeId × Value → H} {w : World} {base : Nat} {sp : Nat → Bool} {held : Bool} {fuel : Nat} {cs : List Value} {x : DataW H × List MemPlace},
    DataW.trod enc P w base sp held fuel t cs = some x → ∃ y : α, Deep.rep w cs y ∧ Ok.ok y

theorem opens_int {P : Program} {t : TypeId} (ht : P.underlying t = some (.int .i64)) : Opens P t Int := fun h => by
  obtain ⟨n, rfl, _, hw⟩ := DataW.trod_int ht h
  exact ⟨n, rfl, by simpa [Ok.ok, Lit.wf, IntKind.min, IntKind.max, IntKind.signed, IntKind.bits] using hw⟩
theorem opens_string {P : Program} {t : TypeId} (ht : P.underlying t = some .string) : Opens P t ByteArray := fun h => by
  obtain ⟨n, rfl, _, hw⟩ := DataW.trod_string ht h
  exact ⟨n, rfl, hw⟩

theorem opens_bool {P : Program} {t : TypeId} (ht : P.underlying t = some .bool) : Opens P t Bool := fun h => by
  obtain ⟨n, rfl, _⟩ := DataW.trod_bool ht h
  exact ⟨n, rfl, trivial⟩
/-- A field of one cell, at its place in the struct's cells. -/
theorem opens_field {P : Program} {t : TypeId} {α : Type} [Deep α] [Ok α] (ho : Opens P t α) (hc : P.cellsOf t = 1) {H : Type} {enc : TypeId × Value → H} {w : World} {base : Nat} {sp : Nat → Bool} {held : Bool} {fuel off : Nat} {cs : List Value}
    {xs : List (DataW H × List MemPlace)} {i : Nat} (h : DataW.trod enc P w base sp held fuel t ((cs.drop off).take (P.cellsOf t)) = xs[i]?) (hi : i < xs.length) (hl : off < cs.length) :
    ∃ (c : Value) (y : α), cs[off]? = some c ∧ Deep.rep w [c] y ∧ Ok.ok y := by
  rw [List.getElem?_eq_getElem hi, hc] at h
  obtain ⟨y, hy, hk⟩ := ho h
  refine ⟨cs[off], y, List.getElem?_eq_getElem hl, ?_, hk⟩
  have e : (cs.drop off).take 1 = [cs[off]] := by rw [List.drop_eq_getElem_cons hl]; rfl
  rwa [e] at hy
theorem list2 {cs : List Value} {a b : Value} (h : cs.length = 2) (h0 : cs[0]? = some a) (h1 : cs[1]? = some b) : cs = [a, b] := by
  match cs, h with
  | [x, y], _ => simp at h0 h1; subst h0; subst h1; rfl
theorem list3 {cs : List Value} {a b c : Value} (h : cs.length = 3) (h0 : cs[0]? = some a) (h1 : cs[1]? = some b) (h2 : cs[2]? = some c) : cs = [a, b, c] := by
  match cs, h with
  | [x, y, z], _ => simp at h0 h1 h2; subst h0; subst h1; subst h2; rfl
theorem list4 {cs : List Value} {a b c d : Value} (h : cs.length = 4) (h0 : cs[0]? = some a) (h1 : cs[1]? = some b) (h2 : cs[2]? = some c) (h3 : cs[3]? = some d) : cs = [a, b, c, d] := by
  match cs, h with
  | [x, y, z, t], _ => simp at h0 h1 h2 h3; subst h0; subst h1; subst h2; subst h3; rfl
theorem list5 {cs : List Value} {a b c d e : Value} (h : cs.length = 5) (h0 : cs[0]? = some a) (h1 : cs[1]? = some b) (h2 : cs[2]? = some c) (h3 : cs[3]? = some d) (h4 : cs[4]? = some e) : cs = [a, b, c, d, e] := by
  match cs, h with
  | [x, y, z, t, u], _ => simp at h0 h1 h2 h3 h4; subst h0; subst h1; subst h2; subst h3; subst h4; rfl
theorem sl_choose {α : Type} [Deep α] [Ok α] {w : World} {b o n : Nat} (h : ∀ i, i < n → ∃ (x : α) (cs : List Value), (Deep.rep w cs x ∧ Ok.ok x) ∧ ∀ j v, cs[j]? = some v → w.cell? ⟨b, o + i * Deep.sz α + j, none⟩ = some v) :
    ∃ xs : List α, Sl w (some ⟨b, o, none⟩) n xs ∧ Ok.ok xs := by
  induction n with
  | zero => exact ⟨[], Sl.nil _ _, fun _ h => by cases h⟩
  | succ n ih =>
    obtain ⟨xs, ⟨hl, hx⟩, hok⟩ := ih (fun i hi => h i (by omega))
    obtain ⟨x, cs, ⟨hr, hkx⟩, hc⟩ := h n (by omega)
    refine ⟨xs ++ [x], ⟨by simp [hl], fun k y hy => ?_⟩, fun y hy => by
      rcases List.mem_append.1 hy with hy | hy
      · exact hok y hy
      · simp at hy; subst hy; exact hkx⟩
    rcases Nat.lt_or_ge k n with hk | hk
    · rw [List.getElem?_append_left (by omega)] at hy
      exact hx k y hy
    · have hk2 : k < (xs ++ [x]).length := (List.getElem?_eq_some_iff.1 hy).1
      obtain rfl : k = n := by simp [hl] at hk2; omega
      rw [List.getElem?_append_right (by omega)] at hy
      simp [hl] at hy
      subst hy
      exact ⟨b, o, cs, rfl, hr, hc⟩

theorem opens_slice {P : Program} {t e : TypeId} {α : Type} [Deep α] [Ok α] (ht : P.underlying t = some (.slice e)) (hsz : P.cellsOf e = Deep.sz α) (he : Opens P e α) : Opens P t (List α) := fun {_ _ w _ _ _ _ _ _} h => by
  rcases open_slice ht h with ⟨rfl, _⟩ | ⟨a, len, cap, m, n, D, Pl, rfl, hb, hl, hm, hmm, _, hx⟩
  · exact ⟨[], ⟨none, 0, rfl, Sl.nil _ _, by simp [maxLen]⟩, fun _ h => by cases h⟩
  · have hlm : len ≤ m := by rw [hmm]; split <;> omega
    by_cases h0 : len = 0
    · subst h0
      exact ⟨[], ⟨some a, cap, rfl, Sl.nil _ _, by simp [maxLen]⟩, fun _ h => by cases h⟩
    · have hp := Deep.pos (α := α)
      have hspot : a = ⟨a.block, a.off, none⟩ := by
        obtain ⟨cs', hc, ht'⟩ := hx 0 (by omega)
        obtain ⟨_, hlen, hat⟩ := World.cells?_some hc
        have h1 := hat 0 (by omega)
        rw [List.getElem?_eq_getElem (by omega)] at h1
        have e : (a.add (0 * P.cellsOf e)).add 0 = a := by simp [Addr.add]
        rw [e] at h1
        rcases a with ⟨b, o, s⟩
        cases s with
        | none => rfl
        | some s => simp [World.cell?] at h1; split at h1 <;> cases h1
      obtain ⟨xs, hs, hok⟩ := sl_choose (α := α) (w := w) (b := a.block) (o := a.off) (n := len) (fun i hi => by
        obtain ⟨cs', hc, ht'⟩ := hx i (by omega)
        obtain ⟨_, hlen, hat⟩ := World.cells?_some hc
        obtain ⟨y, hy⟩ := he ht'
        refine ⟨y, cs', hy, fun j v hv => ?_⟩
        have hj : j < P.cellsOf e := by rw [← hlen]; exact (List.getElem?_eq_some_iff.1 hv).1
        have h1 := hat j hj
        rw [hspot, addr_add, addr_add, hv, hsz] at h1
        exact h1)
      have hl2 := hs.1
      refine ⟨xs, ⟨some a, cap, by rw [hl2], ?_, by omega⟩, hok⟩
      rw [hl2, hspot]
      exact hs

section
variable {H : Type} {enc : TypeId × Value → H} {P : Program}
theorem trodAll_stays (hl : laidOutB P = true) {W W' : World} {sp : Nat → Bool} (hsame : ∀ p : MemPlace, p.block < W.heap.size → W.sameAt W' p) : ∀ (ts : List TypeId) (vs : List Value) (ds : List (DataW H)) (ps : List MemPlace),
    (∀ t ∈ ts, P.readableRec t = true ∧ t < P.types.size) → DataW.TrodAll enc P W 0 (fun _ => true) true ts vs ds ps → (∀ p ∈ ps, p.block < W.heap.size) → (∀ p ∈ ps, sp p.block = true) → DataW.TrodAll enc P W' 0 sp true ts vs ds ps
  | [], _, _, _, _, h, _, _ => by obtain ⟨rfl, rfl, rfl⟩ := trodAll_nil h; exact trodAll_mk0
  | t :: ts, vs, ds, ps, hr, h, hlt, hsp => by
    obtain ⟨v, vs', d, ds', p, q, rfl, rfl, rfl, h0, h1⟩ := trodAll_cons h
    have hr0 := hr t (List.mem_cons_self)
    exact trodAll_cons_mk (WideElems.Trod_stays hl hr0.1 hr0.2 h0 (fun x hx => hsame x (hlt x (List.mem_append_left _ hx))) (fun x hx => hsp x (List.mem_append_left _ hx)))
      (trodAll_stays hl hsame ts vs' ds' q (fun t' ht' => hr t' (List.mem_cons_of_mem _ ht')) h1 (fun x hx => hlt x (List.mem_append_right _ hx)) (fun x hx => hsp x (List.mem_append_right _ hx)))

/-- The row's last step: the call answered true, and nothing that was there has turned. -/
theorem post_law {f : Func} {s : ChangeSpec} {tb : TypeId} {W W' : World} {args : Array Value} {ds gs : List (DataW H)} {before : List MemPlace}
    (hl : laidOutB P = true) (hb : P.underlying tb = some .bool) (hrt : f.resultTypes = #[tb]) (hv0 : s.vars = []) (hr : f.params.toList.all (fun t => P.readableRec t && decide (t < P.types.size)) = true)
    (hs : (s.fn H (ds ++ gs)).results = [.lit (.bool true)] ∧ (s.fn H (ds ++ gs)).args = ds ∧ (s.fn H (ds ++ gs)).vars = [])
    (hW : DataW.Whole enc P f.params.toList s.vars false W args.toList ds gs before) (hbe : Below W.heap.size W W') :
    s.post enc P f false true false false W args (.bool true) W' := by
  have hlt : ∀ p ∈ before, p.block < W.heap.size := fun p hp => hW.lt p hp
  obtain ⟨p, q, hA, hV, rfl, hz, hn⟩ := id hW
  rw [hv0] at hV
  obtain ⟨rfl, rfl⟩ := trodVars_none hV
  rw [List.append_nil] at hs
  have hr' : ∀ t ∈ f.params.toList, P.readableRec t = true ∧ t < P.types.size := fun t ht => by
    have := List.all_eq_true.1 hr t ht
    simpa using this
  have hargs : ∀ sp : Nat → Bool, (∀ x ∈ p, sp x.block = true) → DataW.TrodAll enc P W' 0 sp true f.params.toList args.toList ds p := fun sp hsp =>
    trodAll_stays hl (fun x hx => hbe.same hx) _ _ _ _ hr' hA (fun x hx => hlt x (by simpa using hx)) hsp
  have hres : ∀ (b : Nat) (sp : Nat → Bool) (hd : Bool), DataW.TrodAll enc P W' b sp hd f.resultTypes.toList (Value.resultList f.resultTypes.size (.bool true)) [.lit (.bool true)] [] := fun b sp hd => by
    rw [hrt]
    exact trodAll_mk1 (shut_bool hb true)
  have hold : ∀ x ∈ p, (fun b => decide (b < W.heap.size)) x.block = true := fun x hx => by simpa using hlt x (by simpa using hx)
  refine ⟨ds, [], p ++ [], [], p, [], hW, ?_, ?_, ?_, World.keptBut_mono (fun _ hx => hx.elim) (hbe.frame (fun _ => False)), fun h => by cases h⟩
  · rw [List.append_nil, hs.1]; exact hres _ _ _
  · rw [List.append_nil, hs.2.1]; exact hargs _ hold
  · rw [List.append_nil, hs.2.2, hv0]; exact rfl
end
end Go.Proofs.Ytnaadihbkiakeaa
