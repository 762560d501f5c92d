/-
  Commit: the program's answer. No conditions.
-/
import Derived.Test.YtkgjbijkjlmomaaIcA
import Derived.Test.YtkgjbijkjlmomaaIcR1
import Derived.Test.YtkgjbijkjlmomaaIcLen
import Derived.Test.YtkgjbijkjlmomaaIcO
import Derived.Test.YtkgjbijkjlmomaaIcM
namespace Go.Proofs.Ytkgjbijkjlmomaa
open Go.RowKit

set_option maxRecDepth 100000 in
set_option maxHeartbeats 4000000 in
theorem implCommit_any (xs : List Incident) (number : Int) (nm : ByteArray) (A : Option Addr) (n c : Nat) (w : World) (hz : nm.size ≤ maxLen) (hn : n ≤ 1048576) (hc : n ≤ c) (hs : Sl w A n xs) (hv : ∀ x, x ∈ xs → ∀ y, y ∈ x.Names → y.size ≤ maxLen) (hin : ∀ x, x ∈ xs → x.Names.length ≤ 1048576) :
    Calls Try.prog 22 #[.slice A n c, .int .i64 number, .string nm] w (RetOwnX2 incidentN w 56 9 (cmF xs number nm)) := by
  have HV := Lib.hid hv
  have HIN := Lib.hid hin
  have HL := Lib.hid hs.1
  have hn' : (n : Int) ≤ 9223372036854775807 := by omega
  clear hv hin
  go_enter Try.func22, Try.ntmps22
  have hk0 := bl_refl w
  go_wp2_with fail
  refine (openAt_any xs number _ _ _ _ hn' hs).mono ?_
  rintro e V1 ⟨rfl, hb1⟩
  have hB1 := bl_trans (a := w) (bl_refl _) hb1
  have hk1 := bl_trans hk0 hB1
  have z1 := Lib.hid hB1.size
  have hge := indexF_range (isO number) xs
  obtain ⟨i, hi⟩ : ∃ i, i = openI xs number := ⟨_, rfl⟩
  have hge2 : -1 ≤ i ∧ i < xs.length := by rw [hi]; exact hge
  rw [← hi]
  have hi' := Lib.hid hi
  clear hi hge
  go_wp2_with fail
  refine (areIncidents_any xs _ _ _ _ hn' hc (hs.below hk1) HV.out).mono ?_
  rintro e V2 ⟨rfl, hb2⟩
  have hB2 := bl_trans (a := V1) (bl_refl _) hb2
  have hk2 := bl_trans hk1 hB2
  have z2 := Lib.hid hB2.size
  clear hk1
  cases h0 : incsB xs
  · have Hz := Lib.hid (cmF_no (xs := xs) (number := number) (s := nm) (by rw [h0]; first | done | simp))
    clear h0
    go_wp2
    go_ret2
    exact retOwnX2_nil (by decide) Hz.out hk2
  have H0 := Lib.hid h0
  clear h0
  by_cases h8 : i < 0
  · have hd : decide (i < 0) = true := by simpa using h8
    have Hz := Lib.hid (cmF_no (xs := xs) (number := number) (s := nm) (by rw [← hi'.out, decide_eq_false (by omega : ¬ 0 ≤ i)]; simp))
    go_wp2
    go_ret2
    exact retOwnX2_nil (by decide) Hz.out hk2
  have hd : decide (i < 0) = false := by simpa using h8
  obtain ⟨j, rfl⟩ := Int.eq_ofNat_of_zero_le (by omega : 0 ≤ i)
  have hjx : j < xs.length := by omega
  have hjn : j < n := by have := HL.out; omega
  clear hge2 h8
  go_wp2_with fail
  refine (isName_any nm _ hz).mono ?_
  rintro e V3 ⟨rfl, hb3⟩
  have hB3 := bl_trans (a := V2) (bl_refl _) hb3
  have hk3 := bl_trans hk2 hB3
  have z3 := Lib.hid hB3.size
  clear hk2
  cases h1 : nameB nm
  · have Hz := Lib.hid (cmF_no (xs := xs) (number := number) (s := nm) (by rw [h1]; first | done | simp))
    clear h1
    go_wp2
    go_ret2
    exact retOwnX2_nil (by decide) Hz.out hk3
  have H1 := Lib.hid h1
  clear h1
  obtain ⟨b, o, A', c', rfl, hbz, c0, c1, c2, c3, _, hil⟩ := (hs.below hk3).incident hjn
  have hv := incs_iff.1 H0.out
  have h12 : (nth xs j).Names.length ≤ 12 := vi_names hv _ (nth_mem hjx)
  have HSN : Hid (sortB (nth xs j).Names = true) := (incB_split (hv.one j hjx)).2.2.2.1
  clear c0 c1 c2 hil hv
  go_wp2_with fail
  refine (committedAt_any xs nm _ _ _ _ hn' (hs.below hk3)).mono ?_
  rintro e V4 ⟨rfl, hb4⟩
  have c4 := cell_later hb4 c3
  have hbz4 := World.block_lt_of_cell? _ _ c4
  clear c3 hbz
  have hB4 := bl_trans (a := V3) (bl_refl _) hb4
  have hk4 := bl_trans hk3 hB4
  have z4 := Lib.hid hB4.size
  clear hk3
  obtain ⟨q, hq⟩ : ∃ q, q = atB xs nm := ⟨_, rfl⟩
  rw [← hq]
  have HQ := Lib.hid hq
  clear hq
  by_cases h9 : q < 0
  rotate_left
  · have hd2 : decide (q ≥ 0) = true := by simp; omega
    have Hz := Lib.hid (cmF_no (xs := xs) (number := number) (s := nm) (by rw [← HQ.out, decide_eq_false h9]; simp))
    clear h9 c4
    go_wp2
    go_ret2
    exact retOwnX2_nil (by decide) Hz.out hk4
  have hd2 : decide (q ≥ 0) = false := by simp; omega
  have ha9 : atB xs nm < 0 := by rw [← HQ.out]; exact h9
  by_cases h7 : (nth xs j).Names.length = 12
  · have hd3 : (((nth xs j).Names.length : Int) == 12) = true := by simp [h7]
    have Hz := Lib.hid (cmF_no (xs := xs) (number := number) (s := nm) (by rw [← hi'.out]; show (_ && decide ((nth xs j).Names.length < 12)) = false; rw [decide_eq_false (show ¬ (nth xs j).Names.length < 12 by omega)]; simp))
    clear h7 h9 ha9 h12
    go_wp2
    go_ret2
    exact retOwnX2_nil (by decide) Hz.out hk4
  have hd3 : (((nth xs j).Names.length : Int) == 12) = false := by simp; omega
  have Hz := Lib.hid (cmF_yes H0.out H1.out hi'.out.symm ha9 (by omega : (nth xs j).Names.length < 12))
  have hxn : xs.length ≤ 1048576 := by rw [HL.out]; exact hn
  have HA9 := Lib.hid ha9
  clear h9 h7 ha9
  go_wp2_with fail
  refine (copyIncidents_any xs _ _ _ _ hn (hs.below hk4) HIN.out).mono ?_
  rintro e V5 ⟨A_c, c_c, F_c, rfl, ho_c, hb5⟩
  clear c4 hbz4
  have hB5 := bl_trans (a := V4) (bl_refl _) hb5
  have hk5 := bl_trans hk4 hB5
  have z5 := Lib.hid hB5.size
  clear hk4
  obtain ⟨ps, hp, _, hop⟩ := ho_c
  obtain ⟨g, rfl⟩ := hop.out.form (by omega : 0 < xs.length)
  have hjl : j < ps.length := by rw [hop.len]; exact hjx
  obtain ⟨p, hpq⟩ : ∃ p, ps[j]? = some p := ⟨_, List.getElem?_eq_getElem hjl⟩
  have he : nth (ps.map Prod.fst) j = p.1 := nth_get (by rw [List.getElem?_map, hpq]; rfl)
  have hx : Hid (nth xs j = incidentN.of p.1 p.2) := nth_get (by rw [← hp]; unfold Nest.plain; rw [List.getElem?_map, hpq]; rfl)
  have hjc : xs.length ≤ c_c := hop.out.cap.1
  have hjI : (j : Int) < xs.length := by omega
  have hj0 : (0 : Int) ≤ j := by omega
  have HW := Lib.hid hk5
  have d3 : V5.cell? ⟨g, j * 4 + 3, none⟩ = some (.slice (nth (ps.map Prod.fst) j).A (nth (ps.map Prod.fst) j).n (nth (ps.map Prod.fst) j).c) := hop.out.cellAt hjx 3 _ rfl
  have f3 := hop.out.frozenAt (j * 4 + 3)
  rw [he] at d3
  have hin := hop.inn j p hpq
  have hpn : p.2.length = p.1.n := hin.sl.1
  have hpl : (nth xs j).Names = p.2 := by rw [hx.out]; rfl
  have hsep : ∀ y, (.slice p.1.A p.1.n p.1.c : Value).ownBlock = some y → y ≠ g := fun y hy hyg => hop.sep (k := g) rfl hpq (by rw [← hyg]; exact hy)
  have hpnn : p.1.n ≤ 1048575 := by rw [← hpn, ← hpl]; omega
  have HSP : Hid (sortB p.2 = true) := by rw [Hid, ← hpl]; exact HSN.out
  have HOP := Lib.hid hop
  have HSEP := Lib.hid hsep
  have HIN2 := Lib.hid hin
  have HPL := Lib.hid hpl
  have HPN := Lib.hid hpn
  clear hop hsep hin hs hpn hpl
  go_wp2_with fail
  refine (add_any g (j * 4) nm p.1.A p.1.n p.1.c w.heap.size p.2 _ hpnn d3 f3 (HIN2.out.mono (by have := z1.out; have := z2.out; have := z3.out; have := z4.out; have := z5.out; omega)) HSEP.out HSP.out (by have := z1.out; have := z2.out; have := z3.out; have := z4.out; have := z5.out; omega)).mono ?_
  rintro e V9 ⟨A8, c8, V8, rfl, rfl, ho8, hof8, hbk8⟩
  have hg8 : OnlyF (g :: (.slice p.1.A p.1.n p.1.c : Value).ownBlock.toList) V5 (V8.setCell ⟨g, j * 4 + 3, none⟩ (.slice A8 (p.1.n + 1) c8)) := OnlyF.set (hof8.mono (fun y hy => List.mem_cons_of_mem _ hy)) List.mem_cons_self _
  have hown8 : Own V8 w.heap.size 56 (.slice (some ⟨g, 0, none⟩) xs.length c_c) (ps.map Prod.fst) := (HOP.out.out.mono (by have := z1.out; have := z2.out; have := z3.out; have := z4.out; have := z5.out; omega)).only hof8 (fun y hy hm' => HSEP.out y (by simpa using hm') (by simpa [Value.ownBlock] using hy))
  have h2 : Own (V8.setCell ⟨g, j * 4 + 3, none⟩ (.slice A8 (p.1.n + 1) c8)) w.heap.size 56 (.slice (some ⟨g, 0, none⟩) xs.length c_c) ((ps.map Prod.fst).set j (⟨p.1.Number, p.1.Node, p.1.Closed, A8, p.1.n + 1, c8⟩ : IncidentR)) := by
    have hh := hown8.put1 hjx 3 (by decide) (y := (⟨p.1.Number, p.1.Node, p.1.Closed, A8, p.1.n + 1, c8⟩ : IncidentR)) (v := .slice A8 (p.1.n + 1) c8) (by rw [he]; rfl)
    exact hh
  have hne8 : ∀ y, Value.ownBlock (.slice A8 (p.1.n + 1) c8) = some y → y ≠ g := fun y hy hyg => by
    obtain ⟨cu1, e1⟩ := ho8.ty hy
    obtain ⟨cu2, e2⟩ := hown8.ty (k := g) rfl
    rw [hyg, e2] at e1
    injection e1 with e1
    injection e1 with _ e3
    exact absurd e3 (by decide)
  have hblk8 : ∀ x, Value.ownBlock (.slice A8 (p.1.n + 1) c8) = some x → (incidentN.hdr p.1).ownBlock = some x ∨ ∀ (q' : Nat) r, ps[q']? = some r → (incidentN.hdr r.1).ownBlock ≠ some x := fun x hx1 => (hbk8 x hx1).imp id (fun h q' r hr hx2 => by have := ((HOP.out.inn q' r hr).lt x hx2).2; omega)
  clear hbk8
  have ho9 : Own (V8.setCell ⟨g, j * 4 + 3, none⟩ (.slice A8 (p.1.n + 1) c8)) w.heap.size 9 (.slice A8 (p.1.n + 1) c8) (insQ p.2 (posS p.2 nm) nm) := ho8.only (OnlyF.set (OnlyF.refl _ _) (List.mem_singleton.2 rfl) _) (fun y hy hm' => hne8 y (by simpa using hy) (List.mem_singleton.1 hm'))
  have hbk : Below w.heap.size w (V8.setCell ⟨g, j * 4 + 3, none⟩ (.slice A8 (p.1.n + 1) c8)) := by
    have hb8 := below_only HW.out hof8 (fun y hy => HIN2.out.lt y (own_mem hy)) (by have := z1.out; have := z2.out; have := z3.out; have := z4.out; have := z5.out; omega)
    exact bl_set hb8 (by have := (HOP.out.out.lt g rfl).1; simp only []; have := z1.out; have := z2.out; have := z3.out; have := z4.out; have := z5.out; omega) _
  have hup := (HOP.out.mono (b := w.heap.size) (by have := z1.out; have := z2.out; have := z3.out; have := z4.out; have := z5.out; omega)).upd (p' := ((⟨p.1.Number, p.1.Node, p.1.Closed, A8, p.1.n + 1, c8⟩ : IncidentR), insQ p.2 (posS p.2 nm) nm)) hpq h2 ho9 (fun x hx1 => hblk8 x hx1) hg8
  have HUP := Lib.hid hup
  clear hg8 hown8 h2 ho9 hup hof8 ho8 d3 f3 hne8 hblk8
  go_wp2
  go_ret2
  refine retOwnX2_mk Hz.out ?_ HUP.out hbk
  unfold Nest.plain at hp ⊢; rw [List.map_set, hp]; unfold adX; rw [HPL.out, hx.out]; rfl

end Go.Proofs.Ytkgjbijkjlmomaa
