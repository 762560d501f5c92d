/-
  CloseIncident: the program's answer. No conditions.
-/
import Derived.Test.YtkgjbijkjlmomaaIcC
import Derived.Test.YtkgjbijkjlmomaaIcO
import Derived.Test.YtkgjbijkjlmomaaIncM
namespace Go.Proofs.Ytkgjbijkjlmomaa
open Go.RowKit

set_option maxRecDepth 100000 in
set_option maxHeartbeats 4000000 in
theorem implCloseIncident_any (xs : List Incident) (number : Int) (A : Option Addr) (n c : Nat) (w : World) (hn : n ≤ 1048576) (hc : n ≤ c) (hs : Sl w A n xs) (hv : ∀ x, x ∈ xs → ∀ y, y ∈ x.Names → y.size ≤ maxLen) (hin : ∀ x, x ∈ xs → x.Names.length ≤ 1048576) :
    Calls Try.prog 18 #[.slice A n c, .int .i64 number] w (RetOwnX2 incidentN w 56 9 (clF xs number)) := by
  have HV := Lib.hid hv
  have HIN := Lib.hid hin
  have HL := Lib.hid hs.1
  have hn' : (n : Int) ≤ 9223372036854775807 := by omega
  clear hv hin
  go_enter Try.func18, Try.ntmps18
  have hk0 := bl_refl w
  go_wp2_with fail
  refine (openAt_any xs number _ _ _ _ hn' hs).mono ?_
  rintro e V1 ⟨rfl, hb1⟩
  have hB1 := bl_trans (a := w) (bl_refl _) hb1
  have hk1 := bl_trans hk0 hB1
  have z1 := Lib.hid hB1.size
  have hge := indexF_range (isO number) xs
  obtain ⟨i, hi⟩ : ∃ i, i = openI xs number := ⟨_, rfl⟩
  have hge2 : -1 ≤ i ∧ i < xs.length := by rw [hi]; exact hge
  rw [← hi]
  have hi' := Lib.hid hi
  clear hi hge
  go_wp2_with fail
  refine (areIncidents_any xs _ _ _ _ hn' hc (hs.below hk1) HV.out).mono ?_
  rintro e V2 ⟨rfl, hb2⟩
  have hB2 := bl_trans (a := V1) (bl_refl _) hb2
  have hk2 := bl_trans hk1 hB2
  have z2 := Lib.hid hB2.size
  clear hk1
  cases h0 : incsB xs
  · have Hz := Lib.hid (clF_no (xs := xs) (number := number) (by rw [h0]; first | done | simp))
    clear h0
    go_wp2
    go_ret2
    exact retOwnX2_nil (by decide) Hz.out hk2
  have H0 := Lib.hid h0
  clear h0
  by_cases h8 : i < 0
  · have hd : decide (i < 0) = true := by simpa using h8
    have Hz := Lib.hid (clF_no (xs := xs) (number := number) (by rw [← hi'.out, decide_eq_false (by omega : ¬ 0 ≤ i)]; simp))
    go_wp2
    go_ret2
    exact retOwnX2_nil (by decide) Hz.out hk2
  have hd : decide (i < 0) = false := by simpa using h8
  obtain ⟨j, rfl⟩ := Int.eq_ofNat_of_zero_le (by omega : 0 ≤ i)
  have hjx : j < xs.length := by omega
  have hxn : xs.length ≤ 1048576 := by rw [HL.out]; exact hn
  have Hz := Lib.hid (clF_yes H0.out hi'.out.symm)
  clear hge2 h8
  go_wp2_with fail
  refine (copyIncidents_any xs _ _ _ _ hn (hs.below hk2) HIN.out).mono ?_
  rintro e V3 ⟨A_c, c_c, F_c, rfl, ho_c, hb3⟩
  have hB3 := bl_trans (a := V2) (bl_refl _) hb3
  have hk3 := bl_trans hk2 hB3
  have z3 := Lib.hid hB3.size
  clear hk2
  obtain ⟨ps, hp, _, hop⟩ := ho_c
  obtain ⟨g, rfl⟩ := hop.out.form (by omega : 0 < xs.length)
  have hjl : j < ps.length := by rw [hop.len]; exact hjx
  obtain ⟨p, hpq⟩ : ∃ p, ps[j]? = some p := ⟨_, List.getElem?_eq_getElem hjl⟩
  have he : nth (ps.map Prod.fst) j = p.1 := nth_get (by rw [List.getElem?_map, hpq]; rfl)
  have hx : Hid (nth xs j = incidentN.of p.1 p.2) := nth_get (by rw [← hp]; unfold Nest.plain; rw [List.getElem?_map, hpq]; rfl)
  have hjc : xs.length ≤ c_c := hop.out.cap.1
  have hjI : (j : Int) < xs.length := by omega
  have hj0 : (0 : Int) ≤ j := by omega
  have HW := Lib.hid hk3
  have d2 : V3.cell? ⟨g, j * 4 + 2, none⟩ = some (.bool (nth (ps.map Prod.fst) j).Closed) := hop.out.cellAt hjx 2 _ rfl
  have d3 : V3.cell? ⟨g, j * 4 + 3, none⟩ = some (.slice (nth (ps.map Prod.fst) j).A (nth (ps.map Prod.fst) j).n (nth (ps.map Prod.fst) j).c) := hop.out.cellAt hjx 3 _ rfl
  have f2 := hop.out.frozenAt (j * 4 + 2)
  have f3 := hop.out.frozenAt (j * 4 + 3)
  have h1 : Hid (Own (V3.setCell ⟨g, j * 4 + 2, none⟩ (.bool true)) w.heap.size 56 (.slice (some ⟨g, 0, none⟩) xs.length c_c) ((ps.map Prod.fst).set j (⟨p.1.Number, p.1.Node, true, p.1.A, p.1.n, p.1.c⟩ : IncidentR))) := by
    have hh := (Own.mono hop.out (base' := w.heap.size) (by have := z1.out; have := z2.out; have := z3.out; omega)).put1 hjx 2 (by decide) (y := (⟨p.1.Number, p.1.Node, true, p.1.A, p.1.n, p.1.c⟩ : IncidentR)) (v := .bool true) (by rw [he]; rfl)
    exact hh
  have h2 : Hid (Own ((V3.setCell ⟨g, j * 4 + 2, none⟩ (.bool true)).setCell ⟨g, j * 4 + 3, none⟩ (.slice none 0 0)) w.heap.size 56 (.slice (some ⟨g, 0, none⟩) xs.length c_c) ((ps.map Prod.fst).set j (⟨p.1.Number, p.1.Node, true, none, 0, 0⟩ : IncidentR))) := by
    have hh := h1.out.put1 hjx 3 (by decide) (y := (⟨p.1.Number, p.1.Node, true, none, 0, 0⟩ : IncidentR)) (v := .slice none 0 0) (by rw [nth_set_self (by rw [List.length_map]; exact hjl)]; rfl)
    rw [List.set_set] at hh
    exact hh
  have HOP := Lib.hid (hop.mono (b := w.heap.size) (by have := z1.out; have := z2.out; have := z3.out; omega))
  clear hop
  go_wp2
  go_ret2
  refine retOwnX2_mk Hz.out ?_ (HOP.out.upd (p' := ((⟨p.1.Number, p.1.Node, true, none, 0, 0⟩ : IncidentR), ([] : List ByteArray))) hpq h2.out (Own.nil _ _ _) (fun x hx => absurd hx (by simp [incidentN, Value.ownBlock])) ?_) ?_
  · unfold Nest.plain at hp ⊢; rw [List.map_set, hp, hx.out]; rfl
  · repeat' (first | exact OnlyF.refl _ _ | refine OnlyF.set ?_ List.mem_cons_self _)
  · repeat' (first | exact HW.out | refine bl_set ?_ (by have := (HOP.out.out.lt g rfl).1; simp only []; omega) _)

end Go.Proofs.Ytkgjbijkjlmomaa
