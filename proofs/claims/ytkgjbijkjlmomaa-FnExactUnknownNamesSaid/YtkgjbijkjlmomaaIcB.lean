/-
  A name committed: the reference's copy. No conditions.
-/
import Derived.Test.YtkgjbijkjlmomaaIcA
import Derived.Test.YtkgjbijkjlmomaaIncM
namespace Go.Proofs.Ytkgjbijkjlmomaa
open Go.RowKit

theorem rfPutQ (l : List ByteArray) (s : ByteArray) (A : Option Addr) (n c : Nat) (w : World) (hn : n ≤ 1048576) (hc : n ≤ c) (hcm : (c : Int) ≤ 9223372036854775807) (hs : Sl w A n l) (hno : s ∉ l) :
    Calls Try.prog 61 #[.slice A n c, .string s] w (RetOwn w 9 (insQ l (posS l s) s)) :=
  rfPut_any l s A n c (posS l s) w hn hc hcm hs (by rw [← hs.1]; exact posS_le _ _) (fun j hj => posS_lo hj) (fun hq => by
    have hq' : posS l s < l.length := by rw [hs.1]; exact hq
    refine ⟨posS_hi hq', ?_⟩
    cases hc : ((nth l (posS l s)).toList == s.toList) with
    | false => rfl
    | true =>
      have h := nth_mem hq'
      rw [bytes_inj (a := nth l (posS l s)) (b := s) (by simpa using hc)] at h
      exact absurd h hno)
theorem hv_ad {xs : List Incident} {j : Nat} {s : ByteArray} (hv : ∀ x, x ∈ xs → ∀ y, y ∈ x.Names → y.size ≤ maxLen) (hz : s.size ≤ maxLen) (hj : j < xs.length) : ∀ x, x ∈ xs.set j (adX (nth xs j) s) → ∀ y, y ∈ x.Names → y.size ≤ maxLen := fun x hx => by
  rcases List.mem_or_eq_of_mem_set hx with hx | rfl
  · exact hv x hx
  · intro y hy
    rcases insQ_mem.1 hy with rfl | hy
    · exact hz
    · exact hv _ (nth_mem hj) y hy
set_option maxRecDepth 100000 in
set_option maxHeartbeats 8000000 in
theorem ixAdd_any (xs : List Incident) (j : Nat) (nm : ByteArray) (A : Option Addr) (n c : Nat) (w : World) (hn : n ≤ 1048576) (hs : Sl w A n xs) (hin : ∀ x, x ∈ xs → x.Names.length ≤ 1048576) (hj : j < n) (hno : nm ∉ (nth xs j).Names) :
    Calls Try.prog 56 #[.slice A n c, .int .i64 j, .string nm] w (RetOwnX incidentN w 56 9 (xs.set j (adX (nth xs j) nm))) := by
  have HIN := Lib.hid hin
  have HL := Lib.hid hs.1
  clear hin
  go_enter Try.func56, Try.ntmps56
  have hk0 := bl_refl w
  go_wp2_with fail
  refine (ixOwn_any xs _ _ _ _ hn hs HIN.out).mono ?_
  rintro e V1 ⟨A_c, c_c, F_c, rfl, ho_c, hb1⟩
  have hB1 := bl_trans (a := w) (bl_refl _) hb1
  have hk1 := bl_trans hk0 hB1
  have z1 := Lib.hid hB1.size
  have hjx : j < xs.length := by rw [HL.out]; exact hj
  obtain ⟨ps, hp, _, hop⟩ := ho_c
  obtain ⟨g, rfl⟩ := hop.out.form (by omega : 0 < xs.length)
  have hjl : j < ps.length := by rw [hop.len]; exact hjx
  obtain ⟨p, hpq⟩ : ∃ p, ps[j]? = some p := ⟨_, List.getElem?_eq_getElem hjl⟩
  have he : nth (ps.map Prod.fst) j = p.1 := nth_get (by rw [List.getElem?_map, hpq]; rfl)
  have hx : Hid (nth xs j = incidentN.of p.1 p.2) := nth_get (by rw [← hp]; unfold Nest.plain; rw [List.getElem?_map, hpq]; rfl)
  have hjc : xs.length ≤ c_c := hop.out.cap.1
  have hjI : (j : Int) < xs.length := by omega
  have hj0 : (0 : Int) ≤ j := by omega
  have HW := Lib.hid hk1
  have hnl : (nth xs j).Names.length ≤ 1048576 := HIN.out _ (nth_mem hjx)
  have d0 : V1.cell? ⟨g, j * 4, none⟩ = some (.int .i64 (nth (ps.map Prod.fst) j).Number) := hop.out.cellAt hjx 0 _ rfl
  have d1 : V1.cell? ⟨g, j * 4 + 1, none⟩ = some (.int .i64 (nth (ps.map Prod.fst) j).Node) := hop.out.cellAt hjx 1 _ rfl
  have d2 : V1.cell? ⟨g, j * 4 + 2, none⟩ = some (.bool (nth (ps.map Prod.fst) j).Closed) := hop.out.cellAt hjx 2 _ rfl
  have d3 : V1.cell? ⟨g, j * 4 + 3, none⟩ = some (.slice (nth (ps.map Prod.fst) j).A (nth (ps.map Prod.fst) j).n (nth (ps.map Prod.fst) j).c) := hop.out.cellAt hjx 3 _ rfl
  have f0 := hop.out.frozenAt (j * 4)
  have f1 := hop.out.frozenAt (j * 4 + 1)
  have f2 := hop.out.frozenAt (j * 4 + 2)
  have f3 := hop.out.frozenAt (j * 4 + 3)
  rw [he] at d0 d1 d2 d3
  have hin := hop.inn j p hpq
  have hpl : (nth xs j).Names = p.2 := by rw [hx.out]; rfl
  have hpn : p.2.length = p.1.n := hin.sl.1
  have hpnn : p.1.n ≤ 1048576 := by rw [← hpn, ← hpl]; exact hnl
  obtain ⟨hpc, hpm⟩ := hin.cap
  have hpm2 : (p.1.c : Int) ≤ 9223372036854775807 := by unfold maxLen at hpm; omega
  have HR : Hid (∀ V, Sl V p.1.A p.1.n p.2 → Calls Try.prog 61 #[.slice p.1.A p.1.n p.1.c, .string nm] V (RetOwn V 9 (insQ p.2 (posS p.2 nm) nm))) := fun V hV => rfPutQ p.2 nm _ _ _ V hpnn hpc hpm2 hV (by rw [← hpl]; exact hno)
  obtain ⟨M, hM⟩ : ∃ M, M = insQ p.2 (posS p.2 nm) nm := ⟨_, rfl⟩
  rw [← hM] at HR
  have HM := Lib.hid hM
  have HPL := Lib.hid hpl
  have HOP := Lib.hid hop
  have HIN2 : Hid (Own V1 w.heap.size 9 (.slice p.1.A p.1.n p.1.c) p.2) := hin
  have hgz : g < V1.heap.size := World.block_lt_of_cell? _ _ d0
  clear hs hin hop hk0 hB1 hk1 hno hpl hpn hpc hpm hpm2 hnl hM
  go_wp2_with fail
  refine (HR.out _ (HIN2.out.sl.below (bl_alloc (bl_refl _) _))).mono ?_
  rintro e V2 ⟨A2, c2, rfl, ho2, hb2⟩
  have y0 : V2.cell? ⟨V1.heap.size, 0, none⟩ = some (.int .i64 p.1.Number) := cell_later hb2 (by go_simp)
  have y1 : V2.cell? ⟨V1.heap.size, 1, none⟩ = some (.int .i64 p.1.Node) := cell_later hb2 (by go_simp)
  have y2 : V2.cell? ⟨V1.heap.size, 2, none⟩ = some (.bool p.1.Closed) := cell_later hb2 (by go_simp)
  have y3 : V2.cell? ⟨V1.heap.size, 3, none⟩ = some (.slice p.1.A p.1.n p.1.c) := cell_later hb2 (by go_simp)
  have z3 : V2.frozen? ⟨V1.heap.size, 3, none⟩ = false := frozen_later hb2 (by simp) (by go_simp)
  have hz2 : V1.heap.size < V2.heap.size := World.block_lt_of_cell? _ _ y0
  have HB2 : Hid (Below V1.heap.size V1 V2) := bl_trans (bl_alloc (bl_refl _) _) hb2
  have HO2 : Hid (Own V2 (V1.heap.size + 1) 9 (.slice A2 M.length c2) M) := Own.mono ho2 (by simp)
  clear ho2 hb2 d0 d1 d2 d3 f0 f1 f2 f3
  go_upto_region 4 with fail
  refine wp_hideI (R := fun X => OnlyF [V1.heap.size] V2 X ∧ V1.heap.size < X.heap.size ∧ X.cell? ⟨V1.heap.size, 0, none⟩ = some (.int .i64 p.1.Number) ∧ X.cell? ⟨V1.heap.size, 1, none⟩ = some (.int .i64 p.1.Node) ∧ X.cell? ⟨V1.heap.size, 2, none⟩ = some (.bool p.1.Closed) ∧ X.cell? ⟨V1.heap.size, 3, none⟩ = some (.slice A2 M.length c2)) ⟨OnlyF.set (OnlyF.refl _ _) (List.mem_singleton.2 rfl) _, by simpa using hz2, by go_simp, by go_simp, by go_simp, by go_simp⟩ (fun X ⟨hfX, hXz, e0, e1, e2, e3⟩ => ?_)
  clear y0 y1 y2 y3 z3
  have hbX : Below V1.heap.size V1 X := below_only HB2.out hfX (fun y hy => by rw [List.mem_singleton.1 hy]; exact ⟨Nat.le_refl _, hz2⟩) (Nat.le_refl _)
  have hop := HOP.out.below hbX
  have d0 : X.cell? ⟨g, j * 4, none⟩ = some (.int .i64 (nth (ps.map Prod.fst) j).Number) := hop.out.cellAt hjx 0 _ rfl
  have d1 : X.cell? ⟨g, j * 4 + 1, none⟩ = some (.int .i64 (nth (ps.map Prod.fst) j).Node) := hop.out.cellAt hjx 1 _ rfl
  have d2 : X.cell? ⟨g, j * 4 + 2, none⟩ = some (.bool (nth (ps.map Prod.fst) j).Closed) := hop.out.cellAt hjx 2 _ rfl
  have d3 : X.cell? ⟨g, j * 4 + 3, none⟩ = some (.slice (nth (ps.map Prod.fst) j).A (nth (ps.map Prod.fst) j).n (nth (ps.map Prod.fst) j).c) := hop.out.cellAt hjx 3 _ rfl
  have f0 := hop.out.frozenAt (j * 4)
  have f1 := hop.out.frozenAt (j * 4 + 1)
  have f2 := hop.out.frozenAt (j * 4 + 2)
  have f3 := hop.out.frozenAt (j * 4 + 3)
  have HOX := Lib.hid hop
  have HOM : Hid (Own X (V1.heap.size + 1) 9 (.slice A2 M.length c2) M) := HO2.out.only hfX (fun y hy hm => by have := (HO2.out.lt y (by simpa using hy)).1; have := List.mem_singleton.1 hm; omega)
  have HBX := Lib.hid hbX
  have hgX : g < X.heap.size := by omega
  have hgB : g ≠ V1.heap.size := by omega
  clear hop hfX hbX
  go_wp2
  go_ret
  refine retOwnX_mk ?_ ((HOX.out.mono (b := w.heap.size) (Nat.le_refl _)).upd (p' := ((⟨p.1.Number, p.1.Node, p.1.Closed, A2, M.length, c2⟩ : IncidentR), M)) hpq (HOX.out.out.put hjx (⟨p.1.Number, p.1.Node, p.1.Closed, A2, M.length, c2⟩ : IncidentR)) ?_ ?_ ?_) ?_
  · unfold Nest.plain at hp ⊢; rw [List.map_set, hp, HM.out]; unfold adX; rw [HPL.out, hx.out]; rfl
  · refine Own.mono (base := V1.heap.size + 1) ?_ (by have := HW.out.size; omega)
    repeat' (first | exact HOM.out | refine Own.set ?_ (by omega) _)
  · intro x hx1
    refine .inr fun q' r hr hx2 => ?_
    have h1 := (HOM.out.lt x hx1).1
    have h2 := ((HOP.out.inn q' r hr).lt x hx2).2
    omega
  · repeat' (first | exact OnlyF.refl _ _ | refine OnlyF.set ?_ List.mem_cons_self _)
  · repeat' (first | exact bl_trans HW.out HBX.out | refine bl_set ?_ (by have := (HOX.out.out.lt g rfl).1; simp only []; omega) _)

end Go.Proofs.Ytkgjbijkjlmomaa
