/-
  ReleaseFrom: the reference's answer. No conditions.
-/
import Derived.Test.YtkgjbijkjlmomaaIcR1
import Derived.Test.YtkgjbijkjlmomaaIncU
import Derived.Test.YtkgjbijkjlmomaaMem8
import Derived.Lib.AppendZerosOnto
namespace Go.Proofs.Ytkgjbijkjlmomaa
open Go.RowKit

def askB (xs : List Incident) (number : Int) (nm : ByteArray) : Bool := incsB xs && decide (0 ≤ openI xs number) && nameB nm
theorem askB_yes {xs : List Incident} {number : Int} {nm : ByteArray} (h : askB xs number nm = true) : incsB xs = true ∧ 0 ≤ openI xs number ∧ nameB nm = true := by
  simp only [askB, Bool.and_eq_true, decide_eq_true_eq] at h; exact ⟨h.1.1, h.1.2, h.2⟩
set_option maxHeartbeats 4000000 in
theorem ixAsked_any (xs : List Incident) (number : Int) (nm : ByteArray) (A : Option Addr) (n c : Nat) (w : World) (hz : nm.size ≤ maxLen) (hn : n ≤ 1048576) (hc : n ≤ c) (hs : Sl w A n xs) (hv : ∀ x, x ∈ xs → ∀ y, y ∈ x.Names → y.size ≤ maxLen) :
    Calls Try.prog 50 #[.slice A n c, .int .i64 number, .string nm] w fun e w' => e = .returned (.bool (askB xs number nm)) ∧ Below w.heap.size w w' := by
  have HV := Lib.hid hv
  have HL := Lib.hid hs.1
  have hn' : (n : Int) ≤ 9223372036854775807 := by omega
  clear hv
  go_enter Try.func50, Try.ntmps50
  have hk0 := bl_refl w
  go_wp2_with fail
  refine (ixGood_any xs _ _ _ _ hn' hc hs HV.out).mono ?_
  rintro e V1 ⟨rfl, hb1⟩
  have hB1 := bl_trans (a := w) (bl_refl _) hb1
  have hk1 := bl_trans hk0 hB1
  have z1 := Lib.hid hB1.size
  cases h0 : incsB xs
  · have Hz : Hid (askB xs number nm = false) := by rw [Hid, askB, h0]; simp
    clear h0
    go_wp2
    go_ret
    exact ⟨ret_bool Hz.out.symm, hk1⟩
  have H0 := Lib.hid h0
  clear h0
  go_wp2_with fail
  refine (ixFind_any xs number _ _ _ _ hn' (hs.below hk1)).mono ?_
  rintro e V2 ⟨rfl, hb2⟩
  have hB2 := bl_trans (a := V1) (bl_refl _) hb2
  have hk2 := bl_trans hk1 hB2
  have z2 := Lib.hid hB2.size
  clear hk1
  cases h1 : decide (openI xs number ≥ 0)
  · have Hz : Hid (askB xs number nm = false) := by rw [Hid, askB, show decide (0 ≤ openI xs number) = false from h1]; simp
    go_wp2
    go_ret
    exact ⟨ret_bool Hz.out.symm, hk2⟩
  have H1 := Lib.hid (show decide (0 ≤ openI xs number) = true from h1)
  go_wp2_with fail
  refine (apName_any nm _ hz).mono ?_
  rintro e V3 ⟨rfl, hb3⟩
  have hB3 := bl_trans (a := V2) (bl_refl _) hb3
  have hk3 := bl_trans hk2 hB3
  have z3 := Lib.hid hB3.size
  clear hk2
  have Hz : Hid (askB xs number nm = nameB nm) := by rw [Hid, askB, H0.out, H1.out]; rfl
  go_wp2
  go_ret
  exact ⟨ret_bool Hz.out.symm, hk3⟩
theorem filt_yes {α : Type} [Inhabited α] {p : α → Bool} {xs : List α} {k : Nat} (hk : k < xs.length) (h : p (nth xs k) = true) : (xs.take (k + 1)).filter p = (xs.take k).filter p ++ [nth xs k] := by
  rw [take_succ hk, List.filter_append]; simp [h]
theorem filt_no {α : Type} [Inhabited α] {p : α → Bool} {xs : List α} {k : Nat} (hk : k < xs.length) (h : p (nth xs k) = false) : (xs.take (k + 1)).filter p = (xs.take k).filter p := by
  rw [take_succ hk, List.filter_append]; simp [h]
theorem OnlyF.shrink {F G : List Nat} {a b : World} (h : OnlyF (F ++ G) a b) (hG : ∀ y, y ∈ G → a.heap.size ≤ y) : OnlyF F a b := ⟨h.os, h.tape, h.output, h.size, fun k hk hn => h.block k hk (fun hm => by
  rcases List.mem_append.1 hm with hm | hm
  · exact hn hm
  · have := hG k hm; omega)⟩
set_option maxRecDepth 100000 in
set_option maxHeartbeats 8000000 in
theorem ixDrop_any (xs : List Incident) (j : Nat) (nm : ByteArray) (A : Option Addr) (n c : Nat) (w : World) (hn : n ≤ 1048576) (hs : Sl w A n xs) (hin : ∀ x, x ∈ xs → x.Names.length ≤ 1048576) (hj : j < n) :
    Calls Try.prog 52 #[.slice A n c, .int .i64 j, .string nm] w (RetOwnX incidentN w 56 9 (xs.set j (rlX (nth xs j) nm))) := by
  have HIN := Lib.hid hin
  have HL := Lib.hid hs.1
  clear hin
  go_enter Try.func52, Try.ntmps52
  have hk0 := bl_refl w
  go_wp2_with fail
  refine (ixOwn_any xs _ _ _ _ hn hs HIN.out).mono ?_
  rintro e V1 ⟨A_c, c_c, F_c, rfl, ho_c, hb1⟩
  have hB1 := bl_trans (a := w) (bl_refl _) hb1
  have hk1 := bl_trans hk0 hB1
  have z1 := Lib.hid hB1.size
  have hjx : j < xs.length := by rw [HL.out]; exact hj
  obtain ⟨ps, hp, _, hop⟩ := ho_c
  obtain ⟨g, rfl⟩ := hop.out.form (by omega : 0 < xs.length)
  have hjl : j < ps.length := by rw [hop.len]; exact hjx
  obtain ⟨p, hpq⟩ : ∃ p, ps[j]? = some p := ⟨_, List.getElem?_eq_getElem hjl⟩
  have he : nth (ps.map Prod.fst) j = p.1 := nth_get (by rw [List.getElem?_map, hpq]; rfl)
  have hx : Hid (nth xs j = incidentN.of p.1 p.2) := nth_get (by rw [← hp]; unfold Nest.plain; rw [List.getElem?_map, hpq]; rfl)
  obtain ⟨b, o, A', c', rfl, hbz, c0, c1, c2, c3, hi, hil⟩ := (hs.below hk1).incident hj
  have hjc : xs.length ≤ c_c := hop.out.cap.1
  have hjI : (j : Int) < xs.length := by omega
  have hjN : (j : Int) < n := by omega
  have hj0 : (0 : Int) ≤ j := by omega
  have HW := Lib.hid hk1
  have hnl : (nth xs j).Names.length ≤ 1048576 := HIN.out _ (nth_mem hjx)
  have d0 : V1.cell? ⟨g, j * 4, none⟩ = some (.int .i64 (nth (ps.map Prod.fst) j).Number) := hop.out.cellAt hjx 0 _ rfl
  have d1 : V1.cell? ⟨g, j * 4 + 1, none⟩ = some (.int .i64 (nth (ps.map Prod.fst) j).Node) := hop.out.cellAt hjx 1 _ rfl
  have d2 : V1.cell? ⟨g, j * 4 + 2, none⟩ = some (.bool (nth (ps.map Prod.fst) j).Closed) := hop.out.cellAt hjx 2 _ rfl
  have d3 : V1.cell? ⟨g, j * 4 + 3, none⟩ = some (.slice (nth (ps.map Prod.fst) j).A (nth (ps.map Prod.fst) j).n (nth (ps.map Prod.fst) j).c) := hop.out.cellAt hjx 3 _ rfl
  have f0 := hop.out.frozenAt (j * 4)
  have f1 := hop.out.frozenAt (j * 4 + 1)
  have f2 := hop.out.frozenAt (j * 4 + 2)
  have f3 := hop.out.frozenAt (j * 4 + 3)
  rw [he] at d0 d1 d2 d3
  have HOP := Lib.hid hop
  have Hi := Lib.hid hi
  have hgz : g < V1.heap.size := World.block_lt_of_cell? _ _ d0
  clear hs hi hil hop hk0 hB1 hk1 c0 c1 c2
  go_upto_region 4 with fail
  refine wp_hideI (R := fun X => Below V1.heap.size V1 X ∧ V1.heap.size + 1 = X.heap.size ∧ X.cell? ⟨V1.heap.size, 0, none⟩ = some (.int .i64 p.1.Number) ∧ X.cell? ⟨V1.heap.size, 1, none⟩ = some (.int .i64 p.1.Node) ∧ X.cell? ⟨V1.heap.size, 2, none⟩ = some (.bool p.1.Closed) ∧ X.cell? ⟨V1.heap.size, 3, none⟩ = some (.slice none 0 0) ∧ X.frozen? ⟨V1.heap.size, 3, none⟩ = false) ⟨by repeat' (first | exact bl_refl _ | refine bl_alloc ?_ _ | refine bl_set ?_ (Nat.le_refl _) _), by simp, by go_simp, by go_simp, by go_simp, by go_simp, by go_simp⟩ (fun X ⟨hbX, hXz, e0, e1, e2, e3, g3⟩ => ?_)
  have c4 := cell_later hbX c3
  have hbzX : b < X.heap.size := by omega
  have HX := Lib.hid hbX
  clear c3 hbX d0 d1 d2 d3 f0 f1 f2 f3
  go_wp2
  go_loopw [24] (fun iv wr => ∃ (k q c2 : Nat) (A2 : Option Addr), k ≤ (nth xs j).Names.length ∧ iv = .int .i64 k ∧ q ≤ k ∧ wr.cell? ⟨V1.heap.size, 0, none⟩ = some (.int .i64 p.1.Number) ∧ wr.cell? ⟨V1.heap.size, 1, none⟩ = some (.int .i64 p.1.Node) ∧ wr.cell? ⟨V1.heap.size, 2, none⟩ = some (.bool p.1.Closed) ∧ wr.cell? ⟨V1.heap.size, 3, none⟩ = some (.slice A2 q c2) ∧ wr.frozen? ⟨V1.heap.size, 3, none⟩ = false ∧ Own wr (V1.heap.size + 1) 9 (.slice A2 q c2) (((nth xs j).Names.take k).filter (fun x => !(x.toList == nm.toList))) ∧ OnlyF [V1.heap.size] X wr) (fun iv _ => (nth xs j).Names.length - (intOf iv).toNat)
  case atStart => exact ⟨0, 0, 0, none, Nat.zero_le _, rfl, Nat.le_refl _, e0, e1, e2, e3, g3, Own.nil _ _ _, OnlyF.refl _ _⟩
  case round =>
    obtain ⟨k, q, c2, A2, hk, rfl, hq, y0, y1, y2, y3, z3, ho2, hof⟩ := hrel
    have hbz2 : V1.heap.size < wr.heap.size := World.block_lt_of_cell? _ _ y0
    have hbV : Below V1.heap.size V1 wr := below_only HX.out hof (fun y hy => by rw [List.mem_singleton.1 hy]; exact ⟨Nat.le_refl _, by omega⟩) (Nat.le_refl _)
    have hszX := hof.size
    clear e0 e1 e2 e3 g3 c4
    by_cases hlt : k < (nth xs j).Names.length
    · obtain ⟨b2, o2, rfl, hb2z, n0⟩ := (Hi.out.below hbV).str hlt
      have hkx : Hid (k < (nth xs j).Names.length) := hlt
      cases hp2 : (nth (nth xs j).Names k).toList == nm.toList
      · have hpt : Hid ((!((nth (nth xs j).Names k).toList == nm.toList)) = true) := by rw [Hid, hp2]; rfl
        have hne : ((nth (nth xs j).Names k).toList != nm.toList) = true := by simp [bne, hp2]
        obtain ⟨A3, c3, w3, hr, ho3, hg3⟩ := run_appN (P := Try.prog) 41 41 9 el_str (d := 1) (ho2.alloc (.cells #[.string (nth (nth xs j).Names k)] 9)) (by simp; omega) (sl_strI (b := wr.heap.size) (o := 0) (s := nth (nth xs j).Names k) (by go_simp)) (by omega)
        have hf3 : OnlyF (Value.ownBlock (.slice A2 q c2)).toList wr w3 := (OnlyF.alloc (OnlyF.refl _ _) _).trans (OnlyF.of_gb hg3)
        have hno : ∀ y, y ∈ (Value.ownBlock (.slice A2 q c2)).toList → V1.heap.size + 1 ≤ y := fun y hy => (ho2.lt y (own_mem hy)).1
        have x0 := hf3.keeps y0 (fun hm => by have := hno _ hm; simp only [] at this; omega)
        have x1 := hf3.keeps y1 (fun hm => by have := hno _ hm; simp only [] at this; omega)
        have x2 := hf3.keeps y2 (fun hm => by have := hno _ hm; simp only [] at this; omega)
        have x3 := hf3.keeps y3 (fun hm => by have := hno _ hm; simp only [] at this; omega)
        have t3 := (hf3.frozen (p := ⟨V1.heap.size, 3, none⟩) hbz2 (fun hm => by have := hno _ hm; simp only [] at this; omega)).trans z3
        have hz3 : V1.heap.size < w3.heap.size := World.block_lt_of_cell? _ _ x0
        have HO3 := Lib.hid ho3
        have HF3 := Lib.hid hf3
        have HNO := Lib.hid hno
        clear ho2 hg3 hf3 hno ho3
        go_wp2_with ((at_builtin; refine Lib.wpList_append_run _ rfl _ _ _ _ rfl _ _ rfl rfl _ _ hr ?_))
        go_roundw
        case rel =>
          refine ⟨k + 1, q + 1, c3, A3, by omega, by go_num, by omega, ?_, ?_, ?_, ?_, ?_, ?_, ?_⟩
          · go_simp
          · go_simp
          · go_simp
          · go_simp
          · go_simp
          · rw [filt_yes (p := fun x : ByteArray => !(x.toList == nm.toList)) hkx.out hpt.out]
            exact Own.set HO3.out (Nat.lt_succ_self _) _
          · refine OnlyF.set (OnlyF.shrink (G := (Value.ownBlock (.slice A2 q c2)).toList) ((hof.mono (fun y hy => List.mem_append_left _ hy)).trans (HF3.out.mono (fun y hy => List.mem_append_right _ hy))) (fun y hy => by have := HNO.out y hy; omega)) (List.mem_singleton.2 rfl) _
        case measure => simp [intOf]; omega
      · have hpt : Hid ((!((nth (nth xs j).Names k).toList == nm.toList)) = false) := by rw [Hid, hp2]; rfl
        have hne : ((nth (nth xs j).Names k).toList != nm.toList) = false := by simp [bne, hp2]
        go_wp2
        go_roundw
        case rel => exact ⟨k + 1, q, c2, A2, by omega, by go_num, by omega, y0, y1, y2, y3, z3, by rw [filt_no (p := fun x : ByteArray => !(x.toList == nm.toList)) hkx.out hpt.out]; exact ho2, hof⟩
        case measure => simp [intOf]; omega
    · obtain rfl : k = (nth xs j).Names.length := by omega
      rw [List.take_length] at ho2
      have hopr := Lib.hid (HOP.out.below hbV)
      have HO2 : Hid (Own wr (V1.heap.size + 1) 9 (.slice A2 q c2) (dropS (nth xs j).Names nm)) := ho2
      have d0 : wr.cell? ⟨g, j * 4, none⟩ = some (.int .i64 (nth (ps.map Prod.fst) j).Number) := hopr.out.out.cellAt hjx 0 _ rfl
      have d1 : wr.cell? ⟨g, j * 4 + 1, none⟩ = some (.int .i64 (nth (ps.map Prod.fst) j).Node) := hopr.out.out.cellAt hjx 1 _ rfl
      have d2 : wr.cell? ⟨g, j * 4 + 2, none⟩ = some (.bool (nth (ps.map Prod.fst) j).Closed) := hopr.out.out.cellAt hjx 2 _ rfl
      have d3 : wr.cell? ⟨g, j * 4 + 3, none⟩ = some (.slice (nth (ps.map Prod.fst) j).A (nth (ps.map Prod.fst) j).n (nth (ps.map Prod.fst) j).c) := hopr.out.out.cellAt hjx 3 _ rfl
      have f0 := hopr.out.out.frozenAt (j * 4)
      have f1 := hopr.out.out.frozenAt (j * 4 + 1)
      have f2 := hopr.out.out.frozenAt (j * 4 + 2)
      have f3 := hopr.out.out.frozenAt (j * 4 + 3)
      have HBV := Lib.hid hbV
      clear ho2 hof
      go_wp2
      go_ret
      refine retOwnX_mk ?_ ((hopr.out.mono (b := w.heap.size) (Nat.le_refl _)).upd (p' := ((⟨p.1.Number, p.1.Node, p.1.Closed, A2, q, c2⟩ : IncidentR), dropS (nth xs j).Names nm)) hpq (hopr.out.out.put hjx (⟨p.1.Number, p.1.Node, p.1.Closed, A2, q, c2⟩ : IncidentR)) ?_ ?_ ?_) ?_
      · unfold Nest.plain at hp ⊢; rw [List.map_set, hp, hx.out]; rfl
      · refine Own.mono (base := V1.heap.size + 1) ?_ (by have := HW.out.size; omega)
        repeat' (first | exact HO2.out | refine Own.set ?_ (by omega) _)
      · intro x hx1
        refine .inr fun q' r hr hx2 => ?_
        have h1 := (HO2.out.lt x hx1).1
        have h2 := ((HOP.out.inn q' r hr).lt x hx2).2
        omega
      · repeat' (first | exact OnlyF.refl _ _ | refine OnlyF.set ?_ List.mem_cons_self _)
      · repeat' (first | exact bl_trans HW.out HBV.out | refine bl_set ?_ (by have := (hopr.out.out.lt g rfl).1; simp only []; omega) _)
set_option maxRecDepth 100000 in
set_option maxHeartbeats 4000000 in
theorem specReleaseFrom_any (xs : List Incident) (number : Int) (nm : ByteArray) (A : Option Addr) (n c : Nat) (w : World) (hz : nm.size ≤ maxLen) (hn : n ≤ 1048576) (hc : n ≤ c) (hs : Sl w A n xs) (hv : ∀ x, x ∈ xs → ∀ y, y ∈ x.Names → y.size ≤ maxLen) (hin : ∀ x, x ∈ xs → x.Names.length ≤ 1048576) :
    Calls Try.prog 19 #[.slice A n c, .int .i64 number, .string nm] w (RetOwnX2 incidentN w 56 9 (rlF xs number nm)) := by
  have HV := Lib.hid hv
  have HIN := Lib.hid hin
  have HL := Lib.hid hs.1
  have hn' : (n : Int) ≤ 9223372036854775807 := by omega
  clear hv hin
  go_enter Try.func19, Try.ntmps19
  have hk0 := bl_refl w
  go_wp2_with fail
  refine (ixAsked_any xs number nm _ _ _ _ hz hn hc hs HV.out).mono ?_
  rintro e V1 ⟨rfl, hb1⟩
  have hB1 := bl_trans (a := w) (bl_refl _) hb1
  have hk1 := bl_trans hk0 hB1
  have z1 := Lib.hid hB1.size
  cases h0 : askB xs number nm
  · have Hz := Lib.hid (rlF_no (xs := xs) (number := number) (s := nm) (by simp only [askB] at h0; cases e1 : incsB xs <;> cases e2 : nameB nm <;> cases e3 : decide (0 ≤ openI xs number) <;> simp_all))
    clear h0
    go_wp2
    go_ret2
    exact retOwnX2_nil (by decide) Hz.out hk1
  have H0 := Lib.hid (askB_yes h0)
  clear h0
  have hge := indexF_range (isO number) xs
  have hge0 : 0 ≤ openI xs number := H0.out.2.1
  go_wp2_with fail
  refine (ixOf_any xs nm _ _ _ _ hn' (hs.below hk1)).mono ?_
  rintro e V2 ⟨rfl, hb2⟩
  have hB2 := bl_trans (a := V1) (bl_refl _) hb2
  have hk2 := bl_trans hk1 hB2
  have z2 := Lib.hid hB2.size
  clear hk1
  go_wp2_with fail
  refine (ixFind_any xs number _ _ _ _ hn' (hs.below hk2)).mono ?_
  rintro e V3 ⟨rfl, hb3⟩
  have hB3 := bl_trans (a := V2) (bl_refl _) hb3
  have hk3 := bl_trans hk2 hB3
  have z3 := Lib.hid hB3.size
  clear hk2
  obtain ⟨i, hi⟩ : ∃ i, i = openI xs number := ⟨_, rfl⟩
  have hge2 : i < xs.length := by rw [hi]; exact hge.2
  rw [← hi] at hge0 ⊢
  have hi' := Lib.hid hi
  clear hi hge
  obtain ⟨j, rfl⟩ := Int.eq_ofNat_of_zero_le hge0
  have hjn : j < n := by have := HL.out; omega
  clear hge2 hge0
  obtain ⟨q, hq⟩ : ∃ q, q = atB xs nm := ⟨_, rfl⟩
  rw [← hq]
  by_cases h9 : q = (j : Int)
  rotate_left
  · have hd2 : (q != (j : Int)) = true := by simpa [bne] using h9
    have Hz := Lib.hid (rlF_no (xs := xs) (number := number) (s := nm) (by rw [← hi'.out, ← hq, decide_eq_false h9]; simp))
    clear hq h9
    go_wp2
    go_ret2
    exact retOwnX2_nil (by decide) Hz.out hk3
  have hd2 : (q != (j : Int)) = false := by simp [bne, h9]
  have Hz := Lib.hid (rlF_yes H0.out.1 H0.out.2.2 hi'.out.symm (hq.symm.trans h9))
  clear hq h9
  go_wp2_with fail
  refine (ixFind_any xs number _ _ _ _ hn' (hs.below hk3)).mono ?_
  rintro e V4 ⟨rfl, hb4⟩
  have hB4 := bl_trans (a := V3) (bl_refl _) hb4
  have hk4 := bl_trans hk3 hB4
  have z4 := Lib.hid hB4.size
  clear hk3
  rw [← hi'.out]
  go_wp2_with fail
  refine (ixDrop_any xs j nm _ _ _ _ hn (hs.below hk4) HIN.out hjn).mono ?_
  rintro e V5 ⟨A_c, c_c, F_c, rfl, ho_c, hb5⟩
  have hB5 := bl_trans (a := V4) (bl_refl _) hb5
  have hk5 := bl_trans hk4 hB5
  have z5 := Lib.hid hB5.size
  clear hk4
  obtain ⟨ps, hp, _, hop⟩ := ho_c
  have HOP := Lib.hid (hop.mono (b := w.heap.size) (by have := z1.out; have := z2.out; have := z3.out; have := z4.out; have := z5.out; omega))
  clear hop hs
  try rw [Hid, List.length_set] at HOP
  go_wp2
  go_ret2
  exact retOwnX2_mk Hz.out hp HOP hk5

end Go.Proofs.Ytkgjbijkjlmomaa
