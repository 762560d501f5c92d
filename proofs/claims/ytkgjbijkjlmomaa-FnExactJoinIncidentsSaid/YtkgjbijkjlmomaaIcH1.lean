/-
  JoinIncidents: the program's answer. No conditions.
-/
import Derived.Test.YtkgjbijkjlmomaaIcF
import Derived.Test.YtkgjbijkjlmomaaIcH0
import Derived.Test.YtkgjbijkjlmomaaIcO
import Derived.Test.YtkgjbijkjlmomaaIncM
namespace Go.Proofs.Ytkgjbijkjlmomaa
open Go.RowKit

theorem set_self {xs : List Incident} {a : Nat} (h : a < xs.length) : xs.set a (nth xs a) = xs := by rw [← nth_ge h]; exact List.set_getElem_self h
set_option maxRecDepth 100000 in
set_option maxHeartbeats 4000000 in
theorem implJoinIncidents_any (xs : List Incident) (number other : Int) (A : Option Addr) (n c : Nat) (w : World) (hn : n ≤ 1048576) (hc : n ≤ c) (hs : Sl w A n xs) (hv : ∀ x, x ∈ xs → ∀ y, y ∈ x.Names → y.size ≤ maxLen) (hin : ∀ x, x ∈ xs → x.Names.length ≤ 1048576) :
    Calls Try.prog 26 #[.slice A n c, .int .i64 number, .int .i64 other] w (RetOwnX2 incidentN w 56 9 (joF xs number other)) := by
  have HV := Lib.hid hv
  have HIN := Lib.hid hin
  have HL := Lib.hid hs.1
  have hn' : (n : Int) ≤ 9223372036854775807 := by omega
  clear hv hin
  go_enter Try.func26, Try.ntmps26
  have hk0 := bl_refl w
  go_wp2_with fail
  refine (openAt_any xs number _ _ _ _ hn' hs).mono ?_
  rintro e V1 ⟨rfl, hb1⟩
  have hB1 := bl_trans (a := w) (bl_refl _) hb1
  have hk1 := bl_trans hk0 hB1
  have z1 := Lib.hid hB1.size
  go_wp2_with fail
  refine (openAt_any xs other _ _ _ _ hn' (hs.below hk1)).mono ?_
  rintro e V2 ⟨rfl, hb2⟩
  have hB2 := bl_trans (a := V1) (bl_refl _) hb2
  have hk2 := bl_trans hk1 hB2
  have z2 := Lib.hid hB2.size
  clear hk1
  have hg1 := (indexF_range (isO number) xs)
  have hg2 := (indexF_range (isO other) xs)
  obtain ⟨i, hi⟩ : ∃ i, i = openI xs number := ⟨_, rfl⟩
  obtain ⟨i2, hi2⟩ : ∃ i2, i2 = openI xs other := ⟨_, rfl⟩
  have hr1 : -1 ≤ i ∧ i < xs.length := by rw [hi]; exact hg1
  have hr2 : -1 ≤ i2 ∧ i2 < xs.length := by rw [hi2]; exact hg2
  rw [← hi, ← hi2]
  have Hi := Lib.hid hi
  have Hi2 := Lib.hid hi2
  clear hi hi2 hg1 hg2
  have HS := Lib.hid (hs.below hk2)
  have HS0 := Lib.hid hs
  clear hs
  cases h0 : incsB xs
  · have Hz := Lib.hid (joF_no (xs := xs) (number := number) (other := other) (by unfold jnC; rw [h0]; simp))
    go_wp2_with fail
    refine wp_region_grow (by kernel_rfl) (by kernel_rfl) (fun X hX => ?_)
    have hbX : Below V2.heap.size V2 X := by rw [hX]; exact bl_refl _
    have HX := Lib.hid hX
    clear hX
    repeat (go_big_quiet_step ((go_at_call 42; exact Calls.grow_of (areIncidents_any xs _ _ _ _ hn' hc ((HS.out.below hbX).below (Subtype.property _)) HV.out))))
    refine wpGrow_nil (fun V9 hV9 => ?_)
    have hb9 := bl_trans hbX hV9
    clear hV9 hbX HX 
    go_wp2
    go_ret2
    exact retOwnX2_nil (by decide) Hz.out (bl_trans hk2 hb9)
  by_cases h8 : i < 0
  · have hd : decide (i < 0) = true := by simpa using h8
    have Hz := Lib.hid (joF_no (xs := xs) (number := number) (other := other) (by unfold jnC; rw [← Hi.out, decide_eq_false (by omega : ¬ 0 ≤ i)]; simp))
    go_wp2_with fail
    refine wp_region_grow (by kernel_rfl) (by kernel_rfl) (fun X hX => ?_)
    have hbX : Below V2.heap.size V2 X := by rw [hX]; exact bl_refl _
    have HX := Lib.hid hX
    clear hX
    repeat (go_big_quiet_step ((go_at_call 42; exact Calls.grow_of (areIncidents_any xs _ _ _ _ hn' hc ((HS.out.below hbX).below (Subtype.property _)) HV.out))))
    refine wpGrow_nil (fun V9 hV9 => ?_)
    have hb9 := bl_trans hbX hV9
    clear hV9 hbX HX 
    go_wp2
    go_ret2
    exact retOwnX2_nil (by decide) Hz.out (bl_trans hk2 hb9)
  have hd : decide (i < 0) = false := by simpa using h8
  by_cases h9 : i2 < 0
  · have hd2 : decide (i2 < 0) = true := by simpa using h9
    have Hz := Lib.hid (joF_no (xs := xs) (number := number) (other := other) (by unfold jnC; rw [← Hi2.out, decide_eq_false (by omega : ¬ 0 ≤ i2)]; simp))
    go_wp2_with fail
    refine wp_region_grow (by kernel_rfl) (by kernel_rfl) (fun X hX => ?_)
    have hbX : Below V2.heap.size V2 X := by rw [hX]; exact bl_refl _
    have HX := Lib.hid hX
    clear hX
    repeat (go_big_quiet_step ((go_at_call 42; exact Calls.grow_of (areIncidents_any xs _ _ _ _ hn' hc ((HS.out.below hbX).below (Subtype.property _)) HV.out))))
    refine wpGrow_nil (fun V9 hV9 => ?_)
    have hb9 := bl_trans hbX hV9
    clear hV9 hbX HX 
    go_wp2
    go_ret2
    exact retOwnX2_nil (by decide) Hz.out (bl_trans hk2 hb9)
  have hd2 : decide (i2 < 0) = false := by simpa using h9
  obtain ⟨a, rfl⟩ := Int.eq_ofNat_of_zero_le (by omega : 0 ≤ i)
  obtain ⟨b, rfl⟩ := Int.eq_ofNat_of_zero_le (by omega : 0 ≤ i2)
  have hax : a < xs.length := by omega
  have hbx : b < xs.length := by omega
  have han : a < n := by have := HL.out; omega
  have hbn : b < n := by have := HL.out; omega
  clear hr1 hr2 h8 h9
  by_cases h7 : a = b
  · have hd3 : ((a : Int) == (b : Int)) = true := by simp [h7]
    have Hz := Lib.hid (joF_no (xs := xs) (number := number) (other := other) (by unfold jnC; rw [← Hi.out, ← Hi2.out, decide_eq_true (by omega : (a : Int) = (b : Int))]; simp))
    clear h7
    go_wp2_with fail
    refine wp_region_grow (by kernel_rfl) (by kernel_rfl) (fun X hX => ?_)
    have hbX : Below V2.heap.size V2 X := by rw [hX]; exact bl_refl _
    have HX := Lib.hid hX
    clear hX
    repeat (go_big_quiet_step ((go_at_call 42; exact Calls.grow_of (areIncidents_any xs _ _ _ _ hn' hc ((HS.out.below hbX).below (Subtype.property _)) HV.out))))
    refine wpGrow_nil (fun V9 hV9 => ?_)
    have hb9 := bl_trans hbX hV9
    clear hV9 hbX HX 
    go_wp2
    go_ret2
    exact retOwnX2_nil (by decide) Hz.out (bl_trans hk2 hb9)
  have hd3 : ((a : Int) == (b : Int)) = false := by simp; omega
  have hv := incs_iff.1 h0
  have l1 := vi_names hv _ (nth_mem hax)
  have l2 := vi_names hv _ (nth_mem hbx)
  have HVI := Lib.hid hv
  clear hv
  obtain ⟨b1, o1, A1, k1, e1, hz1, _, _, _, c3, _, _⟩ := HS0.out.incident han
  obtain ⟨b2, o2, A2, k2, e2, hz2, _, _, _, d3, hiB, _⟩ := HS0.out.incident hbn
  subst e1
  injection e2 with e2
  injection e2 with e2 e3
  subst e2 e3
  have c3 := cell_later hk2 c3
  have d3 := cell_later hk2 d3
  have hzV := World.block_lt_of_cell? _ _ c3
  have haI : (a : Int) < n := by omega
  have hbI : (b : Int) < n := by omega
  have haI2 : (a : Int) < xs.length := by omega
  have hbI2 : (b : Int) < xs.length := by omega
  have ha0 : (0 : Int) ≤ a := by omega
  have hb0 : (0 : Int) ≤ b := by omega
  have hac : a ≤ c := by omega
  have hbc : b ≤ c := by omega
  have w5 : IntKind.i64.wrap (((nth xs a).Names.length : Int) + ((nth xs b).Names.length : Int)) = ((nth xs a).Names.length : Int) + ((nth xs b).Names.length : Int) := IntWalk.i64_in _ (by omega)
  by_cases h6 : 12 < (nth xs a).Names.length + (nth xs b).Names.length
  · have hd4 : decide (((nth xs a).Names.length : Int) + ((nth xs b).Names.length : Int) > 12) = true := by simp; omega
    have Hz := Lib.hid (joF_no (xs := xs) (number := number) (other := other) (by unfold jnC; rw [← Hi.out, ← Hi2.out]; show (_ && decide ((nth xs a).Names.length + (nth xs b).Names.length ≤ 12)) = false; rw [decide_eq_false (by omega : ¬ (nth xs a).Names.length + (nth xs b).Names.length ≤ 12)]; simp))
    clear h6 h7
    go_wp2_with fail
    refine wp_region_grow (by kernel_rfl) (by kernel_rfl) (fun X hX => ?_)
    have hbX : Below V2.heap.size V2 X := by rw [hX]; exact bl_refl _
    have q_c3 := Gw.cell (cell_later hbX c3)
    have q_d3 := Gw.cell (cell_later hbX d3)
    have HX := Lib.hid hX
    clear hX
    repeat (go_big_quiet_step ((go_at_call 42; exact Calls.grow_of (areIncidents_any xs _ _ _ _ hn' hc ((HS.out.below hbX).below (Subtype.property _)) HV.out))))
    refine wpGrow_nil (fun V9 hV9 => ?_)
    have hb9 := bl_trans hbX hV9
    clear hV9 hbX HX q_c3 q_d3
    go_wp2
    go_ret2
    exact retOwnX2_nil (by decide) Hz.out (bl_trans hk2 hb9)
  have hd4 : decide (((nth xs a).Names.length : Int) + ((nth xs b).Names.length : Int) > 12) = false := by simp; omega
  have Hz := Lib.hid (joF_yes h0 Hi.out.symm Hi2.out.symm h7 (by omega : (nth xs a).Names.length + (nth xs b).Names.length ≤ 12))
  have H7 := Lib.hid h7
  have hl12 : (nth xs a).Names.length + (nth xs b).Names.length ≤ 12 := by omega
  clear h6 h7
  go_wp2_with fail
  refine wp_region_grow (by kernel_rfl) (by kernel_rfl) (fun X hX => ?_)
  have hbX : Below V2.heap.size V2 X := by rw [hX]; exact bl_refl _
  have q_c3 := Gw.cell (cell_later hbX c3)
  have q_d3 := Gw.cell (cell_later hbX d3)
  have HX := Lib.hid hX
  clear hX
  repeat (go_big_quiet_step ((go_at_call 42; exact Calls.grow_of (areIncidents_any xs _ _ _ _ hn' hc ((HS.out.below hbX).below (Subtype.property _)) HV.out))))
  refine wpGrow_nil (fun V9 hV9 => ?_)
  have hb9 := bl_trans hbX hV9
  clear hV9 hbX HX q_c3 q_d3
  have hk9 := bl_trans hk2 hb9
  have e3 := cell_later hb9 d3
  have hz9 := World.block_lt_of_cell? _ _ e3
  have HiB := Lib.hid hiB
  have HS9 := Lib.hid (HS.out.below hb9)
  have hxn : xs.length ≤ 1048576 := by rw [HL.out]; exact hn
  have z9 := Lib.hid hk9.size
  clear c3 d3 w5 hb9 hiB HS hz1 hz2 hzV hd3 hd4 h0 l1 l2
  go_wp2_with fail
  refine (copyIncidents_any xs _ _ _ _ hn HS9.out HIN.out).mono ?_
  rintro e VC ⟨A_c, c_c, F_c, rfl, ho_c, hbC⟩
  have hkC := bl_trans hk9 hbC
  have e4 := cell_later hbC e3
  have hzC := World.block_lt_of_cell? _ _ e4
  obtain ⟨ps, hp, _, hop⟩ := ho_c
  obtain ⟨g, rfl⟩ := hop.out.form (by omega : 0 < xs.length)
  have HOP := Lib.hid (hop.mono (b := w.heap.size) (by have := z9.out; omega))
  have hjc : xs.length ≤ c_c := hop.out.cap.1
  have HKC := Lib.hid hkC
  clear hop e3 hz9 hbC hk9 hkC HS9
  have HP0 : Hid (incidentN.plain ps = xs.set a (adN (nth xs a) ((nth xs b).Names.take 0))) := by rw [Hid, hp, List.take_zero, adN_nil]; exact (set_self hax).symm
  clear hp
  go_wp2
  go_loopw [59] (fun iv wr => ∃ (k : Nat) (ps' : List (IncidentR × List ByteArray)), k ≤ (nth xs b).Names.length ∧ iv = .int .i64 k ∧ OwnP incidentN wr w.heap.size 56 9 (.slice (some ⟨g, 0, none⟩) xs.length c_c) ps' ∧ Hid (incidentN.plain ps' = xs.set a (adN (nth xs a) ((nth xs b).Names.take k))) ∧ Below w.heap.size w wr) (fun iv _ => (nth xs b).Names.length - (intOf iv).toNat)
  case atStart => exact ⟨0, ps, Nat.zero_le _, rfl, HOP.out, HP0, HKC.out⟩
  case round =>
    obtain ⟨k, ps', hk, rfl, hop, hpl, hbw⟩ := hrel
    clear e4 hzC HOP HP0
    by_cases hlt : k < (nth xs b).Names.length
    · obtain ⟨b3, o3, rfl, hz3, n0⟩ := (HiB.out.below hbw).str hlt
      obtain ⟨p1, p2, p3⟩ := adT_props (k := k) HVI.out hax hbx H7.out
      have hyl : (xs.set a (adN (nth xs a) ((nth xs b).Names.take k))).length = xs.length := List.length_set
      have hya : nth (xs.set a (adN (nth xs a) ((nth xs b).Names.take k))) a = adN (nth xs a) ((nth xs b).Names.take k) := by rw [nth_set hax, if_pos rfl]
      rw [List.length_take] at p2
      have HC : Hid (Calls Try.prog 57 #[.pointer (some ⟨g, a * 4, none⟩), .string (nth (nth xs b).Names k)] wr fun e w' => ∃ ps2, e = .returned (.tuple #[]) ∧ OwnP incidentN w' w.heap.size 56 9 (.slice (some ⟨g, 0, none⟩) xs.length c_c) ps2 ∧ incidentN.plain ps2 = xs.set a (adN (nth xs a) ((nth xs b).Names.take (k + 1))) ∧ OnlyF (incidentN.foot (.slice (some ⟨g, 0, none⟩) xs.length c_c) ps') wr w') := by
        have h := addAt_any (xs.set a (adN (nth xs a) ((nth xs b).Names.take k))) a (nth (nth xs b).Names k) ps' g c_c w.heap.size wr (by rw [hyl]; exact hop) hpl.out (by rw [hyl]; exact hax) (by rw [hya, p2]; omega) (by rw [hya]; exact p1) hbw.size
        rw [hyl, hya, List.set_set, ← adN_succ hlt] at h
        exact h
      have HLI := Lib.hid hop.lies
      have HBW := Lib.hid hbw
      clear p1 p2 p3 hyl hya hop hpl hbw
      go_wp2_with fail
      refine HC.out.mono ?_
      rintro e V2 ⟨ps2, rfl, hop2, hp2, hf2⟩
      have hbw2 := below_only HBW.out hf2 HLI.out (Nat.le_refl _)
      clear hf2 n0
      go_wp2
      go_roundw
      case rel => exact ⟨k + 1, ps2, by omega, by go_num, hop2, hp2, hbw2⟩
      case measure => simp [intOf]; omega
    · obtain rfl : k = (nth xs b).Names.length := by omega
      rw [List.take_length] at hpl
      have hjl : b < ps'.length := by rw [hop.len]; exact hbx
      obtain ⟨p, hpq⟩ : ∃ p, ps'[b]? = some p := ⟨_, List.getElem?_eq_getElem hjl⟩
      have he : nth (ps'.map Prod.fst) b = p.1 := nth_get (by rw [List.getElem?_map, hpq]; rfl)
      have hx : Hid (nth (xs.set a (adN (nth xs a) (nth xs b).Names)) b = incidentN.of p.1 p.2) := nth_get (by rw [← hpl.out]; unfold Nest.plain; rw [List.getElem?_map, hpq]; rfl)
      have d2 : wr.cell? ⟨g, b * 4 + 2, none⟩ = some (.bool (nth (ps'.map Prod.fst) b).Closed) := hop.out.cellAt hbx 2 _ rfl
      have d3 : wr.cell? ⟨g, b * 4 + 3, none⟩ = some (.slice (nth (ps'.map Prod.fst) b).A (nth (ps'.map Prod.fst) b).n (nth (ps'.map Prod.fst) b).c) := hop.out.cellAt hbx 3 _ rfl
      have f2 := hop.out.frozenAt (b * 4 + 2)
      have f3 := hop.out.frozenAt (b * 4 + 3)
      have h1 : Hid (Own (wr.setCell ⟨g, b * 4 + 2, none⟩ (.bool true)) w.heap.size 56 (.slice (some ⟨g, 0, none⟩) xs.length c_c) ((ps'.map Prod.fst).set b (⟨p.1.Number, p.1.Node, true, p.1.A, p.1.n, p.1.c⟩ : IncidentR))) := by
        have hh := hop.out.put1 hbx 2 (by decide) (y := (⟨p.1.Number, p.1.Node, true, p.1.A, p.1.n, p.1.c⟩ : IncidentR)) (v := .bool true) (by rw [he]; rfl)
        exact hh
      have h2 : Hid (Own ((wr.setCell ⟨g, b * 4 + 2, none⟩ (.bool true)).setCell ⟨g, b * 4 + 3, none⟩ (.slice none 0 0)) w.heap.size 56 (.slice (some ⟨g, 0, none⟩) xs.length c_c) ((ps'.map Prod.fst).set b (⟨p.1.Number, p.1.Node, true, none, 0, 0⟩ : IncidentR))) := by
        have hh := h1.out.put1 hbx 3 (by decide) (y := (⟨p.1.Number, p.1.Node, true, none, 0, 0⟩ : IncidentR)) (v := .slice none 0 0) (by rw [nth_set_self (by rw [List.length_map]; exact hjl)]; rfl)
        rw [List.set_set] at hh
        exact hh
      have HOP := Lib.hid hop
      have HBW := Lib.hid hbw
      clear hop hbw he
      go_wp2
      go_ret2
      refine retOwnX2_mk Hz.out ?_ (HOP.out.upd (p' := ((⟨p.1.Number, p.1.Node, true, none, 0, 0⟩ : IncidentR), ([] : List ByteArray))) hpq h2.out (Own.nil _ _ _) (fun x hx1 => absurd hx1 (by simp [incidentN, Value.ownBlock])) ?_) ?_
      · rw [← jnL_alt H7.out hbx]; unfold Nest.plain at hpl ⊢; rw [List.map_set, hpl.out, hx.out]; rfl
      · repeat' (first | exact OnlyF.refl _ _ | refine OnlyF.set ?_ List.mem_cons_self _)
      · repeat' (first | exact HBW.out | refine bl_set ?_ (by have := (HOP.out.out.lt g rfl).1; simp only []; omega) _)

end Go.Proofs.Ytkgjbijkjlmomaa
