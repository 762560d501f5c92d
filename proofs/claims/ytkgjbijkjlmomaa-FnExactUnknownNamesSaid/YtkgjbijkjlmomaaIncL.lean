/-
  Lists of incidents: the helpers of the laws over them. No conditions.
-/
import Derived.Test.YtkgjbijkjlmomaaIncN
namespace Go.Proofs.Ytkgjbijkjlmomaa
open Go.RowKit

set_option maxHeartbeats 1000000 in
theorem szIncident_sum (number : Int) (node : Int) (closed : Bool) (A : Option Addr) (n c : Nat) (xs : List ByteArray) (left : Int) (w : World) (hn : (n : Int) ≤ 9223372036854775807) (hs : Sl w A n xs) (hv : ∀ x, x ∈ xs → x.size ≤ maxLen) (h0 : 0 ≤ left) (h1 : left ≤ 1048576) :
    Calls Try.prog 36 #[.agg #[.int .i64 (number), .int .i64 (node), .bool (closed), .slice A n c], .int .i64 left] w (SzPostN w left n) := by
  have HV := Lib.hid hv
  clear hv
  go_enter Try.func36, Try.ntmps36
  go_wp2_with fail
  refine (szStringS_sum A n c xs (left) _ hn (hs.below (bl_alloc (bl_refl _) _)) HV.out (by omega) (by omega)).mono ?_
  rintro e V ⟨q, rfl, hq, hV⟩
  have hb := bl_trans (bl_alloc (bl_refl w) (.cells #[.int .i64 (number), .int .i64 (node), .bool (closed), .slice A n c] 53)) hV
  rcases hq with rfl | ⟨q0, q1⟩
  · go_wp2
    go_ret
    exact ⟨-1, rfl, .inl rfl, hb⟩
  · go_wp2
    go_ret
    exact ⟨q, rfl, .inr ⟨q0, by omega⟩, hb⟩
set_option maxHeartbeats 1000000 in
theorem szIncidentS_any (A : Option Addr) (n c : Nat) (xs : List Incident) (left : Int) (w : World) (hn : (n : Int) ≤ 9223372036854775807) (hs : Sl w A n xs) (hv : ∀ x, x ∈ xs → ∀ y, y ∈ x.Names → y.size ≤ maxLen) (h0 : 0 ≤ left) (h1 : left ≤ 1048576) :
    Calls Try.prog 10 #[.slice A n c, .int .i64 left] w (SzPost w left ((n : Int) + sumIncident xs ≤ left)) := by
  have HL := Lib.hid hs.1
  have HV := Lib.hid hv
  clear hv
  by_cases hlt : left < n
  · go_enter Try.func10, Try.ntmps10
    go_wp2
    go_ret
    exact ⟨-1, rfl, .inl rfl, bl_refl _⟩
  have h00 : sumIncident (xs.take 0) = 0 := rfl
  have H00 := Lib.hid h00
  clear h00
  go_enter Try.func10, Try.ntmps10
  go_wp2
  go_loopw [1, 5] (fun u v wr => ∃ (k : Nat) (r : Int), k ≤ n ∧ v = .int .i64 k ∧ u = .int .i64 r ∧ 0 ≤ r ∧ r ≤ left ∧ Hid (r + n + sumIncident (xs.take k) ≤ left) ∧ Below w.heap.size w wr) (fun _ v _ => n - (intOf v).toNat)
  case atStart => exact ⟨0, left - n, Nat.zero_le _, rfl, rfl, by omega, by omega, by rw [Hid, H00.out]; omega, bl_refl _⟩
  case round =>
    obtain ⟨k, r, hk, rfl, rfl, hr0, hr1, hg, hb⟩ := hrel
    by_cases hkn : k < n
    · have hkx : Hid (k < xs.length) := by rw [Hid, HL.out]; exact hkn
      obtain ⟨b, o, A', c', rfl, hbz, c0, c1, c2, c3, hi, hil⟩ := (hs.below hb).incident hkn
      clear hs
      have hm2 := Lib.hid (nth_mem hkx.out)
      have hil2 : ((nth xs k).Names.length : Int) ≤ 9223372036854775807 := by unfold maxLen at hil; omega
      have HS := Lib.hid (sumIncident_succ hkx.out)
      clear hil
      go_wp2_with fail
      refine (szIncident_sum (nth xs k).Number (nth xs k).Node (nth xs k).Closed A' _ c' (nth xs k).Names r _ hil2 hi (HV.out _ hm2.out) hr0 (by omega)).mono ?_
      rintro e V ⟨q, rfl, hq, hV⟩
      clear hi c0 c1 c2 c3
      rcases hq with rfl | ⟨q0, q1⟩
      · go_wp2
        go_ret
        exact ⟨-1, rfl, .inl rfl, bl_trans hb hV⟩
      · have HQ := Lib.hid q1
        have q2 : q ≤ r := by omega
        clear q1
        go_wp2
        go_roundw
        case rel => exact ⟨k + 1, q, by omega, by go_num, rfl, q0, by omega, by have h1 := HQ.out; have h2 := HS.out; have h3 := hg.out; rw [Hid, h2]; omega, bl_trans hb hV⟩
        case measure => simp [intOf]; omega
    · obtain rfl : k = n := by omega
      have hfin : Hid (r + (k : Int) + sumIncident xs ≤ left) := by have := hg.out; rw [List.take_of_length_le (by rw [HL.out]; exact Nat.le_refl _)] at this; exact this
      go_wp2
      go_ret
      exact ⟨r, rfl, .inr ⟨hr0, hr1, by have := hfin.out; omega⟩, hb⟩
theorem incident_info : (Try.prog.info? 56).map (fun i => (i.zero, i.size, i.bytes)) = some (some (.agg #[.int .i64 (0), .int .i64 (0), .bool (false), .slice none 0 0]), 4, 48) := by kernel_rfl
set_option maxHeartbeats 4000000 in
theorem toIncidentS_any (A : Option Addr) (n c : Nat) (xs : List Incident) (w : World) (hn : n ≤ 1048576) (hx : Sl w A n xs) (hin : ∀ x, x ∈ xs → x.Names.length ≤ 1048576) :
    Calls Try.prog 12 #[.slice A n c] w (RetOwnX incidentN w 56 9 xs) := by
  have Hx := Lib.hid hx.1
  have Hin := Lib.hid hin
  clear hin
  obtain ⟨i0, hi, hz0, hz1, hz2⟩ := info_parts incident_info
  have hmk := fun W => run_make_rowN (P := Try.prog) 24 56 i0 _ Try.underlying24 hi hz0 .i64 .i64 n n (Nat.le_refl _) (by rw [hz2]; omega) (by omega) W
  rw [hz1] at hmk
  clear hi hz0 hz1 hz2
  go_enter Try.func12, Try.ntmps12
  go_wp2
  clear hmk
  go_loopw [4] (fun i wr => ∃ (k : Nat) (ps : List (IncidentR × List ByteArray)), k ≤ n ∧ i = .int .i64 k ∧ Below w.heap.size w wr ∧ OwnP incidentN wr w.heap.size 56 9 (.slice (some ⟨w.heap.size, 0, none⟩) n n) ps ∧ Hid (incidentN.plain ps = xs.take k ++ List.replicate (n - k) (default : Incident))) (fun i _ => n - (intOf i).toNat)
  case atStart =>
    refine ⟨0, List.replicate n (default, []), Nat.zero_le _, rfl, bl_alloc (bl_refl _) _, OwnP.fresh (by rw [List.map_replicate]; exact Own.made w _ default rfl n (by unfold maxLen; omega)) ?_ (by decide), ?_⟩
    · intro i p hp
      rw [List.getElem?_replicate] at hp
      split at hp
      · injection hp with hp; subst hp; exact ⟨rfl, rfl⟩
      · cases hp
    · rw [Hid]; unfold Nest.plain; rw [List.map_replicate]; rfl
  case round =>
    obtain ⟨k, ps, hk, rfl, hb, ho, HL⟩ := hrel
    by_cases hlt : k < n
    · obtain ⟨b, o, A', c', rfl, _, c0, c1, c2, c3, hi, _⟩ := (hx.below hb).incident hlt
      have hkx : Hid (k < xs.length) := by rw [Hid, Hx.out]; exact hlt
      have hm2 := Lib.hid (nth_mem hkx.out)
      clear hx
      go_wp2_with fail
      refine (toIncident_any (nth xs k).Number (nth xs k).Node (nth xs k).Closed A' _ c' (nth xs k).Names _ (Hin.out _ hm2.out) hi).mono ?_
      rintro e V ⟨A2, cc2, rfl, ho1, hV⟩
      have hoV := ho.below hV
      have hz1 : w.heap.size < wr.heap.size := (ho.out.lt _ rfl).2
      have Ho := Lib.hid ho
      have d0 : V.cell? ⟨w.heap.size, k * 4, none⟩ = some (.int .i64 ((nth (ps.map Prod.fst) k).Number)) := hoV.out.cellAt hlt 0 _ rfl
      have f0 := hoV.out.frozenAt (k * 4)
      have d1 : V.cell? ⟨w.heap.size, k * 4 + 1, none⟩ = some (.int .i64 ((nth (ps.map Prod.fst) k).Node)) := hoV.out.cellAt hlt 1 _ rfl
      have f1 := hoV.out.frozenAt (k * 4 + 1)
      have d2 : V.cell? ⟨w.heap.size, k * 4 + 2, none⟩ = some (.bool ((nth (ps.map Prod.fst) k).Closed)) := hoV.out.cellAt hlt 2 _ rfl
      have f2 := hoV.out.frozenAt (k * 4 + 2)
      have d3 : V.cell? ⟨w.heap.size, k * 4 + 3, none⟩ = some (.slice (nth (ps.map Prod.fst) k).A (nth (ps.map Prod.fst) k).n (nth (ps.map Prod.fst) k).c) := hoV.out.cellAt hlt 3 _ rfl
      have f3 := hoV.out.frozenAt (k * 4 + 3)
      have HO : Hid (Own V wr.heap.size 9 (.slice A2 (nth xs k).Names.length cc2) (nth xs k).Names) := ho1
      clear hi c0 c1 c2 c3 ho ho1
      dsimp only
      go_wp2
      go_roundw
      case rel =>
        have hpl : k < ps.length := by rw [hoV.len]; exact hlt
        obtain ⟨p, hp⟩ : ∃ p, ps[k]? = some p := ⟨_, List.getElem?_eq_getElem hpl⟩
        refine ⟨k + 1, ps.set k (⟨(nth xs k).Number, (nth xs k).Node, (nth xs k).Closed, A2, (nth xs k).Names.length, cc2⟩, (nth xs k).Names), by omega, by go_num, ?_, hoV.upd hp (hoV.out.put hlt (⟨(nth xs k).Number, (nth xs k).Node, (nth xs k).Closed, A2, (nth xs k).Names.length, cc2⟩ : IncidentR)) ?_ ?_ ?_, ?_⟩
        · repeat' (first | exact bl_trans hb hV | refine bl_set ?_ (Nat.le_refl _) _)
        · refine Own.mono (base := w.heap.size + 1) ?_ (by omega)
          have hb1 : w.heap.size + 1 ≤ wr.heap.size := hz1
          have h2 := HO.out.mono hb1
          repeat' (first | exact h2 | refine Own.set ?_ (Nat.lt_succ_self _) _)
        · intro x hx
          refine .inr fun j q hq hx' => ?_
          have h1 := (HO.out.lt x hx).1
          have h2 := ((Ho.out.inn j q hq).lt x hx').2
          omega
        · refine (OnlyF.of_gb (v := .slice (some ⟨w.heap.size, 0, none⟩) n n) ?_).mono (fun k hk => by simp [Value.ownBlock] at hk; subst hk; exact List.mem_cons_self)
          repeat' (first | exact gb_refl _ _ | refine gb_set ?_ _ _)
        · rw [Hid]; unfold Nest.plain at HL ⊢; rw [List.map_set]; exact set_take Hx.out hlt HL.out (get_nth hkx.out)
      case measure => simp [intOf]; omega
    · obtain rfl : k = n := by omega
      have HL2 : Hid (incidentN.plain ps = xs) := by rw [Hid, HL.out, ← Hx.out]; simp
      go_wp2
      go_ret
      exact retOwnX_mk HL2.out ho hb
set_option maxHeartbeats 2000000 in
theorem eqIncidentS_any (A B : Option Addr) (n m c d : Nat) (xs ys : List Incident) (w : World) (hn : (n : Int) ≤ 9223372036854775807) (hx : Sl w A n xs) (hy : Sl w B m ys) :
    Calls Try.prog 14 #[.slice A n c, .slice B m d] w fun e w' => e = .returned (.bool (sameB xs ys)) ∧ Below w.heap.size w w' := by
  have Hx := Lib.hid hx.1
  have Hy := Lib.hid hy.1
  by_cases hnm : n = m
  · subst hnm
    have hd : ((n : Int) != (n : Int)) = false := by simp
    go_enter Try.func14, Try.ntmps14
    go_wp2
    go_loopw [5] (fun i wr => ∃ k : Nat, k ≤ n ∧ i = .int .i64 k ∧ Below w.heap.size w wr ∧ Hid (xs.take k = ys.take k)) (fun i _ => n - (intOf i).toNat)
    case atStart => exact ⟨0, Nat.zero_le _, rfl, bl_refl _, rfl⟩
    case round =>
      obtain ⟨k, hk, rfl, hb, hg⟩ := hrel
      by_cases hlt : k < n
      · obtain ⟨b, o, A', c', rfl, _, c0, c1, c2, c3, hi, hil⟩ := (hx.below hb).incident hlt
        obtain ⟨b', o', B', c'', rfl, _, d0, d1, d2, d3, hj, _⟩ := (hy.below hb).incident hlt
        have hil2 : ((nth xs k).Names.length : Int) ≤ 9223372036854775807 := by unfold maxLen at hil; omega
        clear hx hy hil
        by_cases he : sameB (⟨(nth xs k).Number, (nth xs k).Node, (nth xs k).Closed, (nth xs k).Names⟩ : Incident) (⟨(nth ys k).Number, (nth ys k).Node, (nth ys k).Closed, (nth ys k).Names⟩ : Incident) = true
        · skip
          go_wp2_with fail
          refine wp_region_grow (by kernel_rfl) (by kernel_rfl) (fun W hW => ?_)
          have e0 := Gw.cell (by rw [hW]; exact c0 : W.cell? _ = _)
          have g0 := Gw.cell (by rw [hW]; exact d0 : W.cell? _ = _)
          have e1 := Gw.cell (by rw [hW]; exact c1 : W.cell? _ = _)
          have g1 := Gw.cell (by rw [hW]; exact d1 : W.cell? _ = _)
          have e2 := Gw.cell (by rw [hW]; exact c2 : W.cell? _ = _)
          have g2 := Gw.cell (by rw [hW]; exact d2 : W.cell? _ = _)
          have e3 := Gw.cell (by rw [hW]; exact c3 : W.cell? _ = _)
          have g3 := Gw.cell (by rw [hW]; exact d3 : W.cell? _ = _)
          have SX := Lib.hid (show Sl W A' _ (nth xs k).Names by rw [hW]; exact hi)
          have SY := Lib.hid (show Sl W B' _ (nth ys k).Names by rw [hW]; exact hj)
          have HW := Lib.hid hW
          clear hW hi hj
          repeat (go_big_quiet_step ((go_at_call 45; exact Calls.grow_of (eqIncident_any _ _ _ _ _ _ _ _ _ _ _ _ _ _ _ hil2 (SX.out.below (Subtype.property _)) (SY.out.below (Subtype.property _))))))
          refine wpGrow_nil (fun V hV => ?_)
          have hbV : Below w.heap.size w V := bl_trans hb (by rw [← HW.out]; exact hV)
          clear hV e0 g0 e1 g1 e2 g2 e3 g3
          go_wp2
          go_roundw
          case rel => exact ⟨k + 1, by omega, by go_num, hbV, sameB_take (by rw [Hx.out]; exact hlt) (by rw [Hy.out]; exact hlt) hg he⟩
          case measure => simp [intOf]; omega
        · have he : sameB (⟨(nth xs k).Number, (nth xs k).Node, (nth xs k).Closed, (nth xs k).Names⟩ : Incident) (⟨(nth ys k).Number, (nth ys k).Node, (nth ys k).Closed, (nth ys k).Names⟩ : Incident) = false := by simpa using he
          go_wp2_with fail
          refine wp_region_grow (by kernel_rfl) (by kernel_rfl) (fun W hW => ?_)
          have e0 := Gw.cell (by rw [hW]; exact c0 : W.cell? _ = _)
          have g0 := Gw.cell (by rw [hW]; exact d0 : W.cell? _ = _)
          have e1 := Gw.cell (by rw [hW]; exact c1 : W.cell? _ = _)
          have g1 := Gw.cell (by rw [hW]; exact d1 : W.cell? _ = _)
          have e2 := Gw.cell (by rw [hW]; exact c2 : W.cell? _ = _)
          have g2 := Gw.cell (by rw [hW]; exact d2 : W.cell? _ = _)
          have e3 := Gw.cell (by rw [hW]; exact c3 : W.cell? _ = _)
          have g3 := Gw.cell (by rw [hW]; exact d3 : W.cell? _ = _)
          have SX := Lib.hid (show Sl W A' _ (nth xs k).Names by rw [hW]; exact hi)
          have SY := Lib.hid (show Sl W B' _ (nth ys k).Names by rw [hW]; exact hj)
          have HW := Lib.hid hW
          clear hW hi hj
          repeat (go_big_quiet_step ((go_at_call 45; exact Calls.grow_of (eqIncident_any _ _ _ _ _ _ _ _ _ _ _ _ _ _ _ hil2 (SX.out.below (Subtype.property _)) (SY.out.below (Subtype.property _))))))
          refine wpGrow_nil (fun V hV => ?_)
          have hbV : Below w.heap.size w V := bl_trans hb (by rw [← HW.out]; exact hV)
          clear hV e0 g0 e1 g1 e2 g2 e3 g3
          go_wp2
          go_ret
          exact ⟨ret_bool (sameB_nth (k := k) he).symm, hbV⟩
      · obtain rfl : k = n := by omega
        go_wp2
        go_ret
        exact ⟨ret_bool (sameB_all Hx.out Hy.out hg).symm, hb⟩
  · have hd : ((n : Int) != (m : Int)) = true := by simp; omega
    go_enter Try.func14, Try.ntmps14
    go_wp2
    go_ret
    exact ⟨ret_bool (sameB_len (by rw [Hx.out, Hy.out]; exact hnm)).symm, bl_refl _⟩

end Go.Proofs.Ytkgjbijkjlmomaa
