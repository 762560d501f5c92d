/-
  Incidents: the reference's test of a list answers incsB. No conditions.
-/
import Derived.Test.YtnaadihbkiakeaaIncT
namespace Go.Proofs.Ytnaadihbkiakeaa
open Go.RowKit

set_option maxRecDepth 100000 in
set_option maxHeartbeats 8000000 in
theorem ixGood_any (xs : List Incident) (A : Option Addr) (n c : Nat) (w : World) (hn : (n : Int) ≤ 9223372036854775807) (hc : n ≤ c) (hs : Sl w A n xs) (hv : ∀ x, x ∈ xs → ∀ y, y ∈ x.Names → y.size ≤ maxLen) :
    Calls Try.prog 108 #[.slice A n c] w fun e w' => e = .returned (.bool (incsB xs)) ∧ Below w.heap.size w w' := by
  have HV := Lib.hid hv
  clear hv
  have HL := Lib.hid hs.1
  go_enter Try.func108, Try.ntmps108
  go_wp2
  go_loopw [11] (fun i wr => ∃ k : Nat, k ≤ n ∧ i = .int .i64 k ∧ Below w.heap.size w wr ∧ Hid (∀ j, j < k → okInc xs j = true)) (fun i _ => n - (intOf i).toNat)
  case atStart => exact ⟨0, Nat.zero_le _, rfl, Below.refl _ _, fun j hj => absurd hj (by omega)⟩
  case round =>
    obtain ⟨k, hk, rfl, hb, hg⟩ := hrel
    by_cases hlt : k < n
    · obtain ⟨wo, rfl⟩ : ∃ wo : World, wo = wr := ⟨_, rfl⟩
      have hs' := hs.below hb
      obtain ⟨b, o, A', c', rfl, hbz, c0, c1, c2, c3, hi, hil⟩ := hs'.incident hlt
      have hil2 : ((nth xs k).Names.length : Int) ≤ 9223372036854775807 := by unfold maxLen at hil; omega
      have hkx : Hid (k < xs.length) := by rw [Hid, HL.out]; exact hlt
      have hszh := Lib.hid (HV.out _ (nth_mem hkx.out))
      have Hs := Lib.hid hs
      have hkc : (k : Int) ≤ c := by omega
      have hkc2 : k ≤ c := by omega
      have hk00 : (0 : Int) ≤ k := by omega
      clear hs hil
      cases g0 : incB (nth xs k).Number (nth xs k).Node (nth xs k).Closed (nth xs k).Names
      · have G0 : Hid (incAt xs k = false) := g0
        clear hs'
        go_wp2_with fail
        refine wp_region_grow (by kernel_rfl) (by kernel_rfl) (fun X hX => ?_)
        have hbX : Below wo.heap.size wo X := by rw [hX]; exact bl_alloc (bl_refl _) _
        have r0 : X.cell? ⟨wo.heap.size, 0, none⟩ = some (.int .i64 (nth xs k).Number) := by rw [hX]; go_simp
        have r1 : X.cell? ⟨wo.heap.size, 1, none⟩ = some (.int .i64 (nth xs k).Node) := by rw [hX]; go_simp
        have r2 : X.cell? ⟨wo.heap.size, 2, none⟩ = some (.bool (nth xs k).Closed) := by rw [hX]; go_simp
        have r3 : X.cell? ⟨wo.heap.size, 3, none⟩ = some (.slice A' (nth xs k).Names.length c') := by rw [hX]; go_simp
        have q0 := Gw.cell r0
        have q1 := Gw.cell r1
        have q2 := Gw.cell r2
        have q3 := Gw.cell r3
        have hiX := Lib.hid (hi.below hbX)
        have HX := Lib.hid hX
        clear hX c0 c1 c2 c3
        repeat (go_big_quiet_step ((go_at_call 137; exact Calls.grow_of (ixOne_any _ _ _ (nth xs k).Names _ _ _ _ hil2 (hiX.out.below (Subtype.property _)) hszh.out))))
        refine wpGrow_nil (fun V hV => ?_)
        have hB := bl_trans hbX hV
        have hbV := bl_trans hb hB
        have v3 := cell_later hV r3
        have vz : wo.heap.size < V.heap.size := World.block_lt_of_cell? V _ v3
        have hiV := Lib.hid (hi.below hB)
        clear hV hbX hi r0 q0 r1 q1 r2 q2 r3 q3
        clear v3
        go_wp2
        go_ret
        exact ⟨ret_bool (incsB_no hkx.out (okInc_0 G0.out)).symm, hbV⟩
      have G0 : Hid (incAt xs k = true) := g0
      by_cases hk0 : 0 < k
      · obtain ⟨b1, o1, A1, cc1, e, _, d0, _, _, _, _, _⟩ := hs'.incident (k := k - 1) (by omega)
        injection e with e
        injection e with e1 e2
        subst e1 e2
        clear hs'
        have hkd : decide ((k : Int) > 0) = true := by simpa using hk0
        have i2 : 0 ≤ (k : Int) - 1 := by omega
        have i4 : (k : Int) - 1 < n := by omega
        have i1 : IntKind.i64.wrap ((k : Int) - 1) = (k : Int) - 1 := IntWalk.i64_in _ (by omega)
        have i3 : ((k : Int) - 1).toNat = k - 1 := by omega
        by_cases g1 : (nth xs (k - 1)).Number ≥ (nth xs k).Number
        · have g2 : decide ((nth xs (k - 1)).Number ≥ (nth xs k).Number) = true := by simpa using g1
          go_wp2_with fail
          refine wp_region_grow (by kernel_rfl) (by kernel_rfl) (fun X hX => ?_)
          have hbX : Below wo.heap.size wo X := by rw [hX]; exact bl_alloc (bl_refl _) _
          have r0 : X.cell? ⟨wo.heap.size, 0, none⟩ = some (.int .i64 (nth xs k).Number) := by rw [hX]; go_simp
          have r1 : X.cell? ⟨wo.heap.size, 1, none⟩ = some (.int .i64 (nth xs k).Node) := by rw [hX]; go_simp
          have r2 : X.cell? ⟨wo.heap.size, 2, none⟩ = some (.bool (nth xs k).Closed) := by rw [hX]; go_simp
          have r3 : X.cell? ⟨wo.heap.size, 3, none⟩ = some (.slice A' (nth xs k).Names.length c') := by rw [hX]; go_simp
          have p0 := cell_later hbX d0
          have q0 := Gw.cell r0
          have q1 := Gw.cell r1
          have q2 := Gw.cell r2
          have q3 := Gw.cell r3
          have s0 := Gw.cell p0
          have hiX := Lib.hid (hi.below hbX)
          have HX := Lib.hid hX
          clear hX c0 c1 c2 c3
          repeat (go_big_quiet_step ((go_at_call 137; exact Calls.grow_of (ixOne_any _ _ _ (nth xs k).Names _ _ _ _ hil2 (hiX.out.below (Subtype.property _)) hszh.out))))
          refine wpGrow_nil (fun V hV => ?_)
          have hB := bl_trans hbX hV
          have hbV := bl_trans hb hB
          have v3 := cell_later hV r3
          have vz : wo.heap.size < V.heap.size := World.block_lt_of_cell? V _ v3
          have hiV := Lib.hid (hi.below hB)
          clear hV hbX hi r0 q0 r1 q1 r2 q2 r3 q3 p0 s0 d0 i1 i3
          clear v3
          go_wp2
          go_ret
          exact ⟨ret_bool (incsB_no hkx.out (okInc_1 hk0 g1)).symm, hbV⟩
        · have g2 : decide ((nth xs (k - 1)).Number ≥ (nth xs k).Number) = false := by simpa using g1
          go_wp2_with fail
          refine wp_region_grow (by kernel_rfl) (by kernel_rfl) (fun X hX => ?_)
          have hbX : Below wo.heap.size wo X := by rw [hX]; exact bl_alloc (bl_refl _) _
          have r0 : X.cell? ⟨wo.heap.size, 0, none⟩ = some (.int .i64 (nth xs k).Number) := by rw [hX]; go_simp
          have r1 : X.cell? ⟨wo.heap.size, 1, none⟩ = some (.int .i64 (nth xs k).Node) := by rw [hX]; go_simp
          have r2 : X.cell? ⟨wo.heap.size, 2, none⟩ = some (.bool (nth xs k).Closed) := by rw [hX]; go_simp
          have r3 : X.cell? ⟨wo.heap.size, 3, none⟩ = some (.slice A' (nth xs k).Names.length c') := by rw [hX]; go_simp
          have p0 := cell_later hbX d0
          have q0 := Gw.cell r0
          have q1 := Gw.cell r1
          have q2 := Gw.cell r2
          have q3 := Gw.cell r3
          have s0 := Gw.cell p0
          have hiX := Lib.hid (hi.below hbX)
          have HX := Lib.hid hX
          clear hX c0 c1 c2 c3
          repeat (go_big_quiet_step ((go_at_call 137; exact Calls.grow_of (ixOne_any _ _ _ (nth xs k).Names _ _ _ _ hil2 (hiX.out.below (Subtype.property _)) hszh.out))))
          refine wpGrow_nil (fun V hV => ?_)
          have hB := bl_trans hbX hV
          have hbV := bl_trans hb hB
          have v3 := cell_later hV r3
          have vz : wo.heap.size < V.heap.size := World.block_lt_of_cell? V _ v3
          have hiV := Lib.hid (hi.below hB)
          clear hV hbX hi r0 q0 r1 q1 r2 q2 r3 q3 p0 s0 d0 i1 i3
          go_wp2
          try simp only [g0]
          go_loopw [38] (fun i wr => ∃ r : Nat, r ≤ k ∧ i = .int .i64 r ∧ Below V.heap.size V wr ∧ Hid (∀ q, q < r → ∀ j, j < (nth xs k).Names.length → hasS (nth xs q).Names (nth (nth xs k).Names j) = false)) (fun i _ => k - (intOf i).toNat)
          case atStart => exact ⟨0, Nat.zero_le _, rfl, bl_refl _, fun j hj => absurd hj (by omega)⟩
          case round =>
            obtain ⟨r, hr, rfl, hb2, hg2⟩ := hrel
            by_cases hrk : r < k
            · obtain ⟨wm, rfl⟩ : ∃ wm : World, wm = wr := ⟨_, rfl⟩
              have v4 := cell_later hb2 v3
              have vz4 : wo.heap.size < wm.heap.size := World.block_lt_of_cell? wm _ v4
              obtain ⟨b', o', B', c'', e, hbz', y0, y1, y2, y3, hy, hyl⟩ := (Hs.out.below (bl_trans hbV hb2)).incident (by omega : r < n)
              injection e with e
              injection e with e1 e2
              subst e1 e2
              have hyl2 : ((nth xs r).Names.length : Int) ≤ 9223372036854775807 := by unfold maxLen at hyl; omega
              clear hyl v3
              go_wp2
              go_loopw [45] (fun i wr => ∃ j : Nat, j ≤ (nth xs k).Names.length ∧ i = .int .i64 j ∧ Below wm.heap.size wm wr ∧ wr.cell? ⟨wm.heap.size, 3, none⟩ = some (.slice B' (nth xs r).Names.length c'') ∧ Hid (∀ q, q < j → hasS (nth xs r).Names (nth (nth xs k).Names q) = false)) (fun i _ => (nth xs k).Names.length - (intOf i).toNat)
              case atStart => exact ⟨0, Nat.zero_le _, rfl, bl_alloc (bl_refl _) _, by go_simp, fun j hj => absurd hj (by omega)⟩
              case round =>
                obtain ⟨j, hj, rfl, hb3, u3, hg3⟩ := hrel
                have uz : wm.heap.size < wr.heap.size := World.block_lt_of_cell? wr _ u3
                clear y0 y1 y2 y3 v4
                by_cases hjn : j < (nth xs k).Names.length
                · obtain ⟨b2, o2, rfl, _, e0⟩ := (hiV.out.below (bl_trans hb2 hb3)).str hjn
                  go_wp2_with fail
                  refine (dsHas_any (nth xs r).Names (nth (nth xs k).Names j) _ _ _ _ hyl2 (hy.below hb3)).mono ?_
                  rintro e V2 ⟨rfl, rfl⟩
                  clear e0
                  cases ha : hasS (nth xs r).Names (nth (nth xs k).Names j)
                  · have Ha := Lib.hid ha
                    clear ha
                    go_wp2
                    go_roundw
                    case rel => exact ⟨j + 1, by omega, by go_num, hb3, u3, upto_succ hg3 Ha.out⟩
                    case measure => simp [intOf]; omega
                  · have Ha := Lib.hid ha
                    clear ha
                    go_wp2
                    go_ret
                    exact ⟨ret_bool (incsB_no hkx.out (okInc_2 hjn (any_take_yes (p := fun y : Incident => hasS y.Names (nth (nth xs k).Names j)) (Nat.le_of_lt hkx.out) hrk Ha.out))).symm, bl_trans hbV (bl_trans hb2 hb3)⟩
                · obtain rfl : j = (nth xs k).Names.length := by omega
                  clear u3
                  go_wp2
                  go_roundw
                  case rel => exact ⟨r + 1, by omega, by go_num, bl_trans hb2 hb3, upto_succ hg2 hg3.out⟩
                  case measure => simp [intOf]; omega
            · obtain rfl : r = k := by omega
              have hq : Hid (okInc xs r = true) := okInc_y G0.out (.inr (by omega)) (fun j hj => any_take_no (Nat.le_of_lt hkx.out) (fun q hq => hg2.out q hq j hj))
              clear v3
              go_wp2
              go_roundw
              case rel => exact ⟨r + 1, by omega, by go_num, bl_trans hbV hb2, upto_succ hg hq.out⟩
              case measure => simp [intOf]; omega
      · have hkd : decide ((k : Int) > 0) = false := by simp; omega
        clear hs'
        go_wp2_with fail
        refine wp_region_grow (by kernel_rfl) (by kernel_rfl) (fun X hX => ?_)
        have hbX : Below wo.heap.size wo X := by rw [hX]; exact bl_alloc (bl_refl _) _
        have r0 : X.cell? ⟨wo.heap.size, 0, none⟩ = some (.int .i64 (nth xs k).Number) := by rw [hX]; go_simp
        have r1 : X.cell? ⟨wo.heap.size, 1, none⟩ = some (.int .i64 (nth xs k).Node) := by rw [hX]; go_simp
        have r2 : X.cell? ⟨wo.heap.size, 2, none⟩ = some (.bool (nth xs k).Closed) := by rw [hX]; go_simp
        have r3 : X.cell? ⟨wo.heap.size, 3, none⟩ = some (.slice A' (nth xs k).Names.length c') := by rw [hX]; go_simp
        have q0 := Gw.cell r0
        have q1 := Gw.cell r1
        have q2 := Gw.cell r2
        have q3 := Gw.cell r3
        have hiX := Lib.hid (hi.below hbX)
        have HX := Lib.hid hX
        clear hX c0 c1 c2 c3
        repeat (go_big_quiet_step ((go_at_call 137; exact Calls.grow_of (ixOne_any _ _ _ (nth xs k).Names _ _ _ _ hil2 (hiX.out.below (Subtype.property _)) hszh.out))))
        refine wpGrow_nil (fun V hV => ?_)
        have hB := bl_trans hbX hV
        have hbV := bl_trans hb hB
        have v3 := cell_later hV r3
        have vz : wo.heap.size < V.heap.size := World.block_lt_of_cell? V _ v3
        have hiV := Lib.hid (hi.below hB)
        clear hV hbX hi r0 q0 r1 q1 r2 q2 r3 q3
        go_wp2
        try simp only [g0]
        go_loopw [38] (fun i wr => ∃ r : Nat, r ≤ k ∧ i = .int .i64 r ∧ Below V.heap.size V wr ∧ Hid (∀ q, q < r → ∀ j, j < (nth xs k).Names.length → hasS (nth xs q).Names (nth (nth xs k).Names j) = false)) (fun i _ => k - (intOf i).toNat)
        case atStart => exact ⟨0, Nat.zero_le _, rfl, bl_refl _, fun j hj => absurd hj (by omega)⟩
        case round =>
          obtain ⟨r, hr, rfl, hb2, hg2⟩ := hrel
          by_cases hrk : r < k
          · exact absurd hrk (by omega)
          · obtain rfl : r = k := by omega
            have hq : Hid (okInc xs r = true) := okInc_y G0.out (.inl (by omega)) (fun j hj => any_take_no (Nat.le_of_lt hkx.out) (fun q hq => hg2.out q hq j hj))
            clear v3
            go_wp2
            go_roundw
            case rel => exact ⟨r + 1, by omega, by go_num, bl_trans hbV hb2, upto_succ hg hq.out⟩
            case measure => simp [intOf]; omega
    · obtain rfl : k = n := by omega
      go_wp2
      go_ret
      refine ⟨ret_bool ?_, hb⟩
      rw [incsB_all (by rw [HL.out]; exact hg.out), HL.out]
      simp
      try omega
end Go.Proofs.Ytnaadihbkiakeaa
