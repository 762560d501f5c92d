/-
  Incidents: the program's test of a list answers incsB. No conditions.
-/
import Derived.Test.YtnaadihbkiakeaaIncT
namespace Go.Proofs.Ytnaadihbkiakeaa
open Go.RowKit

set_option maxRecDepth 100000 in
set_option maxHeartbeats 8000000 in
theorem areIncidents_any (xs : List Incident) (A : Option Addr) (n c : Nat) (w : World) (hn : (n : Int) ≤ 9223372036854775807) (hc : n ≤ c) (hs : Sl w A n xs) (hv : ∀ x, x ∈ xs → ∀ y, y ∈ x.Names → y.size ≤ maxLen) :
    Calls Try.prog 96 #[.slice A n c] w fun e w' => e = .returned (.bool (incsB xs)) ∧ Below w.heap.size w w' := by
  have HV := Lib.hid hv
  clear hv
  have HL := Lib.hid hs.1
  go_enter Try.func96, Try.ntmps96
  go_wp2
  go_loopw [9] (fun i wr => ∃ k : Nat, k ≤ n ∧ i = .int .i64 k ∧ Below w.heap.size w wr ∧ Hid (∀ j, j < k → okInc xs j = true)) (fun i _ => n - (intOf i).toNat)
  case atStart => exact ⟨0, Nat.zero_le _, rfl, Below.refl _ _, fun j hj => absurd hj (by omega)⟩
  case round =>
    obtain ⟨k, hk, rfl, hb, hg⟩ := hrel
    by_cases hlt : k < n
    · obtain ⟨wo, rfl⟩ : ∃ wo : World, wo = wr := ⟨_, rfl⟩
      have hs' := hs.below hb
      obtain ⟨b, o, A', c', rfl, hbz, c0, c1, c2, c3, hi, hil⟩ := hs'.incident hlt
      have hil2 : ((nth xs k).Names.length : Int) ≤ 9223372036854775807 := by unfold maxLen at hil; omega
      have hkx : Hid (k < xs.length) := by rw [Hid, HL.out]; exact hlt
      have hszh := Lib.hid (HV.out _ (nth_mem hkx.out))
      have Hs := Lib.hid hs
      have hkc : (k : Int) ≤ c := by omega
      have hkc2 : k ≤ c := by omega
      have hk00 : (0 : Int) ≤ k := by omega
      clear hs hil
      cases g0 : incB (nth xs k).Number (nth xs k).Node (nth xs k).Closed (nth xs k).Names
      · have G0 : Hid (incAt xs k = false) := g0
        clear hs'
        go_wp2_with fail
        refine wp_region_grow (by kernel_rfl) (by kernel_rfl) (fun X hX => ?_)
        have hbX : Below wo.heap.size wo X := by rw [hX]; exact bl_alloc (bl_refl _) _
        have r0 : X.cell? ⟨wo.heap.size, 0, none⟩ = some (.int .i64 (nth xs k).Number) := by rw [hX]; go_simp
        have r1 : X.cell? ⟨wo.heap.size, 1, none⟩ = some (.int .i64 (nth xs k).Node) := by rw [hX]; go_simp
        have r2 : X.cell? ⟨wo.heap.size, 2, none⟩ = some (.bool (nth xs k).Closed) := by rw [hX]; go_simp
        have r3 : X.cell? ⟨wo.heap.size, 3, none⟩ = some (.slice A' (nth xs k).Names.length c') := by rw [hX]; go_simp
        have q0 := Gw.cell r0
        have q1 := Gw.cell r1
        have q2 := Gw.cell r2
        have q3 := Gw.cell r3
        have hiX := Lib.hid (hi.below hbX)
        have HX := Lib.hid hX
        clear hX c0 c1 c2 c3
        repeat (go_big_quiet_step ((go_at_call 128; exact Calls.grow_of (isIncident_any _ _ _ (nth xs k).Names _ _ _ _ hil2 (hiX.out.below (Subtype.property _)) hszh.out))))
        refine wpGrow_nil (fun V hV => ?_)
        have hB := bl_trans hbX hV
        have hbV := bl_trans hb hB
        have v3 := cell_later hV r3
        have vz : wo.heap.size < V.heap.size := World.block_lt_of_cell? V _ v3
        have hiV := Lib.hid (hi.below hB)
        clear hV hbX hi r0 q0 r1 q1 r2 q2 r3 q3
        clear v3
        go_wp2
        go_ret
        exact ⟨ret_bool (incsB_no hkx.out (okInc_0 G0.out)).symm, hbV⟩
      have G0 : Hid (incAt xs k = true) := g0
      by_cases hk0 : 0 < k
      · obtain ⟨b1, o1, A1, cc1, e, _, d0, _, _, _, _, _⟩ := hs'.incident (k := k - 1) (by omega)
        injection e with e
        injection e with e1 e2
        subst e1 e2
        clear hs'
        have hkd : decide ((k : Int) > 0) = true := by simpa using hk0
        have i2 : 0 ≤ (k : Int) - 1 := by omega
        have i4 : (k : Int) - 1 < n := by omega
        have i1 : IntKind.i64.wrap ((k : Int) - 1) = (k : Int) - 1 := IntWalk.i64_in _ (by omega)
        have i3 : ((k : Int) - 1).toNat = k - 1 := by omega
        by_cases g1 : (nth xs (k - 1)).Number ≥ (nth xs k).Number
        · have g2 : decide ((nth xs (k - 1)).Number ≥ (nth xs k).Number) = true := by simpa using g1
          go_wp2_with fail
          refine wp_region_grow (by kernel_rfl) (by kernel_rfl) (fun X hX => ?_)
          have hbX : Below wo.heap.size wo X := by rw [hX]; exact bl_alloc (bl_refl _) _
          have r0 : X.cell? ⟨wo.heap.size, 0, none⟩ = some (.int .i64 (nth xs k).Number) := by rw [hX]; go_simp
          have r1 : X.cell? ⟨wo.heap.size, 1, none⟩ = some (.int .i64 (nth xs k).Node) := by rw [hX]; go_simp
          have r2 : X.cell? ⟨wo.heap.size, 2, none⟩ = some (.bool (nth xs k).Closed) := by rw [hX]; go_simp
          have r3 : X.cell? ⟨wo.heap.size, 3, none⟩ = some (.slice A' (nth xs k).Names.length c') := by rw [hX]; go_simp
          have p0 := cell_later hbX d0
          have q0 := Gw.cell r0
          have q1 := Gw.cell r1
          have q2 := Gw.cell r2
          have q3 := Gw.cell r3
          have s0 := Gw.cell p0
          have hiX := Lib.hid (hi.below hbX)
          have HX := Lib.hid hX
          clear hX c0 c1 c2 c3
          repeat (go_big_quiet_step ((go_at_call 128; exact Calls.grow_of (isIncident_any _ _ _ (nth xs k).Names _ _ _ _ hil2 (hiX.out.below (Subtype.property _)) hszh.out))))
          refine wpGrow_nil (fun V hV => ?_)
          have hB := bl_trans hbX hV
          have hbV := bl_trans hb hB
          have v3 := cell_later hV r3
          have vz : wo.heap.size < V.heap.size := World.block_lt_of_cell? V _ v3
          have hiV := Lib.hid (hi.below hB)
          clear hV hbX hi r0 q0 r1 q1 r2 q2 r3 q3 p0 s0 d0 i1 i3
          clear v3
          go_wp2
          go_ret
          exact ⟨ret_bool (incsB_no hkx.out (okInc_1 hk0 g1)).symm, hbV⟩
        · have g2 : decide ((nth xs (k - 1)).Number ≥ (nth xs k).Number) = false := by simpa using g1
          go_wp2_with fail
          refine wp_region_grow (by kernel_rfl) (by kernel_rfl) (fun X hX => ?_)
          have hbX : Below wo.heap.size wo X := by rw [hX]; exact bl_alloc (bl_refl _) _
          have r0 : X.cell? ⟨wo.heap.size, 0, none⟩ = some (.int .i64 (nth xs k).Number) := by rw [hX]; go_simp
          have r1 : X.cell? ⟨wo.heap.size, 1, none⟩ = some (.int .i64 (nth xs k).Node) := by rw [hX]; go_simp
          have r2 : X.cell? ⟨wo.heap.size, 2, none⟩ = some (.bool (nth xs k).Closed) := by rw [hX]; go_simp
          have r3 : X.cell? ⟨wo.heap.size, 3, none⟩ = some (.slice A' (nth xs k).Names.length c') := by rw [hX]; go_simp
          have p0 := cell_later hbX d0
          have q0 := Gw.cell r0
          have q1 := Gw.cell r1
          have q2 := Gw.cell r2
          have q3 := Gw.cell r3
          have s0 := Gw.cell p0
          have hiX := Lib.hid (hi.below hbX)
          have HX := Lib.hid hX
          clear hX c0 c1 c2 c3
          repeat (go_big_quiet_step ((go_at_call 128; exact Calls.grow_of (isIncident_any _ _ _ (nth xs k).Names _ _ _ _ hil2 (hiX.out.below (Subtype.property _)) hszh.out))))
          refine wpGrow_nil (fun V hV => ?_)
          have hB := bl_trans hbX hV
          have hbV := bl_trans hb hB
          have v3 := cell_later hV r3
          have vz : wo.heap.size < V.heap.size := World.block_lt_of_cell? V _ v3
          have hiV := Lib.hid (hi.below hB)
          clear hV hbX hi r0 q0 r1 q1 r2 q2 r3 q3 p0 s0 d0 i1 i3
          go_wp2
          try simp only [g0]
          go_loopw [35] (fun i wr => ∃ j : Nat, j ≤ (nth xs k).Names.length ∧ i = .int .i64 j ∧ Below V.heap.size V wr ∧ Hid (∀ q, q < j → (xs.take k).any (fun y => hasS y.Names (nth (nth xs k).Names q)) = false)) (fun i _ => (nth xs k).Names.length - (intOf i).toNat)
          case atStart => exact ⟨0, Nat.zero_le _, rfl, bl_refl _, fun j hj => absurd hj (by omega)⟩
          case round =>
            obtain ⟨j, hj, rfl, hb2, hg2⟩ := hrel
            by_cases hjn : j < (nth xs k).Names.length
            · obtain ⟨b', o', rfl, _, e0⟩ := (hiV.out.below hb2).str hjn
              have hst := Lib.hid ((Hs.out.below (bl_trans hbV hb2)).take (by omega : k ≤ n))
              clear v3
              go_wp2_with fail
              refine (committedAt_any (xs.take k) (nth (nth xs k).Names j) _ k _ _ (by omega) hst.out).mono ?_
              rintro e V2 ⟨rfl, hV2⟩
              have hbV2 := bl_trans hb2 hV2
              have hany := any_index (fun y : Incident => hasS y.Names (nth (nth xs k).Names j)) (xs.take k)
              have hge : decide (atB (xs.take k) (nth (nth xs k).Names j) ≥ 0) = (xs.take k).any (fun y => hasS y.Names (nth (nth xs k).Names j)) := hany.symm
              clear hany e0
              cases ha : (xs.take k).any (fun y => hasS y.Names (nth (nth xs k).Names j))
              · have Ha := Lib.hid ha
                rw [ha] at hge
                clear ha
                go_wp2
                go_roundw
                case rel => first | exact ⟨j + 1, by omega, by go_num, hbV2, upto_succ hg2 Ha.out⟩ | ((repeat apply Exists.intro); exact ⟨⟨j + 1, by omega, by go_num, hbV2, upto_succ hg2 Ha.out⟩, rfl⟩)
                case measure => simp [intOf]; omega
              · have Ha := Lib.hid ha
                rw [ha] at hge
                clear ha
                go_wp2
                go_ret
                exact ⟨ret_bool (incsB_no hkx.out (okInc_2 hjn Ha.out)).symm, bl_trans hbV hbV2⟩
            · obtain rfl : j = (nth xs k).Names.length := by omega
              have hq : Hid (okInc xs k = true) := okInc_y G0.out (.inr (by omega)) hg2.out
              clear v3
              go_wp2
              go_roundw
              case rel => exact ⟨k + 1, by omega, by go_num, bl_trans hbV hb2, upto_succ hg hq.out⟩
              case measure => simp [intOf]; omega
      · have hkd : decide ((k : Int) > 0) = false := by simp; omega
        clear hs'
        go_wp2_with fail
        refine wp_region_grow (by kernel_rfl) (by kernel_rfl) (fun X hX => ?_)
        have hbX : Below wo.heap.size wo X := by rw [hX]; exact bl_alloc (bl_refl _) _
        have r0 : X.cell? ⟨wo.heap.size, 0, none⟩ = some (.int .i64 (nth xs k).Number) := by rw [hX]; go_simp
        have r1 : X.cell? ⟨wo.heap.size, 1, none⟩ = some (.int .i64 (nth xs k).Node) := by rw [hX]; go_simp
        have r2 : X.cell? ⟨wo.heap.size, 2, none⟩ = some (.bool (nth xs k).Closed) := by rw [hX]; go_simp
        have r3 : X.cell? ⟨wo.heap.size, 3, none⟩ = some (.slice A' (nth xs k).Names.length c') := by rw [hX]; go_simp
        have q0 := Gw.cell r0
        have q1 := Gw.cell r1
        have q2 := Gw.cell r2
        have q3 := Gw.cell r3
        have hiX := Lib.hid (hi.below hbX)
        have HX := Lib.hid hX
        clear hX c0 c1 c2 c3
        repeat (go_big_quiet_step ((go_at_call 128; exact Calls.grow_of (isIncident_any _ _ _ (nth xs k).Names _ _ _ _ hil2 (hiX.out.below (Subtype.property _)) hszh.out))))
        refine wpGrow_nil (fun V hV => ?_)
        have hB := bl_trans hbX hV
        have hbV := bl_trans hb hB
        have v3 := cell_later hV r3
        have vz : wo.heap.size < V.heap.size := World.block_lt_of_cell? V _ v3
        have hiV := Lib.hid (hi.below hB)
        clear hV hbX hi r0 q0 r1 q1 r2 q2 r3 q3
        go_wp2
        try simp only [g0]
        go_loopw [35] (fun i wr => ∃ j : Nat, j ≤ (nth xs k).Names.length ∧ i = .int .i64 j ∧ Below V.heap.size V wr ∧ Hid (∀ q, q < j → (xs.take k).any (fun y => hasS y.Names (nth (nth xs k).Names q)) = false)) (fun i _ => (nth xs k).Names.length - (intOf i).toNat)
        case atStart => exact ⟨0, Nat.zero_le _, rfl, bl_refl _, fun j hj => absurd hj (by omega)⟩
        case round =>
          obtain ⟨j, hj, rfl, hb2, hg2⟩ := hrel
          by_cases hjn : j < (nth xs k).Names.length
          · obtain ⟨b', o', rfl, _, e0⟩ := (hiV.out.below hb2).str hjn
            have hst := Lib.hid ((Hs.out.below (bl_trans hbV hb2)).take (by omega : k ≤ n))
            clear v3
            go_wp2_with fail
            refine (committedAt_any (xs.take k) (nth (nth xs k).Names j) _ k _ _ (by omega) hst.out).mono ?_
            rintro e V2 ⟨rfl, hV2⟩
            have hbV2 := bl_trans hb2 hV2
            have hany := any_index (fun y : Incident => hasS y.Names (nth (nth xs k).Names j)) (xs.take k)
            have hge : decide (atB (xs.take k) (nth (nth xs k).Names j) ≥ 0) = (xs.take k).any (fun y => hasS y.Names (nth (nth xs k).Names j)) := hany.symm
            clear hany e0
            cases ha : (xs.take k).any (fun y => hasS y.Names (nth (nth xs k).Names j))
            · have Ha := Lib.hid ha
              rw [ha] at hge
              clear ha
              go_wp2
              go_roundw
              case rel => first | exact ⟨j + 1, by omega, by go_num, hbV2, upto_succ hg2 Ha.out⟩ | ((repeat apply Exists.intro); exact ⟨⟨j + 1, by omega, by go_num, hbV2, upto_succ hg2 Ha.out⟩, rfl⟩)
              case measure => simp [intOf]; omega
            · have Ha := Lib.hid ha
              rw [ha] at hge
              clear ha
              go_wp2
              go_ret
              exact ⟨ret_bool (incsB_no hkx.out (okInc_2 hjn Ha.out)).symm, bl_trans hbV hbV2⟩
          · obtain rfl : j = (nth xs k).Names.length := by omega
            have hq : Hid (okInc xs k = true) := okInc_y G0.out (.inl (by omega)) hg2.out
            clear v3
            go_wp2
            go_roundw
            case rel => exact ⟨k + 1, by omega, by go_num, bl_trans hbV hb2, upto_succ hg hq.out⟩
            case measure => simp [intOf]; omega
    · obtain rfl : k = n := by omega
      go_wp2
      go_ret
      refine ⟨ret_bool ?_, hb⟩
      rw [incsB_all (by rw [HL.out]; exact hg.out), HL.out]
      simp
      try omega
theorem implAreIncidents_any (xs : List Incident) (A : Option Addr) (n c : Nat) (w : World) (hn : (n : Int) ≤ 9223372036854775807) (hc : n ≤ c) (hs : Sl w A n xs) (hv : ∀ x, x ∈ xs → ∀ y, y ∈ x.Names → y.size ≤ maxLen) :
    Calls Try.prog 39 #[.slice A n c] w fun e w' => e = .returned (.bool (incsB xs)) ∧ Below w.heap.size w w' := by
  have HV := Lib.hid hv
  clear hv
  go_enter Try.func39, Try.ntmps39
  go_wp2_with (go_at_call 96; refine (areIncidents_any xs _ _ _ _ hn hc hs HV.out).mono ?_; rintro e V ⟨rfl, hV⟩)
  go_ret
  exact ⟨rfl, hV⟩

end Go.Proofs.Ytnaadihbkiakeaa
