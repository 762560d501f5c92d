/-
  Fleets: both tests answer fleetB. No conditions.
-/
import Derived.Test.YtkgjbijkjlmomaaApplA
namespace Go.Proofs.Ytkgjbijkjlmomaa
open Go.RowKit

def okAp (xs : List Appliance) (k : Nat) : Bool := applB (nth xs k) && !(decide (0 < k) && !Op.bytesLess (nth xs (k - 1)).Name.toList (nth xs k).Name.toList)
def fleetB (xs : List Appliance) : Bool := allB xs.length (okAp xs) && decide (xs.length ≤ 12)
theorem okAp_0 {xs : List Appliance} {k : Nat} (h : applB (nth xs k) = false) : okAp xs k = false := by simp only [okAp, h]; rfl
theorem okAp_1 {xs : List Appliance} {k : Nat} (h : 0 < k) (h' : Op.bytesLess (nth xs (k - 1)).Name.toList (nth xs k).Name.toList = false) : okAp xs k = false := by simp only [okAp, decide_eq_true h, h']; simp
theorem okAp_y {xs : List Appliance} {k : Nat} (h : applB (nth xs k) = true) (h' : ¬ 0 < k ∨ Op.bytesLess (nth xs (k - 1)).Name.toList (nth xs k).Name.toList = true) : okAp xs k = true := by
  rcases h' with h' | h'
  · simp only [okAp, h, decide_eq_false h']; rfl
  · simp only [okAp, h, h']; simp
theorem fleetB_no {xs : List Appliance} {k : Nat} (hk : k < xs.length) (h : okAp xs k = false) : fleetB xs = false := by simp only [fleetB, allB_false hk h]; rfl
theorem fleetB_all {xs : List Appliance} (h : ∀ j, j < xs.length → okAp xs j = true) : fleetB xs = decide (xs.length ≤ 12) := by simp only [fleetB, allB_true h]; rfl
theorem fleetB_len {xs : List Appliance} (h : fleetB xs = true) : xs.length ≤ 12 := by simp [fleetB] at h; exact h.2
set_option maxHeartbeats 4000000 in
theorem apFleet_any (xs : List Appliance) (A : Option Addr) (n c : Nat) (w : World) (hn : (n : Int) ≤ 9223372036854775807) (hs : Sl w A n xs) (hv : ∀ x, x ∈ xs → x.Name.size ≤ maxLen) :
    Calls Try.prog 59 #[.slice A n c] w fun e w' => e = .returned (.bool (fleetB xs)) ∧ Below w.heap.size w w' := by
  have HV := Lib.hid hv
  clear hv
  have HL := Lib.hid hs.1
  go_enter Try.func59, Try.ntmps59
  go_wp2
  go_loopw [7] (fun i wr => ∃ k : Nat, k ≤ n ∧ i = .int .i64 k ∧ Below w.heap.size w wr ∧ Hid (∀ j, j < k → okAp xs j = true)) (fun i _ => n - (intOf i).toNat)
  case atStart => exact ⟨0, Nat.zero_le _, rfl, Below.refl _ _, fun j hj => absurd hj (by omega)⟩
  case round =>
    obtain ⟨k, hk, rfl, hb, hg⟩ := hrel
    by_cases hlt : k < n
    · have hs' := hs.below hb
      obtain ⟨b, o, rfl, hbz, c0, c1, c2, c3, c4⟩ := hs'.appliance hlt
      clear hs
      have hkx : Hid (k < xs.length) := by rw [Hid, HL.out]; exact hlt
      have hszh := Lib.hid (HV.out _ (nth_mem hkx.out))
      cases g0 : applB (nth xs k)
      · have G0 := Lib.hid g0
        clear hs'
        go_wp2_with fail
        refine wp_region_grow (by kernel_rfl) (by kernel_rfl) (fun X hX => ?_)
        have hbX : Below wr.heap.size wr X := by rw [hX]; exact bl_alloc (bl_refl _) _
        have r0 : X.cell? ⟨wr.heap.size, 0, none⟩ = some (.string (nth xs k).Name) := by rw [hX]; go_simp
        have r1 : X.cell? ⟨wr.heap.size, 1, none⟩ = some (.int .i64 (nth xs k).Kind) := by rw [hX]; go_simp
        have r2 : X.cell? ⟨wr.heap.size, 2, none⟩ = some (.int .i64 (nth xs k).Node) := by rw [hX]; go_simp
        have r3 : X.cell? ⟨wr.heap.size, 3, none⟩ = some (.int .i64 (nth xs k).Crew) := by rw [hX]; go_simp
        have r4 : X.cell? ⟨wr.heap.size, 4, none⟩ = some (.int .i64 (nth xs k).State) := by rw [hX]; go_simp
        have q0 := Gw.cell r0
        have q1 := Gw.cell r1
        have q2 := Gw.cell r2
        have q3 := Gw.cell r3
        have q4 := Gw.cell r4
        have HX := Lib.hid hX
        clear hX c0 c1 c2 c3 c4
        repeat (go_big_quiet_step ((go_at_call 84; exact Calls.grow_of (apGood_any (nth xs k) _ hszh.out))))
        refine wpGrow_nil (fun V hV => ?_)
        have hbV := bl_trans hb (bl_trans hbX hV)
        clear hV hbX r0 q0 r1 q1 r2 q2 r3 q3 r4 q4
        go_wp2
        go_ret
        exact ⟨ret_bool (fleetB_no hkx.out (okAp_0 G0.out)).symm, hbV⟩
      have G0 := Lib.hid g0
      by_cases hk0 : 0 < k
      · have h2 := hs'.flat2 (k := k - 1) (by omega)
        have d0 : wr.cell? ⟨b, o + (k - 1) * 5, none⟩ = some (.string (nth xs (k - 1)).Name) := h2 0 _ rfl
        clear h2 hs'
        have hkd : decide ((k : Int) > 0) = true := by simpa using hk0
        have i2 : 0 ≤ (k : Int) - 1 := by omega
        have i4 : (k : Int) - 1 < n := by omega
        have i1 : IntKind.i64.wrap ((k : Int) - 1) = (k : Int) - 1 := IntWalk.i64_in _ (by omega)
        have i3 : ((k : Int) - 1).toNat = k - 1 := by omega
        cases g1 : Op.bytesLess (nth xs (k - 1)).Name.toList (nth xs k).Name.toList
        · have G1 := Lib.hid g1
          go_wp2_with fail
          refine wp_region_grow (by kernel_rfl) (by kernel_rfl) (fun X hX => ?_)
          have hbX : Below wr.heap.size wr X := by rw [hX]; exact bl_alloc (bl_refl _) _
          have r0 : X.cell? ⟨wr.heap.size, 0, none⟩ = some (.string (nth xs k).Name) := by rw [hX]; go_simp
          have r1 : X.cell? ⟨wr.heap.size, 1, none⟩ = some (.int .i64 (nth xs k).Kind) := by rw [hX]; go_simp
          have r2 : X.cell? ⟨wr.heap.size, 2, none⟩ = some (.int .i64 (nth xs k).Node) := by rw [hX]; go_simp
          have r3 : X.cell? ⟨wr.heap.size, 3, none⟩ = some (.int .i64 (nth xs k).Crew) := by rw [hX]; go_simp
          have r4 : X.cell? ⟨wr.heap.size, 4, none⟩ = some (.int .i64 (nth xs k).State) := by rw [hX]; go_simp
          have p0 := cell_later hbX d0
          have q0 := Gw.cell r0
          have q1 := Gw.cell r1
          have q2 := Gw.cell r2
          have q3 := Gw.cell r3
          have q4 := Gw.cell r4
          have s0 := Gw.cell p0
          have HX := Lib.hid hX
          clear hX c0 c1 c2 c3 c4
          repeat (go_big_quiet_step ((go_at_call 84; exact Calls.grow_of (apGood_any (nth xs k) _ hszh.out))))
          refine wpGrow_nil (fun V hV => ?_)
          have hbV := bl_trans hb (bl_trans hbX hV)
          clear hV hbX r0 q0 r1 q1 r2 q2 r3 q3 r4 q4 p0 s0 d0 i1 i3
          go_wp2
          go_ret
          exact ⟨ret_bool (fleetB_no hkx.out (okAp_1 hk0 G1.out)).symm, hbV⟩
        · have G1 := Lib.hid g1
          go_wp2_with fail
          refine wp_region_grow (by kernel_rfl) (by kernel_rfl) (fun X hX => ?_)
          have hbX : Below wr.heap.size wr X := by rw [hX]; exact bl_alloc (bl_refl _) _
          have r0 : X.cell? ⟨wr.heap.size, 0, none⟩ = some (.string (nth xs k).Name) := by rw [hX]; go_simp
          have r1 : X.cell? ⟨wr.heap.size, 1, none⟩ = some (.int .i64 (nth xs k).Kind) := by rw [hX]; go_simp
          have r2 : X.cell? ⟨wr.heap.size, 2, none⟩ = some (.int .i64 (nth xs k).Node) := by rw [hX]; go_simp
          have r3 : X.cell? ⟨wr.heap.size, 3, none⟩ = some (.int .i64 (nth xs k).Crew) := by rw [hX]; go_simp
          have r4 : X.cell? ⟨wr.heap.size, 4, none⟩ = some (.int .i64 (nth xs k).State) := by rw [hX]; go_simp
          have p0 := cell_later hbX d0
          have q0 := Gw.cell r0
          have q1 := Gw.cell r1
          have q2 := Gw.cell r2
          have q3 := Gw.cell r3
          have q4 := Gw.cell r4
          have s0 := Gw.cell p0
          have HX := Lib.hid hX
          clear hX c0 c1 c2 c3 c4
          repeat (go_big_quiet_step ((go_at_call 84; exact Calls.grow_of (apGood_any (nth xs k) _ hszh.out))))
          refine wpGrow_nil (fun V hV => ?_)
          have hbV := bl_trans hb (bl_trans hbX hV)
          clear hV hbX r0 q0 r1 q1 r2 q2 r3 q3 r4 q4 p0 s0 d0 i1 i3
          go_wp2
          go_roundw
          case rel => exact ⟨k + 1, by omega, by go_num, hbV, upto_succ hg (okAp_y G0.out (.inr G1.out))⟩
          case measure => simp [intOf]; omega
      · have hkd : decide ((k : Int) > 0) = false := by simp; omega
        clear hs'
        go_wp2_with fail
        refine wp_region_grow (by kernel_rfl) (by kernel_rfl) (fun X hX => ?_)
        have hbX : Below wr.heap.size wr X := by rw [hX]; exact bl_alloc (bl_refl _) _
        have r0 : X.cell? ⟨wr.heap.size, 0, none⟩ = some (.string (nth xs k).Name) := by rw [hX]; go_simp
        have r1 : X.cell? ⟨wr.heap.size, 1, none⟩ = some (.int .i64 (nth xs k).Kind) := by rw [hX]; go_simp
        have r2 : X.cell? ⟨wr.heap.size, 2, none⟩ = some (.int .i64 (nth xs k).Node) := by rw [hX]; go_simp
        have r3 : X.cell? ⟨wr.heap.size, 3, none⟩ = some (.int .i64 (nth xs k).Crew) := by rw [hX]; go_simp
        have r4 : X.cell? ⟨wr.heap.size, 4, none⟩ = some (.int .i64 (nth xs k).State) := by rw [hX]; go_simp
        have q0 := Gw.cell r0
        have q1 := Gw.cell r1
        have q2 := Gw.cell r2
        have q3 := Gw.cell r3
        have q4 := Gw.cell r4
        have HX := Lib.hid hX
        clear hX c0 c1 c2 c3 c4
        repeat (go_big_quiet_step ((go_at_call 84; exact Calls.grow_of (apGood_any (nth xs k) _ hszh.out))))
        refine wpGrow_nil (fun V hV => ?_)
        have hbV := bl_trans hb (bl_trans hbX hV)
        clear hV hbX r0 q0 r1 q1 r2 q2 r3 q3 r4 q4
        go_wp2
        go_roundw
        case rel => exact ⟨k + 1, by omega, by go_num, hbV, upto_succ hg (okAp_y G0.out (.inl hk0))⟩
        case measure => simp [intOf]; omega
    · obtain rfl : k = n := by omega
      go_wp2
      go_ret
      refine ⟨ret_bool ?_, hb⟩
      rw [fleetB_all (by rw [HL.out]; exact hg.out), HL.out]
      simp
      try omega
set_option maxHeartbeats 4000000 in
theorem isFleet_any (xs : List Appliance) (A : Option Addr) (n c : Nat) (w : World) (hn : (n : Int) ≤ 9223372036854775807) (hs : Sl w A n xs) (hv : ∀ x, x ∈ xs → x.Name.size ≤ maxLen) :
    Calls Try.prog 63 #[.slice A n c] w fun e w' => e = .returned (.bool (fleetB xs)) ∧ Below w.heap.size w w' := by
  have HV := Lib.hid hv
  clear hv
  have HL := Lib.hid hs.1
  go_enter Try.func63, Try.ntmps63
  go_wp2
  go_loopw [7] (fun i wr => ∃ k : Nat, k ≤ n ∧ i = .int .i64 k ∧ Below w.heap.size w wr ∧ Hid (∀ j, j < k → okAp xs j = true)) (fun i _ => n - (intOf i).toNat)
  case atStart => exact ⟨0, Nat.zero_le _, rfl, Below.refl _ _, fun j hj => absurd hj (by omega)⟩
  case round =>
    obtain ⟨k, hk, rfl, hb, hg⟩ := hrel
    by_cases hlt : k < n
    · have hs' := hs.below hb
      obtain ⟨b, o, rfl, hbz, c0, c1, c2, c3, c4⟩ := hs'.appliance hlt
      clear hs
      have hkx : Hid (k < xs.length) := by rw [Hid, HL.out]; exact hlt
      have hszh := Lib.hid (HV.out _ (nth_mem hkx.out))
      cases g0 : applB (nth xs k)
      · have G0 := Lib.hid g0
        clear hs'
        go_wp2_with fail
        refine wp_region_grow (by kernel_rfl) (by kernel_rfl) (fun X hX => ?_)
        have hbX : Below wr.heap.size wr X := by rw [hX]; exact bl_alloc (bl_refl _) _
        have r0 : X.cell? ⟨wr.heap.size, 0, none⟩ = some (.string (nth xs k).Name) := by rw [hX]; go_simp
        have r1 : X.cell? ⟨wr.heap.size, 1, none⟩ = some (.int .i64 (nth xs k).Kind) := by rw [hX]; go_simp
        have r2 : X.cell? ⟨wr.heap.size, 2, none⟩ = some (.int .i64 (nth xs k).Node) := by rw [hX]; go_simp
        have r3 : X.cell? ⟨wr.heap.size, 3, none⟩ = some (.int .i64 (nth xs k).Crew) := by rw [hX]; go_simp
        have r4 : X.cell? ⟨wr.heap.size, 4, none⟩ = some (.int .i64 (nth xs k).State) := by rw [hX]; go_simp
        have q0 := Gw.cell r0
        have q1 := Gw.cell r1
        have q2 := Gw.cell r2
        have q3 := Gw.cell r3
        have q4 := Gw.cell r4
        have HX := Lib.hid hX
        clear hX c0 c1 c2 c3 c4
        repeat (go_big_quiet_step ((go_at_call 85; exact Calls.grow_of (isAppliance_any (nth xs k) _ hszh.out))))
        refine wpGrow_nil (fun V hV => ?_)
        have hbV := bl_trans hb (bl_trans hbX hV)
        clear hV hbX r0 q0 r1 q1 r2 q2 r3 q3 r4 q4
        go_wp2
        go_ret
        exact ⟨ret_bool (fleetB_no hkx.out (okAp_0 G0.out)).symm, hbV⟩
      have G0 := Lib.hid g0
      by_cases hk0 : 0 < k
      · have h2 := hs'.flat2 (k := k - 1) (by omega)
        have d0 : wr.cell? ⟨b, o + (k - 1) * 5, none⟩ = some (.string (nth xs (k - 1)).Name) := h2 0 _ rfl
        clear h2 hs'
        have hkd : decide ((k : Int) > 0) = true := by simpa using hk0
        have i2 : 0 ≤ (k : Int) - 1 := by omega
        have i4 : (k : Int) - 1 < n := by omega
        have i1 : IntKind.i64.wrap ((k : Int) - 1) = (k : Int) - 1 := IntWalk.i64_in _ (by omega)
        have i3 : ((k : Int) - 1).toNat = k - 1 := by omega
        cases g1 : Op.bytesLess (nth xs (k - 1)).Name.toList (nth xs k).Name.toList
        · have G1 := Lib.hid g1
          go_wp2_with fail
          refine wp_region_grow (by kernel_rfl) (by kernel_rfl) (fun X hX => ?_)
          have hbX : Below wr.heap.size wr X := by rw [hX]; exact bl_alloc (bl_refl _) _
          have r0 : X.cell? ⟨wr.heap.size, 0, none⟩ = some (.string (nth xs k).Name) := by rw [hX]; go_simp
          have r1 : X.cell? ⟨wr.heap.size, 1, none⟩ = some (.int .i64 (nth xs k).Kind) := by rw [hX]; go_simp
          have r2 : X.cell? ⟨wr.heap.size, 2, none⟩ = some (.int .i64 (nth xs k).Node) := by rw [hX]; go_simp
          have r3 : X.cell? ⟨wr.heap.size, 3, none⟩ = some (.int .i64 (nth xs k).Crew) := by rw [hX]; go_simp
          have r4 : X.cell? ⟨wr.heap.size, 4, none⟩ = some (.int .i64 (nth xs k).State) := by rw [hX]; go_simp
          have p0 := cell_later hbX d0
          have q0 := Gw.cell r0
          have q1 := Gw.cell r1
          have q2 := Gw.cell r2
          have q3 := Gw.cell r3
          have q4 := Gw.cell r4
          have s0 := Gw.cell p0
          have HX := Lib.hid hX
          clear hX c0 c1 c2 c3 c4
          repeat (go_big_quiet_step ((go_at_call 85; exact Calls.grow_of (isAppliance_any (nth xs k) _ hszh.out))))
          refine wpGrow_nil (fun V hV => ?_)
          have hbV := bl_trans hb (bl_trans hbX hV)
          clear hV hbX r0 q0 r1 q1 r2 q2 r3 q3 r4 q4 p0 s0 d0 i1 i3
          go_wp2
          go_ret
          exact ⟨ret_bool (fleetB_no hkx.out (okAp_1 hk0 G1.out)).symm, hbV⟩
        · have G1 := Lib.hid g1
          go_wp2_with fail
          refine wp_region_grow (by kernel_rfl) (by kernel_rfl) (fun X hX => ?_)
          have hbX : Below wr.heap.size wr X := by rw [hX]; exact bl_alloc (bl_refl _) _
          have r0 : X.cell? ⟨wr.heap.size, 0, none⟩ = some (.string (nth xs k).Name) := by rw [hX]; go_simp
          have r1 : X.cell? ⟨wr.heap.size, 1, none⟩ = some (.int .i64 (nth xs k).Kind) := by rw [hX]; go_simp
          have r2 : X.cell? ⟨wr.heap.size, 2, none⟩ = some (.int .i64 (nth xs k).Node) := by rw [hX]; go_simp
          have r3 : X.cell? ⟨wr.heap.size, 3, none⟩ = some (.int .i64 (nth xs k).Crew) := by rw [hX]; go_simp
          have r4 : X.cell? ⟨wr.heap.size, 4, none⟩ = some (.int .i64 (nth xs k).State) := by rw [hX]; go_simp
          have p0 := cell_later hbX d0
          have q0 := Gw.cell r0
          have q1 := Gw.cell r1
          have q2 := Gw.cell r2
          have q3 := Gw.cell r3
          have q4 := Gw.cell r4
          have s0 := Gw.cell p0
          have HX := Lib.hid hX
          clear hX c0 c1 c2 c3 c4
          repeat (go_big_quiet_step ((go_at_call 85; exact Calls.grow_of (isAppliance_any (nth xs k) _ hszh.out))))
          refine wpGrow_nil (fun V hV => ?_)
          have hbV := bl_trans hb (bl_trans hbX hV)
          clear hV hbX r0 q0 r1 q1 r2 q2 r3 q3 r4 q4 p0 s0 d0 i1 i3
          go_wp2
          go_roundw
          case rel => exact ⟨k + 1, by omega, by go_num, hbV, upto_succ hg (okAp_y G0.out (.inr G1.out))⟩
          case measure => simp [intOf]; omega
      · have hkd : decide ((k : Int) > 0) = false := by simp; omega
        clear hs'
        go_wp2_with fail
        refine wp_region_grow (by kernel_rfl) (by kernel_rfl) (fun X hX => ?_)
        have hbX : Below wr.heap.size wr X := by rw [hX]; exact bl_alloc (bl_refl _) _
        have r0 : X.cell? ⟨wr.heap.size, 0, none⟩ = some (.string (nth xs k).Name) := by rw [hX]; go_simp
        have r1 : X.cell? ⟨wr.heap.size, 1, none⟩ = some (.int .i64 (nth xs k).Kind) := by rw [hX]; go_simp
        have r2 : X.cell? ⟨wr.heap.size, 2, none⟩ = some (.int .i64 (nth xs k).Node) := by rw [hX]; go_simp
        have r3 : X.cell? ⟨wr.heap.size, 3, none⟩ = some (.int .i64 (nth xs k).Crew) := by rw [hX]; go_simp
        have r4 : X.cell? ⟨wr.heap.size, 4, none⟩ = some (.int .i64 (nth xs k).State) := by rw [hX]; go_simp
        have q0 := Gw.cell r0
        have q1 := Gw.cell r1
        have q2 := Gw.cell r2
        have q3 := Gw.cell r3
        have q4 := Gw.cell r4
        have HX := Lib.hid hX
        clear hX c0 c1 c2 c3 c4
        repeat (go_big_quiet_step ((go_at_call 85; exact Calls.grow_of (isAppliance_any (nth xs k) _ hszh.out))))
        refine wpGrow_nil (fun V hV => ?_)
        have hbV := bl_trans hb (bl_trans hbX hV)
        clear hV hbX r0 q0 r1 q1 r2 q2 r3 q3 r4 q4
        go_wp2
        go_roundw
        case rel => exact ⟨k + 1, by omega, by go_num, hbV, upto_succ hg (okAp_y G0.out (.inl hk0))⟩
        case measure => simp [intOf]; omega
    · obtain rfl : k = n := by omega
      go_wp2
      go_ret
      refine ⟨ret_bool ?_, hb⟩
      rw [fleetB_all (by rw [HL.out]; exact hg.out), HL.out]
      simp
      try omega

end Go.Proofs.Ytkgjbijkjlmomaa
