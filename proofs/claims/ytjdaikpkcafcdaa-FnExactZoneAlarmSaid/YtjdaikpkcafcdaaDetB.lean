/-
  Detectors: the program's test of a list answers detsB. No conditions.
-/
import Derived.Test.YtjdaikpkcafcdaaDetA
namespace Go.Proofs.Ytjdaikpkcafcdaa
open Go.RowKit

set_option maxHeartbeats 1000000 in
theorem areDetectors_any (xs : List Det) (A : Option Addr) (n c : Nat) (w : World) (hn : (n : Int) ≤ 9223372036854775807) (hs : Sl w A n xs) :
    Calls Try.prog 40 #[.slice A n c] w fun e w' => e = .returned (.bool (detsB xs)) ∧ Below w.heap.size w w' := by
  have HL := Lib.hid hs.1
  go_enter Try.func40, Try.ntmps40
  go_wp2
  go_loopw [7] (fun i wr => ∃ k : Nat, k ≤ n ∧ i = .int .i64 k ∧ Below w.heap.size w wr ∧ Hid (∀ j, j < k → okDet xs j = true)) (fun i _ => n - (intOf i).toNat)
  case atStart => exact ⟨0, Nat.zero_le _, rfl, Below.refl _ _, fun j hj => absurd hj (by omega)⟩
  case round =>
    obtain ⟨k, hk, rfl, hb, hg⟩ := hrel
    by_cases hlt : k < n
    · have hs' := hs.below hb
      obtain ⟨b, o, rfl, hbz, c0, c1, c2, c3⟩ := hs'.det hlt
      clear hs
      by_cases g0 : inB (nth xs k).Number 1 999 = false
      · clear hs'
        go_wp2_with fail
        go_quiet ((first | (go_at_call 50; exact Calls.quiet_of_same (inside_any _ _ _ _))))
        go_wp2
        go_ret
        exact ⟨ret_bool (detsB_no (k := k) (by rw [HL.out]; exact hlt) (okDet_0 g0)).symm, bl_drewN (bl_alloc hb _) _⟩
      have g0 : inB (nth xs k).Number 1 999 = true := by simpa using g0
      by_cases g1 : inB (nth xs k).Zone 1 9 = false
      · clear hs'
        go_wp2_with fail
        go_quiet ((first | (go_at_call 50; exact Calls.quiet_of_same (inside_any _ _ _ _))))
        go_wp2
        go_ret
        exact ⟨ret_bool (detsB_no (k := k) (by rw [HL.out]; exact hlt) (okDet_1 g1)).symm, bl_drewN (bl_alloc hb _) _⟩
      have g1 : inB (nth xs k).Zone 1 9 = true := by simpa using g1
      by_cases g2 : inB (nth xs k).Kind 0 2 = false
      · clear hs'
        go_wp2_with fail
        go_quiet ((first | (go_at_call 50; exact Calls.quiet_of_same (inside_any _ _ _ _))))
        go_wp2
        go_ret
        exact ⟨ret_bool (detsB_no (k := k) (by rw [HL.out]; exact hlt) (okDet_2 g2)).symm, bl_drewN (bl_alloc hb _) _⟩
      have g2 : inB (nth xs k).Kind 0 2 = true := by simpa using g2
      by_cases hk0 : 0 < k
      · have cp : wr.cell? ⟨b, o + (k - 1) * 4, none⟩ = some (.int .i64 (nth xs (k - 1)).Number) := hs'.flat2 (k := k - 1) (by omega) 0 _ rfl
        clear hs'
        have i2 : 0 ≤ (k : Int) - 1 := by omega
        have i4 : (k : Int) - 1 < n := by omega
        have i1 : IntKind.i64.wrap ((k : Int) - 1) = (k : Int) - 1 := IntWalk.i64_in _ (by omega)
        have i3 : ((k : Int) - 1).toNat = k - 1 := by omega
        by_cases go : (nth xs k).Number ≤ (nth xs (k - 1)).Number
        · go_wp2_with fail
          go_quiet ((first | (go_at_call 50; exact Calls.quiet_of_same (inside_any _ _ _ _))))
          clear i1 i3
          go_wp2
          go_ret
          exact ⟨ret_bool (detsB_no (k := k) (by rw [HL.out]; exact hlt) (okDet_o hk0 go)).symm, bl_drewN (bl_alloc hb _) _⟩
        · go_wp2_with fail
          go_quiet ((first | (go_at_call 50; exact Calls.quiet_of_same (inside_any _ _ _ _))))
          clear i1 i3
          go_wp2
          go_roundw
          case rel => exact ⟨k + 1, by omega, by go_num, bl_drewN (bl_alloc hb _) _, upto_succ hg (okDet_y g0 g1 g2 (.inr (by omega)))⟩
          case measure => simp [intOf]; omega
      · have hkd : decide (0 < k) = false := by simpa using hk0
        clear hs'
        go_wp2_with fail
        go_quiet ((first | (go_at_call 50; exact Calls.quiet_of_same (inside_any _ _ _ _))))
        go_wp2
        go_roundw
        case rel => exact ⟨k + 1, by omega, by go_num, bl_drewN (bl_alloc hb _) _, upto_succ hg (okDet_y g0 g1 g2 (.inl hk0))⟩
        case measure => simp [intOf]; omega
    · obtain rfl : k = n := by omega
      go_wp2
      go_ret
      refine ⟨ret_bool ?_, hb⟩
      rw [detsB_all (by rw [HL.out]; exact hg), HL.out]
      simp
      try omega
theorem specAreDetectors_any (xs : List Det) (A : Option Addr) (n c : Nat) (w : World) (hn : (n : Int) ≤ 9223372036854775807) (hs : Sl w A n xs) :
    Calls Try.prog 15 #[.slice A n c] w fun e w' => e = .returned (.bool (detsB xs)) ∧ Below w.heap.size w w' := by
  go_enter Try.func15, Try.ntmps15
  go_wp2_with (go_at_call 38; refine (alGood_any xs _ _ _ _ hn hs).mono ?_; rintro e V ⟨rfl, hV⟩)
  go_ret
  exact ⟨rfl, hV⟩
theorem implAreDetectors_any (xs : List Det) (A : Option Addr) (n c : Nat) (w : World) (hn : (n : Int) ≤ 9223372036854775807) (hs : Sl w A n xs) :
    Calls Try.prog 17 #[.slice A n c] w fun e w' => e = .returned (.bool (detsB xs)) ∧ Below w.heap.size w w' := by
  go_enter Try.func17, Try.ntmps17
  go_wp2_with (go_at_call 40; refine (areDetectors_any xs _ _ _ _ hn hs).mono ?_; rintro e V ⟨rfl, hV⟩)
  go_ret
  exact ⟨rfl, hV⟩

end Go.Proofs.Ytjdaikpkcafcdaa
