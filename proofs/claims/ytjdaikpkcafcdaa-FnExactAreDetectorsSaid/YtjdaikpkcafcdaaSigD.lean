/-
  Signals: the program's test of a list; the law on it. No conditions.
-/
import Derived.Test.YtjdaikpkcafcdaaSigC
namespace Go.Proofs.Ytjdaikpkcafcdaa
open Go.RowKit

set_option maxHeartbeats 1000000 in
theorem areSignals_any (xs : List Sig) (A : Option Addr) (n c : Nat) (w : World) (hn : (n : Int) ≤ 9223372036854775807) (hs : Sl w A n xs) :
    Calls Try.prog 36 #[.slice A n c] w fun e w' => e = .returned (.bool (sigsB xs)) ∧ Below w.heap.size w w' := by
  have HL := Lib.hid hs.1
  go_enter Try.func36, Try.ntmps36
  go_wp2
  go_loopw [7] (fun i wr => ∃ k : Nat, k ≤ n ∧ i = .int .i64 k ∧ Below w.heap.size w wr ∧ Hid (∀ j, j < k → okSig xs j = true)) (fun i _ => n - (intOf i).toNat)
  case atStart => exact ⟨0, Nat.zero_le _, rfl, Below.refl _ _, fun j hj => absurd hj (by omega)⟩
  case round =>
    obtain ⟨k, hk, rfl, hb, hg⟩ := hrel
    by_cases hlt : k < n
    · have hs' := hs.below hb
      obtain ⟨b, o, rfl, c0, c1⟩ := hs'.sig hlt
      clear hs
      by_cases g1 : inB (nth xs k).s 0 86399 = false
      · clear hs'
        go_wp2_with fail
        go_quiet ((go_at_call 50; exact Calls.quiet_of_same (inside_any _ _ _ _)))
        go_wp2
        go_ret
        exact ⟨ret_bool (sigsB_no (k := k) (by rw [HL.out]; exact hlt) (okSig1 g1)).symm, bl_drewN (bl_alloc hb _) _⟩
      have g1 : inB (nth xs k).s 0 86399 = true := by simpa using g1
      by_cases g2 : inB (nth xs k).n 1 999 = false
      · clear hs'
        go_wp2_with fail
        go_quiet ((go_at_call 50; exact Calls.quiet_of_same (inside_any _ _ _ _)))
        go_wp2
        go_ret
        exact ⟨ret_bool (sigsB_no (k := k) (by rw [HL.out]; exact hlt) (okSig2 g2)).symm, bl_drewN (bl_alloc hb _) _⟩
      have g2 : inB (nth xs k).n 1 999 = true := by simpa using g2
      by_cases hk0 : 0 < k
      · have cp : wr.cell? ⟨b, o + (k - 1) * 2, none⟩ = some (.int .i64 (nth xs (k - 1)).s) := hs'.flat2 (k := k - 1) (by omega) 0 _ rfl
        clear hs'
        have hbz : b < wr.heap.size := World.block_lt_of_cell? wr _ c0
        have i2 : 0 ≤ (k : Int) - 1 := by omega
        have i4 : (k : Int) - 1 < n := by omega
        have i1 : IntKind.i64.wrap ((k : Int) - 1) = (k : Int) - 1 := IntWalk.i64_in _ (by omega)
        have i3 : ((k : Int) - 1).toNat = k - 1 := by omega
        by_cases g3 : (nth xs k).s < (nth xs (k - 1)).s
        · go_wp2_with fail
          go_quiet ((go_at_call 50; exact Calls.quiet_of_same (inside_any _ _ _ _)))
          go_wp2
          go_ret
          exact ⟨ret_bool (sigsB_no (k := k) (by rw [HL.out]; exact hlt) (okSig3 hk0 g3)).symm, bl_drewN (bl_alloc hb _) _⟩
        · go_wp2_with fail
          go_quiet ((go_at_call 50; exact Calls.quiet_of_same (inside_any _ _ _ _)))
          clear i1 i3
          go_wp2
          go_roundw
          case rel => exact ⟨k + 1, by omega, by go_num, bl_drewN (bl_alloc hb _) _, upto_succ hg (okSig4 g1 g2 (.inr (by omega)))⟩
          case measure => simp [intOf]; omega
      · have hkd : decide (0 < k) = false := by simpa using hk0
        clear hs'
        go_wp2_with fail
        go_quiet ((go_at_call 50; exact Calls.quiet_of_same (inside_any _ _ _ _)))
        go_wp2
        go_roundw
        case rel => exact ⟨k + 1, by omega, by go_num, bl_drewN (bl_alloc hb _) _, upto_succ hg (okSig4 g1 g2 (.inl hk0))⟩
        case measure => simp [intOf]; omega
    · obtain rfl : k = n := by omega
      go_wp2
      go_ret
      refine ⟨ret_bool ?_, hb⟩
      rw [sigsB_all (by rw [HL.out]; exact hg), HL.out]
      simp
      omega

theorem specAreSignals_any (xs : List Sig) (A : Option Addr) (n c : Nat) (w : World) (hn : (n : Int) ≤ 9223372036854775807) (hs : Sl w A n xs) :
    Calls Try.prog 10 #[.slice A n c] w fun e w' => e = .returned (.bool (sigsB xs)) ∧ Below w.heap.size w w' := by
  go_enter Try.func10, Try.ntmps10
  go_wp2_with (go_at_call 34; refine (alSignals_any xs _ _ _ _ hn hs).mono ?_; rintro e V ⟨rfl, hV⟩)
  go_ret
  exact ⟨rfl, hV⟩
theorem implAreSignals_any (xs : List Sig) (A : Option Addr) (n c : Nat) (w : World) (hn : (n : Int) ≤ 9223372036854775807) (hs : Sl w A n xs) :
    Calls Try.prog 12 #[.slice A n c] w fun e w' => e = .returned (.bool (sigsB xs)) ∧ Below w.heap.size w w' := by
  go_enter Try.func12, Try.ntmps12
  go_wp2_with (go_at_call 36; refine (areSignals_any xs _ _ _ _ hn hs).mono ?_; rintro e V ⟨rfl, hV⟩)
  go_ret
  exact ⟨rfl, hV⟩

end Go.Proofs.Ytjdaikpkcafcdaa
