/-
  Signals: both tests of a list answer sigsB. No conditions.
-/
import Derived.Test.YtjdaikpkcafcdaaSig
namespace Go.Proofs.Ytjdaikpkcafcdaa
open Go.RowKit

def okSig (xs : List Sig) (k : Nat) : Bool :=
  inB (nth xs k).s 0 86399 && inB (nth xs k).n 1 999 && !(decide (0 < k) && decide ((nth xs k).s < (nth xs (k - 1)).s))
def sigsB (xs : List Sig) : Bool := allB xs.length (okSig xs) && decide (xs.length ≤ 60)
theorem okSig_0 {xs : List Sig} {k : Nat} (h : inB (nth xs k).s 0 86399 = false) : okSig xs k = false := by simp [okSig, h]
theorem okSig_1 {xs : List Sig} {k : Nat} (h : inB (nth xs k).n 1 999 = false) : okSig xs k = false := by simp [okSig, h]
theorem okSig_o {xs : List Sig} {k : Nat} (h : 0 < k) (h' : (nth xs k).s < (nth xs (k - 1)).s) : okSig xs k = false := by simp only [okSig, decide_eq_true h, decide_eq_true h']; simp
theorem okSig_y {xs : List Sig} {k : Nat} (h0 : inB (nth xs k).s 0 86399 = true) (h1 : inB (nth xs k).n 1 999 = true) (h : ¬ 0 < k ∨ ¬ (nth xs k).s < (nth xs (k - 1)).s) : okSig xs k = true := by
  rcases h with h | h <;> simp only [okSig, h0, h1, decide_eq_false h] <;> simp
theorem sigsB_no {xs : List Sig} {k : Nat} (hk : k < xs.length) (h : okSig xs k = false) : sigsB xs = false := by simp [sigsB, allB_false hk h]
theorem sigsB_all {xs : List Sig} (h : ∀ j, j < xs.length → okSig xs j = true) : sigsB xs = decide (xs.length ≤ 60) := by simp [sigsB, allB_true h]
theorem sigsB_len {xs : List Sig} (h : sigsB xs = true) : xs.length ≤ 60 := by simp [sigsB] at h; exact h.2
theorem sigsB_at {xs : List Sig} (h : sigsB xs = true) {k : Nat} (hk : k < xs.length) : okSig xs k = true := by simp only [sigsB, Bool.and_eq_true] at h; exact allB_iff.1 h.1 k hk
set_option maxHeartbeats 1000000 in
theorem alSignals_any (xs : List Sig) (A : Option Addr) (n c : Nat) (w : World) (hn : (n : Int) ≤ 9223372036854775807) (hs : Sl w A n xs) :
    Calls Try.prog 34 #[.slice A n c] w fun e w' => e = .returned (.bool (sigsB xs)) ∧ Below w.heap.size w w' := by
  have HL := Lib.hid hs.1
  go_enter Try.func34, Try.ntmps34
  go_wp2
  go_loopw [7] (fun i wr => ∃ k : Nat, k ≤ n ∧ i = .int .i64 k ∧ Below w.heap.size w wr ∧ Hid (∀ j, j < k → okSig xs j = true)) (fun i _ => n - (intOf i).toNat)
  case atStart => exact ⟨0, Nat.zero_le _, rfl, Below.refl _ _, fun j hj => absurd hj (by omega)⟩
  case round =>
    obtain ⟨k, hk, rfl, hb, hg⟩ := hrel
    by_cases hlt : k < n
    · have hs' := hs.below hb
      obtain ⟨b, o, rfl, hbz, c0, c1⟩ := hs'.sig hlt
      clear hs
      by_cases g0 : inB (nth xs k).s 0 86399 = false
      · clear hs'
        go_wp2_with fail
        go_quiet ((first | (go_at_call 52; exact Calls.quiet_of_same (l1In_any _ _ _ _))))
        go_wp2
        go_ret
        exact ⟨ret_bool (sigsB_no (k := k) (by rw [HL.out]; exact hlt) (okSig_0 g0)).symm, bl_drewN (bl_alloc hb _) _⟩
      have g0 : inB (nth xs k).s 0 86399 = true := by simpa using g0
      by_cases g1 : inB (nth xs k).n 1 999 = false
      · clear hs'
        go_wp2_with fail
        go_quiet ((first | (go_at_call 52; exact Calls.quiet_of_same (l1In_any _ _ _ _))))
        go_wp2
        go_ret
        exact ⟨ret_bool (sigsB_no (k := k) (by rw [HL.out]; exact hlt) (okSig_1 g1)).symm, bl_drewN (bl_alloc hb _) _⟩
      have g1 : inB (nth xs k).n 1 999 = true := by simpa using g1
      by_cases hk0 : 0 < k
      · have cp : wr.cell? ⟨b, o + (k - 1) * 2, none⟩ = some (.int .i64 (nth xs (k - 1)).s) := hs'.flat2 (k := k - 1) (by omega) 0 _ rfl
        clear hs'
        have i2 : 0 ≤ (k : Int) - 1 := by omega
        have i4 : (k : Int) - 1 < n := by omega
        have i1 : IntKind.i64.wrap ((k : Int) - 1) = (k : Int) - 1 := IntWalk.i64_in _ (by omega)
        have i3 : ((k : Int) - 1).toNat = k - 1 := by omega
        by_cases go : (nth xs k).s < (nth xs (k - 1)).s
        · go_wp2_with fail
          go_quiet ((first | (go_at_call 52; exact Calls.quiet_of_same (l1In_any _ _ _ _))))
          clear i1 i3
          go_wp2
          go_ret
          exact ⟨ret_bool (sigsB_no (k := k) (by rw [HL.out]; exact hlt) (okSig_o hk0 go)).symm, bl_drewN (bl_alloc hb _) _⟩
        · go_wp2_with fail
          go_quiet ((first | (go_at_call 52; exact Calls.quiet_of_same (l1In_any _ _ _ _))))
          clear i1 i3
          go_wp2
          go_roundw
          case rel => exact ⟨k + 1, by omega, by go_num, bl_drewN (bl_alloc hb _) _, upto_succ hg (okSig_y g0 g1 (.inr (by omega)))⟩
          case measure => simp [intOf]; omega
      · have hkd : decide (0 < k) = false := by simpa using hk0
        clear hs'
        go_wp2_with fail
        go_quiet ((first | (go_at_call 52; exact Calls.quiet_of_same (l1In_any _ _ _ _))))
        go_wp2
        go_roundw
        case rel => exact ⟨k + 1, by omega, by go_num, bl_drewN (bl_alloc hb _) _, upto_succ hg (okSig_y g0 g1 (.inl hk0))⟩
        case measure => simp [intOf]; omega
    · obtain rfl : k = n := by omega
      go_wp2
      go_ret
      refine ⟨ret_bool ?_, hb⟩
      rw [sigsB_all (by rw [HL.out]; exact hg), HL.out]
      simp
      try omega
set_option maxHeartbeats 1000000 in
theorem areSignals_any (xs : List Sig) (A : Option Addr) (n c : Nat) (w : World) (hn : (n : Int) ≤ 9223372036854775807) (hs : Sl w A n xs) :
    Calls Try.prog 36 #[.slice A n c] w fun e w' => e = .returned (.bool (sigsB xs)) ∧ Below w.heap.size w w' := by
  have HL := Lib.hid hs.1
  go_enter Try.func36, Try.ntmps36
  go_wp2
  go_loopw [7] (fun i wr => ∃ k : Nat, k ≤ n ∧ i = .int .i64 k ∧ Below w.heap.size w wr ∧ Hid (∀ j, j < k → okSig xs j = true)) (fun i _ => n - (intOf i).toNat)
  case atStart => exact ⟨0, Nat.zero_le _, rfl, Below.refl _ _, fun j hj => absurd hj (by omega)⟩
  case round =>
    obtain ⟨k, hk, rfl, hb, hg⟩ := hrel
    by_cases hlt : k < n
    · have hs' := hs.below hb
      obtain ⟨b, o, rfl, hbz, c0, c1⟩ := hs'.sig hlt
      clear hs
      by_cases g0 : inB (nth xs k).s 0 86399 = false
      · clear hs'
        go_wp2_with fail
        go_quiet ((first | (go_at_call 50; exact Calls.quiet_of_same (inside_any _ _ _ _))))
        go_wp2
        go_ret
        exact ⟨ret_bool (sigsB_no (k := k) (by rw [HL.out]; exact hlt) (okSig_0 g0)).symm, bl_drewN (bl_alloc hb _) _⟩
      have g0 : inB (nth xs k).s 0 86399 = true := by simpa using g0
      by_cases g1 : inB (nth xs k).n 1 999 = false
      · clear hs'
        go_wp2_with fail
        go_quiet ((first | (go_at_call 50; exact Calls.quiet_of_same (inside_any _ _ _ _))))
        go_wp2
        go_ret
        exact ⟨ret_bool (sigsB_no (k := k) (by rw [HL.out]; exact hlt) (okSig_1 g1)).symm, bl_drewN (bl_alloc hb _) _⟩
      have g1 : inB (nth xs k).n 1 999 = true := by simpa using g1
      by_cases hk0 : 0 < k
      · have cp : wr.cell? ⟨b, o + (k - 1) * 2, none⟩ = some (.int .i64 (nth xs (k - 1)).s) := hs'.flat2 (k := k - 1) (by omega) 0 _ rfl
        clear hs'
        have i2 : 0 ≤ (k : Int) - 1 := by omega
        have i4 : (k : Int) - 1 < n := by omega
        have i1 : IntKind.i64.wrap ((k : Int) - 1) = (k : Int) - 1 := IntWalk.i64_in _ (by omega)
        have i3 : ((k : Int) - 1).toNat = k - 1 := by omega
        by_cases go : (nth xs k).s < (nth xs (k - 1)).s
        · go_wp2_with fail
          go_quiet ((first | (go_at_call 50; exact Calls.quiet_of_same (inside_any _ _ _ _))))
          clear i1 i3
          go_wp2
          go_ret
          exact ⟨ret_bool (sigsB_no (k := k) (by rw [HL.out]; exact hlt) (okSig_o hk0 go)).symm, bl_drewN (bl_alloc hb _) _⟩
        · go_wp2_with fail
          go_quiet ((first | (go_at_call 50; exact Calls.quiet_of_same (inside_any _ _ _ _))))
          clear i1 i3
          go_wp2
          go_roundw
          case rel => exact ⟨k + 1, by omega, by go_num, bl_drewN (bl_alloc hb _) _, upto_succ hg (okSig_y g0 g1 (.inr (by omega)))⟩
          case measure => simp [intOf]; omega
      · have hkd : decide (0 < k) = false := by simpa using hk0
        clear hs'
        go_wp2_with fail
        go_quiet ((first | (go_at_call 50; exact Calls.quiet_of_same (inside_any _ _ _ _))))
        go_wp2
        go_roundw
        case rel => exact ⟨k + 1, by omega, by go_num, bl_drewN (bl_alloc hb _) _, upto_succ hg (okSig_y g0 g1 (.inl hk0))⟩
        case measure => simp [intOf]; omega
    · obtain rfl : k = n := by omega
      go_wp2
      go_ret
      refine ⟨ret_bool ?_, hb⟩
      rw [sigsB_all (by rw [HL.out]; exact hg), HL.out]
      simp
      try omega

end Go.Proofs.Ytjdaikpkcafcdaa
