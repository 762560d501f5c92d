/-
  Detectors: the tests of a list answer detsB. No conditions.
-/
import Derived.Test.YtjdaikpkcafcdaaDet
namespace Go.Proofs.Ytjdaikpkcafcdaa
open Go.RowKit

def okDet (xs : List Det) (k : Nat) : Bool :=
  inB (nth xs k).Number 1 999 && inB (nth xs k).Zone 1 9 && inB (nth xs k).Kind 0 2 && !(decide (0 < k) && decide ((nth xs k).Number ≤ (nth xs (k - 1)).Number))
def detsB (xs : List Det) : Bool := allB xs.length (okDet xs) && decide (xs.length ≤ 20)
theorem okDet_0 {xs : List Det} {k : Nat} (h : inB (nth xs k).Number 1 999 = false) : okDet xs k = false := by simp [okDet, h]
theorem okDet_1 {xs : List Det} {k : Nat} (h : inB (nth xs k).Zone 1 9 = false) : okDet xs k = false := by simp [okDet, h]
theorem okDet_2 {xs : List Det} {k : Nat} (h : inB (nth xs k).Kind 0 2 = false) : okDet xs k = false := by simp [okDet, h]
theorem okDet_o {xs : List Det} {k : Nat} (h : 0 < k) (h' : (nth xs k).Number ≤ (nth xs (k - 1)).Number) : okDet xs k = false := by simp only [okDet, decide_eq_true h, decide_eq_true h']; simp
theorem okDet_y {xs : List Det} {k : Nat} (h0 : inB (nth xs k).Number 1 999 = true) (h1 : inB (nth xs k).Zone 1 9 = true) (h2 : inB (nth xs k).Kind 0 2 = true) (h : ¬ 0 < k ∨ ¬ (nth xs k).Number ≤ (nth xs (k - 1)).Number) : okDet xs k = true := by
  rcases h with h | h <;> simp only [okDet, h0, h1, h2, decide_eq_false h] <;> simp
theorem detsB_no {xs : List Det} {k : Nat} (hk : k < xs.length) (h : okDet xs k = false) : detsB xs = false := by simp [detsB, allB_false hk h]
theorem detsB_all {xs : List Det} (h : ∀ j, j < xs.length → okDet xs j = true) : detsB xs = decide (xs.length ≤ 20) := by simp [detsB, allB_true h]
theorem detsB_len {xs : List Det} (h : detsB xs = true) : xs.length ≤ 20 := by simp [detsB] at h; exact h.2
theorem detsB_at {xs : List Det} (h : detsB xs = true) {k : Nat} (hk : k < xs.length) : okDet xs k = true := by simp only [detsB, Bool.and_eq_true] at h; exact allB_iff.1 h.1 k hk
theorem alZone_any (n : Int) (w : World) :
    Calls Try.prog 48 #[.int .i64 n] w fun e w' => e = .returned (.bool (inB n 1 9)) ∧ w' = w := by
  go_enter Try.func48, Try.ntmps48
  go_wp2_with (go_at_call 52; refine (l1In_any _ _ _ _).mono ?_; rintro e V ⟨rfl, rfl⟩)
  go_ret
  exact ⟨rfl, rfl⟩
set_option maxHeartbeats 1000000 in
theorem alGood_any (xs : List Det) (A : Option Addr) (n c : Nat) (w : World) (hn : (n : Int) ≤ 9223372036854775807) (hs : Sl w A n xs) :
    Calls Try.prog 38 #[.slice A n c] w fun e w' => e = .returned (.bool (detsB xs)) ∧ Below w.heap.size w w' := by
  have HL := Lib.hid hs.1
  go_enter Try.func38, Try.ntmps38
  go_wp2
  go_loopw [7] (fun i wr => ∃ k : Nat, k ≤ n ∧ i = .int .i64 k ∧ Below w.heap.size w wr ∧ Hid (∀ j, j < k → okDet xs j = true)) (fun i _ => n - (intOf i).toNat)
  case atStart => exact ⟨0, Nat.zero_le _, rfl, Below.refl _ _, fun j hj => absurd hj (by omega)⟩
  case round =>
    obtain ⟨k, hk, rfl, hb, hg⟩ := hrel
    by_cases hlt : k < n
    · have hs' := hs.below hb
      obtain ⟨b, o, rfl, hbz, c0, c1, c2, c3⟩ := hs'.det hlt
      clear hs
      by_cases g0 : inB (nth xs k).Number 1 999 = false
      · clear hs'
        go_wp2_with fail
        go_quiet ((first | (go_at_call 52; exact Calls.quiet_of_same (l1In_any _ _ _ _)) | (go_at_call 48; exact Calls.quiet_of_same (alZone_any _ _))))
        go_wp2
        go_ret
        exact ⟨ret_bool (detsB_no (k := k) (by rw [HL.out]; exact hlt) (okDet_0 g0)).symm, bl_drewN (bl_alloc hb _) _⟩
      have g0 : inB (nth xs k).Number 1 999 = true := by simpa using g0
      by_cases g1 : inB (nth xs k).Zone 1 9 = false
      · clear hs'
        go_wp2_with fail
        go_quiet ((first | (go_at_call 52; exact Calls.quiet_of_same (l1In_any _ _ _ _)) | (go_at_call 48; exact Calls.quiet_of_same (alZone_any _ _))))
        go_wp2
        go_ret
        exact ⟨ret_bool (detsB_no (k := k) (by rw [HL.out]; exact hlt) (okDet_1 g1)).symm, bl_drewN (bl_alloc hb _) _⟩
      have g1 : inB (nth xs k).Zone 1 9 = true := by simpa using g1
      by_cases g2 : inB (nth xs k).Kind 0 2 = false
      · clear hs'
        go_wp2_with fail
        go_quiet ((first | (go_at_call 52; exact Calls.quiet_of_same (l1In_any _ _ _ _)) | (go_at_call 48; exact Calls.quiet_of_same (alZone_any _ _))))
        go_wp2
        go_ret
        exact ⟨ret_bool (detsB_no (k := k) (by rw [HL.out]; exact hlt) (okDet_2 g2)).symm, bl_drewN (bl_alloc hb _) _⟩
      have g2 : inB (nth xs k).Kind 0 2 = true := by simpa using g2
      by_cases hk0 : 0 < k
      · have cp : wr.cell? ⟨b, o + (k - 1) * 4, none⟩ = some (.int .i64 (nth xs (k - 1)).Number) := hs'.flat2 (k := k - 1) (by omega) 0 _ rfl
        clear hs'
        have i2 : 0 ≤ (k : Int) - 1 := by omega
        have i4 : (k : Int) - 1 < n := by omega
        have i1 : IntKind.i64.wrap ((k : Int) - 1) = (k : Int) - 1 := IntWalk.i64_in _ (by omega)
        have i3 : ((k : Int) - 1).toNat = k - 1 := by omega
        by_cases go : (nth xs k).Number ≤ (nth xs (k - 1)).Number
        · go_wp2_with fail
          go_quiet ((first | (go_at_call 52; exact Calls.quiet_of_same (l1In_any _ _ _ _)) | (go_at_call 48; exact Calls.quiet_of_same (alZone_any _ _))))
          clear i1 i3
          go_wp2
          go_ret
          exact ⟨ret_bool (detsB_no (k := k) (by rw [HL.out]; exact hlt) (okDet_o hk0 go)).symm, bl_drewN (bl_alloc hb _) _⟩
        · go_wp2_with fail
          go_quiet ((first | (go_at_call 52; exact Calls.quiet_of_same (l1In_any _ _ _ _)) | (go_at_call 48; exact Calls.quiet_of_same (alZone_any _ _))))
          clear i1 i3
          go_wp2
          go_roundw
          case rel => exact ⟨k + 1, by omega, by go_num, bl_drewN (bl_alloc hb _) _, upto_succ hg (okDet_y g0 g1 g2 (.inr (by omega)))⟩
          case measure => simp [intOf]; omega
      · have hkd : decide (0 < k) = false := by simpa using hk0
        clear hs'
        go_wp2_with fail
        go_quiet ((first | (go_at_call 52; exact Calls.quiet_of_same (l1In_any _ _ _ _)) | (go_at_call 48; exact Calls.quiet_of_same (alZone_any _ _))))
        go_wp2
        go_roundw
        case rel => exact ⟨k + 1, by omega, by go_num, bl_drewN (bl_alloc hb _) _, upto_succ hg (okDet_y g0 g1 g2 (.inl hk0))⟩
        case measure => simp [intOf]; omega
    · obtain rfl : k = n := by omega
      go_wp2
      go_ret
      refine ⟨ret_bool ?_, hb⟩
      rw [detsB_all (by rw [HL.out]; exact hg), HL.out]
      simp
      try omega

end Go.Proofs.Ytjdaikpkcafcdaa
