/-
  Signals: both tests of a list answer sigsB. No conditions.
-/
import Derived.Test.YtjdaikpkcafcdaaIn
namespace Go.Proofs.Ytjdaikpkcafcdaa
open Go.RowKit

structure Sig where
  s : Int
  n : Int
  deriving Inhabited, DecidableEq

instance : Flat Sig where
  sz := 2
  pos := by omega
  enc := fun x => [.int .i64 x.s, .int .i64 x.n]
  len := fun _ => rfl
  one := fun _ u h => by simp at h; rcases h with rfl | rfl <;> rfl

theorem Sl.sig {w : World} {A : Option Addr} {n : Nat} {xs : List Sig} (h : Sl w A n xs) {k : Nat} (hk : k < n) :
    ∃ b o, A = some ⟨b, o, none⟩ ∧ w.cell? ⟨b, o + k * 2, none⟩ = some (.int .i64 (nth xs k).s) ∧ w.cell? ⟨b, o + k * 2 + 1, none⟩ = some (.int .i64 (nth xs k).n) := by
  obtain ⟨b, o, hA, hc⟩ := h.flat hk
  exact ⟨b, o, hA, hc 0 _ rfl, hc 1 _ rfl⟩

def okSig (xs : List Sig) (k : Nat) : Bool :=
  inB (nth xs k).s 0 86399 && inB (nth xs k).n 1 999 && !(decide (0 < k) && decide ((nth xs k).s < (nth xs (k - 1)).s))
def sigsB (xs : List Sig) : Bool := allB xs.length (okSig xs) && decide (xs.length ≤ 60)

theorem okSig1 {xs : List Sig} {k : Nat} (h : inB (nth xs k).s 0 86399 = false) : okSig xs k = false := by simp [okSig, h]
theorem okSig2 {xs : List Sig} {k : Nat} (h : inB (nth xs k).n 1 999 = false) : okSig xs k = false := by simp [okSig, h]
theorem okSig3 {xs : List Sig} {k : Nat} (h : 0 < k) (h' : (nth xs k).s < (nth xs (k - 1)).s) : okSig xs k = false := by simp [okSig, h, h']
theorem okSig4 {xs : List Sig} {k : Nat} (h1 : inB (nth xs k).s 0 86399 = true) (h2 : inB (nth xs k).n 1 999 = true) (h : ¬ 0 < k ∨ ¬ (nth xs k).s < (nth xs (k - 1)).s) : okSig xs k = true := by
  rcases h with h | h <;> simp [okSig, h1, h2] <;> omega
theorem sigsB_no {xs : List Sig} {k : Nat} (hk : k < xs.length) (h : okSig xs k = false) : sigsB xs = false := by simp [sigsB, allB_false hk h]
theorem sigsB_all {xs : List Sig} (h : ∀ j, j < xs.length → okSig xs j = true) : sigsB xs = decide (xs.length ≤ 60) := by simp [sigsB, allB_true h]

set_option maxHeartbeats 1000000 in
theorem alSignals_any (xs : List Sig) (A : Option Addr) (n c : Nat) (w : World) (hn : (n : Int) ≤ 9223372036854775807) (hs : Sl w A n xs) :
    Calls Try.prog 34 #[.slice A n c] w fun e w' => e = .returned (.bool (sigsB xs)) ∧ Below w.heap.size w w' := by
  have HL := Lib.hid hs.1
  go_enter Try.func34, Try.ntmps34
  go_wp2
  go_loopw [7] (fun i wr => ∃ k : Nat, k ≤ n ∧ i = .int .i64 k ∧ Below w.heap.size w wr ∧ Hid (∀ j, j < k → okSig xs j = true)) (fun i _ => n - (intOf i).toNat)
  case atStart => exact ⟨0, Nat.zero_le _, rfl, Below.refl _ _, fun j hj => absurd hj (by omega)⟩
  case round =>
    obtain ⟨k, hk, rfl, hb, hg⟩ := hrel
    by_cases hlt : k < n
    · have hs' := hs.below hb
      obtain ⟨b, o, rfl, c0, c1⟩ := hs'.sig hlt
      clear hs
      by_cases g1 : inB (nth xs k).s 0 86399 = false
      · clear hs'
        go_wp2_with fail
        go_quiet ((go_at_call 52; exact Calls.quiet_of_same (l1In_any _ _ _ _)))
        go_wp2
        go_ret
        exact ⟨ret_bool (sigsB_no (k := k) (by rw [HL.out]; exact hlt) (okSig1 g1)).symm, bl_drewN (bl_alloc hb _) _⟩
      have g1 : inB (nth xs k).s 0 86399 = true := by simpa using g1
      by_cases g2 : inB (nth xs k).n 1 999 = false
      · clear hs'
        go_wp2_with fail
        go_quiet ((go_at_call 52; exact Calls.quiet_of_same (l1In_any _ _ _ _)))
        go_wp2
        go_ret
        exact ⟨ret_bool (sigsB_no (k := k) (by rw [HL.out]; exact hlt) (okSig2 g2)).symm, bl_drewN (bl_alloc hb _) _⟩
      have g2 : inB (nth xs k).n 1 999 = true := by simpa using g2
      by_cases hk0 : 0 < k
      · have cp : wr.cell? ⟨b, o + (k - 1) * 2, none⟩ = some (.int .i64 (nth xs (k - 1)).s) := hs'.flat2 (k := k - 1) (by omega) 0 _ rfl
        clear hs'
        have hbz : b < wr.heap.size := World.block_lt_of_cell? wr _ c0
        have i2 : 0 ≤ (k : Int) - 1 := by omega
        have i4 : (k : Int) - 1 < n := by omega
        have i1 : IntKind.i64.wrap ((k : Int) - 1) = (k : Int) - 1 := IntWalk.i64_in _ (by omega)
        have i3 : ((k : Int) - 1).toNat = k - 1 := by omega
        by_cases g3 : (nth xs k).s < (nth xs (k - 1)).s
        · go_wp2_with fail
          go_quiet ((go_at_call 52; exact Calls.quiet_of_same (l1In_any _ _ _ _)))
          go_wp2
          go_ret
          exact ⟨ret_bool (sigsB_no (k := k) (by rw [HL.out]; exact hlt) (okSig3 hk0 g3)).symm, bl_drewN (bl_alloc hb _) _⟩
        · go_wp2_with fail
          go_quiet ((go_at_call 52; exact Calls.quiet_of_same (l1In_any _ _ _ _)))
          clear i1 i3
          go_wp2
          go_roundw
          case rel => exact ⟨k + 1, by omega, by go_num, bl_drewN (bl_alloc hb _) _, upto_succ hg (okSig4 g1 g2 (.inr (by omega)))⟩
          case measure => simp [intOf]; omega
      · have hkd : decide (0 < k) = false := by simpa using hk0
        clear hs'
        go_wp2_with fail
        go_quiet ((go_at_call 52; exact Calls.quiet_of_same (l1In_any _ _ _ _)))
        go_wp2
        go_roundw
        case rel => exact ⟨k + 1, by omega, by go_num, bl_drewN (bl_alloc hb _) _, upto_succ hg (okSig4 g1 g2 (.inl hk0))⟩
        case measure => simp [intOf]; omega
    · obtain rfl : k = n := by omega
      go_wp2
      go_ret
      refine ⟨ret_bool ?_, hb⟩
      rw [sigsB_all (by rw [HL.out]; exact hg), HL.out]
      simp
      omega
end Go.Proofs.Ytjdaikpkcafcdaa
