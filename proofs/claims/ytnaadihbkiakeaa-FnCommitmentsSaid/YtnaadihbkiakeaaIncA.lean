/-
  Incidents: what the tests of one answer; names in order. No conditions.
-/
import Derived.Test.YtnaadihbkiakeaaIncZ
import Derived.Test.YtnaadihbkiakeaaNamesI
namespace Go.Proofs.Ytnaadihbkiakeaa
open Go.RowKit

def sortC (xs : List ByteArray) (k : Nat) : Bool := !(decide (0 < k) && !Op.bytesLess (nth xs (k - 1)).toList (nth xs k).toList)
def sortB (xs : List ByteArray) : Bool := allB xs.length (sortC xs)
def allNm (xs : List ByteArray) : Bool := allB xs.length (fun k => nameB (nth xs k))
def baseB (number node : Int) (closed : Bool) (n : Nat) : Bool := inB number 1 999 && inB node 0 13 && decide (n ≤ 12) && !(closed && decide (0 < n))
def incB (number node : Int) (closed : Bool) (xs : List ByteArray) : Bool := baseB number node closed xs.length && sortB xs && allNm xs
theorem sortC_1 {xs : List ByteArray} {k : Nat} (h : 0 < k) (h' : Op.bytesLess (nth xs (k - 1)).toList (nth xs k).toList = false) : sortC xs k = false := by simp only [sortC, decide_eq_true h, h']; rfl
theorem sortC_y {xs : List ByteArray} {k : Nat} (h : ¬ 0 < k ∨ Op.bytesLess (nth xs (k - 1)).toList (nth xs k).toList = true) : sortC xs k = true := by
  rcases h with h | h
  · simp only [sortC, decide_eq_false h]; rfl
  · simp only [sortC, h]; simp
theorem inc_0 {number node : Int} {closed : Bool} {xs : List ByteArray} (h : baseB number node closed xs.length = false) : incB number node closed xs = false := by simp only [incB, h]; rfl
theorem inc_1 {number node : Int} {closed : Bool} {xs : List ByteArray} (h : sortB xs = false) : incB number node closed xs = false := by simp only [incB, h]; simp
theorem inc_2 {number node : Int} {closed : Bool} {xs : List ByteArray} (h : allNm xs = false) : incB number node closed xs = false := by simp only [incB, h]; simp
theorem inc_y {number node : Int} {closed : Bool} {xs : List ByteArray} (h : baseB number node closed xs.length = true) (h1 : sortB xs = true) (h2 : allNm xs = true) : incB number node closed xs = true := by simp only [incB, h, h1, h2]; rfl
theorem incB_len {number node : Int} {closed : Bool} {xs : List ByteArray} (h : incB number node closed xs = true) : xs.length ≤ 12 := by
  simp only [incB, baseB, Bool.and_eq_true, decide_eq_true_eq] at h; exact h.1.1.1.2
theorem incB_names {number node : Int} {closed : Bool} {xs : List ByteArray} (h : incB number node closed xs = true) : allNm xs = true := by
  simp only [incB, Bool.and_eq_true] at h; exact h.2
theorem incB_num {number node : Int} {closed : Bool} {xs : List ByteArray} (h : incB number node closed xs = true) : 1 ≤ number ∧ number ≤ 999 := by
  simp only [incB, baseB, Bool.and_eq_true] at h; exact inB_iff.1 h.1.1.1.1.1
set_option maxHeartbeats 1000000 in
theorem dsNames_any (xs : List ByteArray) (A : Option Addr) (n c : Nat) (w : World) (hn : (n : Int) ≤ 9223372036854775807) (hs : Sl w A n xs) :
    Calls Try.prog 150 #[.slice A n c] w fun e w' => e = .returned (.bool (sortB xs)) ∧ w' = w := by
  have HL := Lib.hid hs.1
  go_enter Try.func150, Try.ntmps150
  go_wp2
  go_loop [7] (fun i => ∃ k : Nat, k ≤ n ∧ i = .int .i64 k ∧ Hid (∀ j, j < k → sortC xs j = true)) (fun i => n - (intOf i).toNat)
  case atStart => exact ⟨0, Nat.zero_le _, rfl, fun j hj => absurd hj (by omega)⟩
  case round =>
    obtain ⟨k, hk, rfl, hg⟩ := hrel
    by_cases hlt : k < n
    · obtain ⟨b, o, rfl, _, c0⟩ := hs.str hlt
      have hkx : Hid (k < xs.length) := by rw [Hid, HL.out]; exact hlt
      by_cases hk0 : 0 < k
      · obtain ⟨b', o', e', _, d0⟩ := hs.str (k := k - 1) (by omega)
        injection e' with e'
        injection e' with e1 e2
        subst e1 e2
        clear hs
        have hkd : decide ((k : Int) > 0) = true := by simpa using hk0
        have i2 : 0 ≤ (k : Int) - 1 := by omega
        have i4 : (k : Int) - 1 < n := by omega
        have i1 : IntKind.i64.wrap ((k : Int) - 1) = (k : Int) - 1 := IntWalk.i64_in _ (by omega)
        have i3 : ((k : Int) - 1).toNat = k - 1 := by omega
        cases go : Op.bytesLess (nth xs (k - 1)).toList (nth xs k).toList
        · have G := Lib.hid go
          go_wp2
          go_ret
          exact ⟨ret_bool (allB_false hkx.out (sortC_1 hk0 G.out)).symm, rfl⟩
        · have G := Lib.hid go
          go_wp2
          go_round
          case rel => exact ⟨k + 1, by omega, by go_num, upto_succ hg (sortC_y (.inr G.out))⟩
          case measure => simp [intOf]; omega
      · have hkd : decide ((k : Int) > 0) = false := by simp; omega
        clear hs
        go_wp2
        go_round
        case rel => exact ⟨k + 1, by omega, by go_num, upto_succ hg (sortC_y (.inl hk0))⟩
        case measure => simp [intOf]; omega
    · obtain rfl : k = n := by omega
      go_wp2
      go_ret
      exact ⟨ret_bool (allB_true (by rw [HL.out]; exact hg.out)).symm, rfl⟩
theorem apNode_any (n : Int) (w : World) :
    Calls Try.prog 144 #[.int .i64 n] w fun e w' => e = .returned (.bool (inB n 0 13)) ∧ w' = w := by
  go_enter Try.func144, Try.ntmps144
  go_wp2_with (go_at_call 53; refine (l1In_any _ _ _ _).mono ?_; rintro e V ⟨rfl, rfl⟩)
  go_ret
  exact ⟨rfl, rfl⟩

end Go.Proofs.Ytnaadihbkiakeaa
