/-
  Names: the tests of them. No conditions.
-/
import Derived.Test.YtgjnjfaohpmhkaaIn
import Derived.PlainAid
namespace Go.Proofs.Ytgjnjfaohpmhkaa
open Go.RowKit

open Go.PlainAid
/-- the byte at k as a number -/
def letterB (s : ByteArray) (k : Nat) : Bool := inB (bt s k) 97 122
def nameC (s : ByteArray) (k : Nat) : Bool := inB (bt s k) 97 122 || (!decide (k = 0) && inB (bt s k) 48 57)
def nameB (s : ByteArray) : Bool := allB s.size (nameC s) && inB s.size 1 6
def wordB (m : Int) (s : ByteArray) : Bool := allB s.size (letterB s) && inB s.size 1 m
theorem inB_yes {n a b : Int} (h1 : a ≤ n) (h2 : n ≤ b) : inB n a b = true := inB_iff.2 ⟨h1, h2⟩
theorem inB_no {n a b : Int} (h : n < a ∨ b < n) : inB n a b = false := by
  cases e : inB n a b
  · rfl
  · have := inB_iff.1 e; omega
theorem nameB_no {s : ByteArray} {k : Nat} (hk : k < s.size) (h : nameC s k = false) : nameB s = false := by simp [nameB, allB_false hk h]
theorem nameB_all {s : ByteArray} (h : ∀ j, j < s.size → nameC s j = true) : nameB s = inB s.size 1 6 := by simp [nameB, allB_true h]
theorem nameB_size {s : ByteArray} (h : nameB s = true) : s.size ≤ 6 := by
  simp only [nameB, Bool.and_eq_true] at h; have := inB_iff.1 h.2; omega
theorem wordB_no {m : Int} {s : ByteArray} {k : Nat} (hk : k < s.size) (h : letterB s k = false) : wordB m s = false := by simp [wordB, allB_false hk h]
theorem wordB_all {m : Int} {s : ByteArray} (h : ∀ j, j < s.size → letterB s j = true) : wordB m s = inB s.size 1 m := by simp [wordB, allB_true h]
theorem wordB_size {m : Int} {s : ByteArray} (h : wordB m s = true) : (s.size : Int) ≤ m := by
  simp only [wordB, Bool.and_eq_true] at h; have := inB_iff.1 h.2; omega
theorem thing_word (s : ByteArray) : wordB 8 s = (decide (s.size ≤ 8) && wordB 10 s) := by
  unfold wordB
  by_cases h : s.size ≤ 8
  · rw [decide_eq_true h]; simp only [Bool.true_and]; congr 1
    by_cases h1 : 1 ≤ s.size
    · rw [inB_yes (by omega) (by omega), inB_yes (by omega) (by omega)]
    · rw [inB_no (.inl (by omega)), inB_no (.inl (by omega))]
  · rw [decide_eq_false h, inB_no (.inr (by omega)), Bool.and_false, Bool.false_and]
theorem bl_of_eq {w w' : World} (h : w' = w) : Below w.heap.size w w' := by rw [h]; exact bl_refl _
set_option maxHeartbeats 1000000 in
theorem apName_any (s : ByteArray) (w : World) (hs : s.size ≤ maxLen) :
    Calls Try.prog 67 #[.string s] w fun e w' => e = .returned (.bool (nameB s)) ∧ Below w.heap.size w w' := by
  unfold maxLen at hs
  have hbt := get_bt s
  go_enter Try.func67, Try.ntmps67
  go_wp2
  go_loop [3] (fun i => ∃ k : Nat, k ≤ s.size ∧ i = .int .i64 k ∧ Hid (∀ j, j < k → nameC s j = true)) (fun i => s.size - (intOf i).toNat)
  case atStart => exact ⟨0, Nat.zero_le _, rfl, fun j hj => absurd hj (by omega)⟩
  case round =>
    obtain ⟨k, hk, rfl, hg⟩ := hrel
    by_cases hlt : k < s.size
    · have hlt2 : (k : Int) < s.size := by omega
      have hk0' : (0 : Int) ≤ k := by omega
      by_cases a1 : 97 ≤ bt s k
      · have a2 : decide (bt s k ≥ 97) = true := by simpa using a1
        have a4 : decide (bt s k ≥ 48) = true := by simp; omega
        have a5 : decide (bt s k ≤ 57) = false := by simp; omega
        have a6 : decide (bt s k < 48) = false := by simp; omega
        have a7 : decide (bt s k > 57) = true := by simp; omega
        by_cases b1 : bt s k ≤ 122
        · have b2 : decide (bt s k ≤ 122) = true := by simpa using b1
          have hc : Hid (nameC s k = true) := by rw [Hid, nameC, inB_yes (by omega) (by omega)]; rfl
          go_wp2
          go_round
          case rel => exact ⟨k + 1, by omega, by go_num, upto_succ hg hc.out⟩
          case measure => simp [intOf]; omega
        · have b2 : decide (bt s k ≤ 122) = false := by simpa using b1
          by_cases z1 : k = 0
          all_goals
            have z2 : ((k : Int) == 0) = decide (k = 0) := by simp [z1]
            simp only [z1, decide_true, decide_false] at z2
            have hc : Hid (nameC s k = false) := by rw [Hid, nameC, inB_no (.inr (by omega)), inB_no (.inr (by omega))]; simp
            have Z := Lib.hid z1
            clear z1
            go_wp2
            go_ret
            exact ⟨ret_bool (nameB_no hlt hc.out).symm, bl_refl _⟩
      · have a2 : decide (bt s k ≥ 97) = false := by simp; omega
        have hcl : inB (bt s k) 97 122 = false := inB_no (.inl (by omega))
        have Hcl := Lib.hid hcl
        clear hcl
        by_cases z1 : k = 0
        · have z2 : ((k : Int) == 0) = true := by simp [z1]
          have hc : Hid (nameC s k = false) := by rw [Hid, nameC, Hcl.out, z1]; simp
          have Z := Lib.hid z1
          clear z1
          by_cases d1 : 48 ≤ bt s k
          · have a4 : decide (bt s k ≥ 48) = true := by simpa using d1
            by_cases d2 : bt s k ≤ 57
            · have a5 : decide (bt s k ≤ 57) = true := by simpa using d2
              go_wp2
              go_ret
              exact ⟨ret_bool (nameB_no hlt hc.out).symm, bl_refl _⟩
            · have a5 : decide (bt s k ≤ 57) = false := by simpa using d2
              go_wp2
              go_ret
              exact ⟨ret_bool (nameB_no hlt hc.out).symm, bl_refl _⟩
          · have a4 : decide (bt s k ≥ 48) = false := by simpa using d1
            go_wp2
            go_ret
            exact ⟨ret_bool (nameB_no hlt hc.out).symm, bl_refl _⟩
        · have z2 : ((k : Int) == 0) = false := by simpa using z1
          have Z := Lib.hid z1
          clear z1
          by_cases d1 : 48 ≤ bt s k
          · have a4 : decide (bt s k ≥ 48) = true := by simpa using d1
            have a6 : decide (bt s k < 48) = false := by simp; omega
            by_cases d2 : bt s k ≤ 57
            · have a5 : decide (bt s k ≤ 57) = true := by simpa using d2
              have a7 : decide (bt s k > 57) = false := by simp; omega
              have hc : Hid (nameC s k = true) := by rw [Hid, nameC, inB_yes (a := 48) (by omega) (by omega), decide_eq_false Z.out]; simp
              go_wp2
              go_round
              case rel => exact ⟨k + 1, by omega, by go_num, upto_succ hg hc.out⟩
              case measure => simp [intOf]; omega
            · have a5 : decide (bt s k ≤ 57) = false := by simpa using d2
              have a7 : decide (bt s k > 57) = true := by simp; omega
              have hc : Hid (nameC s k = false) := by rw [Hid, nameC, Hcl.out, inB_no (a := 48) (.inr (by omega))]; simp
              go_wp2
              go_ret
              exact ⟨ret_bool (nameB_no hlt hc.out).symm, bl_refl _⟩
          · have a4 : decide (bt s k ≥ 48) = false := by simpa using d1
            have a6 : decide (bt s k < 48) = true := by simp; omega
            have hc : Hid (nameC s k = false) := by rw [Hid, nameC, Hcl.out, inB_no (a := 48) (.inl (by omega))]; simp
            go_wp2
            go_ret
            exact ⟨ret_bool (nameB_no hlt hc.out).symm, bl_refl _⟩
    · obtain rfl : k = s.size := by omega
      go_wp2_with (go_at_call 34; refine (l1In_any _ _ _ _).mono ?_; rintro e V ⟨rfl, rfl⟩)
      go_ret
      exact ⟨ret_bool (nameB_all hg.out).symm, bl_refl _⟩
set_option maxHeartbeats 1000000 in
theorem isName_any (s : ByteArray) (w : World) (hs : s.size ≤ maxLen) :
    Calls Try.prog 66 #[.string s] w fun e w' => e = .returned (.bool (nameB s)) ∧ Below w.heap.size w w' := by
  unfold maxLen at hs
  have hbt := get_bt s
  go_enter Try.func66, Try.ntmps66
  go_wp2
  go_loopw [8] (fun i wr => ∃ k : Nat, k ≤ s.size ∧ i = .int .i64 k ∧ Below w.heap.size w wr ∧ Hid (∀ j, j < k → nameC s j = true)) (fun i _ => s.size - (intOf i).toNat)
  case atStart => exact ⟨0, Nat.zero_le _, rfl, bl_refl _, fun j hj => absurd hj (by omega)⟩
  case round =>
    obtain ⟨k, hk, rfl, hb, hg⟩ := hrel
    by_cases hlt : k < s.size
    · have hlt2 : (k : Int) < s.size := by omega
      have hk0' : (0 : Int) ≤ k := by omega
      by_cases a1 : 97 ≤ bt s k
      · have a2 : decide (bt s k ≥ 97) = true := by simpa using a1
        have a4 : decide (bt s k ≥ 48) = true := by simp; omega
        have a5 : decide (bt s k ≤ 57) = false := by simp; omega
        have a6 : decide (bt s k < 48) = false := by simp; omega
        have a7 : decide (bt s k > 57) = true := by simp; omega
        by_cases b1 : bt s k ≤ 122
        · have b2 : decide (bt s k ≤ 122) = true := by simpa using b1
          have hc : Hid (nameC s k = true) := by rw [Hid, nameC, inB_yes (by omega) (by omega)]; rfl
          go_wp2_with fail
          go_quiet (fail)
          go_wp2
          go_roundw
          case rel => exact ⟨k + 1, by omega, by go_num, bl_drewN hb _, upto_succ hg hc.out⟩
          case measure => simp [intOf]; omega
        · have b2 : decide (bt s k ≤ 122) = false := by simpa using b1
          by_cases z1 : k = 0
          all_goals
            have z2 : ((k : Int) == 0) = decide (k = 0) := by simp [z1]
            simp only [z1, decide_true, decide_false] at z2
            have hc : Hid (nameC s k = false) := by rw [Hid, nameC, inB_no (.inr (by omega)), inB_no (.inr (by omega))]; simp
            have Z := Lib.hid z1
            clear z1
            go_wp2_with fail
            go_quiet (fail)
            go_wp2
            go_ret
            exact ⟨ret_bool (nameB_no hlt hc.out).symm, bl_drewN hb _⟩
      · have a2 : decide (bt s k ≥ 97) = false := by simp; omega
        have hcl : inB (bt s k) 97 122 = false := inB_no (.inl (by omega))
        have Hcl := Lib.hid hcl
        clear hcl
        by_cases z1 : k = 0
        · have z2 : ((k : Int) == 0) = true := by simp [z1]
          have hc : Hid (nameC s k = false) := by rw [Hid, nameC, Hcl.out, z1]; simp
          have Z := Lib.hid z1
          clear z1
          by_cases d1 : 48 ≤ bt s k
          · have a4 : decide (bt s k ≥ 48) = true := by simpa using d1
            by_cases d2 : bt s k ≤ 57
            · have a5 : decide (bt s k ≤ 57) = true := by simpa using d2
              go_wp2_with fail
              go_quiet (fail)
              go_wp2
              go_ret
              exact ⟨ret_bool (nameB_no hlt hc.out).symm, bl_drewN hb _⟩
            · have a5 : decide (bt s k ≤ 57) = false := by simpa using d2
              go_wp2_with fail
              go_quiet (fail)
              go_wp2
              go_ret
              exact ⟨ret_bool (nameB_no hlt hc.out).symm, bl_drewN hb _⟩
          · have a4 : decide (bt s k ≥ 48) = false := by simpa using d1
            go_wp2_with fail
            go_quiet (fail)
            go_wp2
            go_ret
            exact ⟨ret_bool (nameB_no hlt hc.out).symm, bl_drewN hb _⟩
        · have z2 : ((k : Int) == 0) = false := by simpa using z1
          have Z := Lib.hid z1
          clear z1
          by_cases d1 : 48 ≤ bt s k
          · have a4 : decide (bt s k ≥ 48) = true := by simpa using d1
            have a6 : decide (bt s k < 48) = false := by simp; omega
            by_cases d2 : bt s k ≤ 57
            · have a5 : decide (bt s k ≤ 57) = true := by simpa using d2
              have a7 : decide (bt s k > 57) = false := by simp; omega
              have hc : Hid (nameC s k = true) := by rw [Hid, nameC, inB_yes (a := 48) (by omega) (by omega), decide_eq_false Z.out]; simp
              go_wp2_with fail
              go_quiet (fail)
              go_wp2
              go_roundw
              case rel => exact ⟨k + 1, by omega, by go_num, bl_drewN hb _, upto_succ hg hc.out⟩
              case measure => simp [intOf]; omega
            · have a5 : decide (bt s k ≤ 57) = false := by simpa using d2
              have a7 : decide (bt s k > 57) = true := by simp; omega
              have hc : Hid (nameC s k = false) := by rw [Hid, nameC, Hcl.out, inB_no (a := 48) (.inr (by omega))]; simp
              go_wp2_with fail
              go_quiet (fail)
              go_wp2
              go_ret
              exact ⟨ret_bool (nameB_no hlt hc.out).symm, bl_drewN hb _⟩
          · have a4 : decide (bt s k ≥ 48) = false := by simpa using d1
            have a6 : decide (bt s k < 48) = true := by simp; omega
            have hc : Hid (nameC s k = false) := by rw [Hid, nameC, Hcl.out, inB_no (a := 48) (.inl (by omega))]; simp
            go_wp2_with fail
            go_quiet (fail)
            go_wp2
            go_ret
            exact ⟨ret_bool (nameB_no hlt hc.out).symm, bl_drewN hb _⟩
    · obtain rfl : k = s.size := by omega
      go_wp2_with (go_at_call 41; refine (inside_any _ _ _ _).mono ?_; rintro e V ⟨rfl, rfl⟩)
      go_ret
      exact ⟨ret_bool (nameB_all hg.out).symm, hb⟩

end Go.Proofs.Ytgjnjfaohpmhkaa
