/-
  Several texts in one. No conditions.
-/
import Derived.Test.YtfglmghcgoembaaGreatDoorHx4
import Derived.Test.YtfglmghcgoembaaGreatDoorHx1
import Derived.Test.YtfglmghcgoembaaGreatDoorHx3
namespace Go.Proofs.YtfglmghcgoembaaGreatDoor
open Go.RowKit

open Go.PlainAid
theorem bt_range (s : ByteArray) (k : Nat) : 0 ≤ bt s k ∧ bt s k ≤ 255 := ⟨bt_nonneg s k, bt_le s k⟩
set_option maxHeartbeats 2000000 in
theorem lgByte_any (x : Int) (hx : 0 ≤ x ∧ x ≤ 255) (w : World) :
    Calls Tryz.prog 97 #[.int .u8 x] w fun e w' => e = .returned (.bool (lgN x)) ∧ w' = w := by
  have hall : (x < 32) ∨ (x = 32) ∨ (32 < x ∧ x < 45) ∨ (x = 45) ∨ (x = 46) ∨ (x = 47) ∨ (48 ≤ x ∧ x ≤ 57) ∨ (x = 58) ∨ (58 < x ∧ x < 97) ∨ (97 ≤ x ∧ x ≤ 122) ∨ (122 < x) := by omega
  rcases hall with h | h | h | h | h | h | h | h | h | h | h
  · have q : Hid (lgN x = false) := by rw [Hid]; unfold lgN inB; simp; omega
    have a1 : decide (x ≥ 97) = false := by simp; omega
    have a2 : decide (x ≤ 122) = true := by simp; omega
    have a3 : decide (x ≥ 48) = false := by simp; omega
    have a4 : decide (x ≤ 57) = true := by simp; omega
    have e1 : (x == 32) = false := by simp; omega
    have e2 : (x == 46) = false := by simp; omega
    have e3 : (x == 45) = false := by simp; omega
    have e4 : (x == 58) = false := by simp; omega
    clear h
    go_enter Tryz.func97, Tryz.ntmps97
    go_wp2
    go_ret
    exact ⟨ret_bool q.out.symm, rfl⟩
  · have q : Hid (lgN x = true) := by rw [Hid]; unfold lgN inB; simp; omega
    have a1 : decide (x ≥ 97) = false := by simp; omega
    have a2 : decide (x ≤ 122) = true := by simp; omega
    have a3 : decide (x ≥ 48) = false := by simp; omega
    have a4 : decide (x ≤ 57) = true := by simp; omega
    have e1 : (x == 32) = true := by simp; omega
    have e2 : (x == 46) = false := by simp; omega
    have e3 : (x == 45) = false := by simp; omega
    have e4 : (x == 58) = false := by simp; omega
    clear h
    go_enter Tryz.func97, Tryz.ntmps97
    go_wp2
    go_ret
    exact ⟨ret_bool q.out.symm, rfl⟩
  · have q : Hid (lgN x = false) := by rw [Hid]; unfold lgN inB; simp; omega
    have a1 : decide (x ≥ 97) = false := by simp; omega
    have a2 : decide (x ≤ 122) = true := by simp; omega
    have a3 : decide (x ≥ 48) = false := by simp; omega
    have a4 : decide (x ≤ 57) = true := by simp; omega
    have e1 : (x == 32) = false := by simp; omega
    have e2 : (x == 46) = false := by simp; omega
    have e3 : (x == 45) = false := by simp; omega
    have e4 : (x == 58) = false := by simp; omega
    clear h
    go_enter Tryz.func97, Tryz.ntmps97
    go_wp2
    go_ret
    exact ⟨ret_bool q.out.symm, rfl⟩
  · have q : Hid (lgN x = true) := by rw [Hid]; unfold lgN inB; simp; omega
    have a1 : decide (x ≥ 97) = false := by simp; omega
    have a2 : decide (x ≤ 122) = true := by simp; omega
    have a3 : decide (x ≥ 48) = false := by simp; omega
    have a4 : decide (x ≤ 57) = true := by simp; omega
    have e1 : (x == 32) = false := by simp; omega
    have e2 : (x == 46) = false := by simp; omega
    have e3 : (x == 45) = true := by simp; omega
    have e4 : (x == 58) = false := by simp; omega
    clear h
    go_enter Tryz.func97, Tryz.ntmps97
    go_wp2
    go_ret
    exact ⟨ret_bool q.out.symm, rfl⟩
  · have q : Hid (lgN x = true) := by rw [Hid]; unfold lgN inB; simp; omega
    have a1 : decide (x ≥ 97) = false := by simp; omega
    have a2 : decide (x ≤ 122) = true := by simp; omega
    have a3 : decide (x ≥ 48) = false := by simp; omega
    have a4 : decide (x ≤ 57) = true := by simp; omega
    have e1 : (x == 32) = false := by simp; omega
    have e2 : (x == 46) = true := by simp; omega
    have e3 : (x == 45) = false := by simp; omega
    have e4 : (x == 58) = false := by simp; omega
    clear h
    go_enter Tryz.func97, Tryz.ntmps97
    go_wp2
    go_ret
    exact ⟨ret_bool q.out.symm, rfl⟩
  · have q : Hid (lgN x = false) := by rw [Hid]; unfold lgN inB; simp; omega
    have a1 : decide (x ≥ 97) = false := by simp; omega
    have a2 : decide (x ≤ 122) = true := by simp; omega
    have a3 : decide (x ≥ 48) = false := by simp; omega
    have a4 : decide (x ≤ 57) = true := by simp; omega
    have e1 : (x == 32) = false := by simp; omega
    have e2 : (x == 46) = false := by simp; omega
    have e3 : (x == 45) = false := by simp; omega
    have e4 : (x == 58) = false := by simp; omega
    clear h
    go_enter Tryz.func97, Tryz.ntmps97
    go_wp2
    go_ret
    exact ⟨ret_bool q.out.symm, rfl⟩
  · have q : Hid (lgN x = true) := by rw [Hid]; unfold lgN inB; simp; omega
    have a1 : decide (x ≥ 97) = false := by simp; omega
    have a2 : decide (x ≤ 122) = true := by simp; omega
    have a3 : decide (x ≥ 48) = true := by simp; omega
    have a4 : decide (x ≤ 57) = true := by simp; omega
    have e1 : (x == 32) = false := by simp; omega
    have e2 : (x == 46) = false := by simp; omega
    have e3 : (x == 45) = false := by simp; omega
    have e4 : (x == 58) = false := by simp; omega
    clear h
    go_enter Tryz.func97, Tryz.ntmps97
    go_wp2
    go_ret
    exact ⟨ret_bool q.out.symm, rfl⟩
  · have q : Hid (lgN x = true) := by rw [Hid]; unfold lgN inB; simp; omega
    have a1 : decide (x ≥ 97) = false := by simp; omega
    have a2 : decide (x ≤ 122) = true := by simp; omega
    have a3 : decide (x ≥ 48) = true := by simp; omega
    have a4 : decide (x ≤ 57) = false := by simp; omega
    have e1 : (x == 32) = false := by simp; omega
    have e2 : (x == 46) = false := by simp; omega
    have e3 : (x == 45) = false := by simp; omega
    have e4 : (x == 58) = true := by simp; omega
    clear h
    go_enter Tryz.func97, Tryz.ntmps97
    go_wp2
    go_ret
    exact ⟨ret_bool q.out.symm, rfl⟩
  · have q : Hid (lgN x = false) := by rw [Hid]; unfold lgN inB; simp; omega
    have a1 : decide (x ≥ 97) = false := by simp; omega
    have a2 : decide (x ≤ 122) = true := by simp; omega
    have a3 : decide (x ≥ 48) = true := by simp; omega
    have a4 : decide (x ≤ 57) = false := by simp; omega
    have e1 : (x == 32) = false := by simp; omega
    have e2 : (x == 46) = false := by simp; omega
    have e3 : (x == 45) = false := by simp; omega
    have e4 : (x == 58) = false := by simp; omega
    clear h
    go_enter Tryz.func97, Tryz.ntmps97
    go_wp2
    go_ret
    exact ⟨ret_bool q.out.symm, rfl⟩
  · have q : Hid (lgN x = true) := by rw [Hid]; unfold lgN inB; simp; omega
    have a1 : decide (x ≥ 97) = true := by simp; omega
    have a2 : decide (x ≤ 122) = true := by simp; omega
    have a3 : decide (x ≥ 48) = true := by simp; omega
    have a4 : decide (x ≤ 57) = false := by simp; omega
    have e1 : (x == 32) = false := by simp; omega
    have e2 : (x == 46) = false := by simp; omega
    have e3 : (x == 45) = false := by simp; omega
    have e4 : (x == 58) = false := by simp; omega
    clear h
    go_enter Tryz.func97, Tryz.ntmps97
    go_wp2
    go_ret
    exact ⟨ret_bool q.out.symm, rfl⟩
  · have q : Hid (lgN x = false) := by rw [Hid]; unfold lgN inB; simp; omega
    have a1 : decide (x ≥ 97) = true := by simp; omega
    have a2 : decide (x ≤ 122) = false := by simp; omega
    have a3 : decide (x ≥ 48) = true := by simp; omega
    have a4 : decide (x ≤ 57) = false := by simp; omega
    have e1 : (x == 32) = false := by simp; omega
    have e2 : (x == 46) = false := by simp; omega
    have e3 : (x == 45) = false := by simp; omega
    have e4 : (x == 58) = false := by simp; omega
    clear h
    go_enter Tryz.func97, Tryz.ntmps97
    go_wp2
    go_ret
    exact ⟨ret_bool q.out.symm, rfl⟩
set_option maxHeartbeats 4000000 in
theorem lgText_any (s : ByteArray) (w : World) (hs : s.size ≤ maxLen) :
    Calls Tryz.prog 83 #[.string s, .int .i64 40] w fun e w' => e = .returned (.bool (textB s)) ∧ Below w.heap.size w w' := by
  unfold maxLen at hs
  have hbt := get_bt s
  go_enter Tryz.func83, Tryz.ntmps83
  go_wp2
  go_loop [5] (fun i => ∃ k : Nat, k ≤ s.size ∧ i = .int .i64 k ∧ Hid (∀ j, j < k → lgC s j = true)) (fun i => s.size - (intOf i).toNat)
  case atStart => exact ⟨0, Nat.zero_le _, rfl, fun j hj => absurd hj (by omega)⟩
  case round =>
    obtain ⟨k, hk, rfl, hg⟩ := hrel
    by_cases hlt : k < s.size
    · have hlt2 : (k : Int) < s.size := by omega
      have hk0' : (0 : Int) ≤ k := by omega
      have hr := Lib.hid (bt_range s k)
      cases hc : lgC s k
      · have HC := Lib.hid hc
        have kb := Lib.hid (show ∀ W : World, Calls Tryz.prog 97 #[.int .u8 (bt s k)] W fun e w' => e = .returned (.bool false) ∧ w' = W from fun W => by have h := lgByte_any (bt s k) hr.out W; unfold lgC at hc; rw [hc] at h; exact h)
        clear hc
        go_wp2_with (go_at_call 97; refine (kb.out _).mono ?_; rintro e V ⟨rfl, rfl⟩)
        go_ret
        exact ⟨ret_bool (textB_no hlt HC.out).symm, bl_refl _⟩
      · have HC := Lib.hid hc
        have kb := Lib.hid (show ∀ W : World, Calls Tryz.prog 97 #[.int .u8 (bt s k)] W fun e w' => e = .returned (.bool true) ∧ w' = W from fun W => by have h := lgByte_any (bt s k) hr.out W; unfold lgC at hc; rw [hc] at h; exact h)
        clear hc
        go_wp2_with (go_at_call 97; refine (kb.out _).mono ?_; rintro e V ⟨rfl, rfl⟩)
        go_round
        case rel => exact ⟨k + 1, by omega, by go_num, upto_succ hg HC.out⟩
        case measure => simp [intOf]; omega
    · obtain rfl : k = s.size := by omega
      have hq := Lib.hid (textB_all hg.out)
      clear hg
      by_cases h1 : inB s.size 1 40 = true
      · have h1b := inB_iff.1 h1
        have h0 : 0 < s.size := by omega
        have h02 : (0 : Int) < s.size := by omega
        have hz : (s.size : Int) - 1 = ((s.size - 1 : Nat) : Int) := by omega
        have hw : IntKind.i64.wrap ((s.size : Int) - 1) = ((s.size - 1 : Nat) : Int) := by rw [IntWalk.i64_in _ (by omega)]; omega
        have hl1 : s.size - 1 < s.size := by omega
        have hl2 : ((s.size - 1 : Nat) : Int) < s.size := by omega
        have hl3 : (0 : Int) ≤ ((s.size - 1 : Nat) : Int) := by omega
        by_cases h2 : bt s 0 = 32
        · have q : Hid (textB s = false) := by rw [Hid, hq.out, endB, h1, h2]; simp
          have e1 : (bt s 0 != 32) = false := by simp [h2]
          go_wp2_with (go_at_call 81; refine (l1In_any _ _ _ _).mono ?_; rintro e V ⟨rfl, rfl⟩)
          go_ret
          exact ⟨ret_bool q.out.symm, bl_refl _⟩
        · have e1 : (bt s 0 != 32) = true := by simpa using h2
          by_cases h3 : bt s (s.size - 1) = 32
          · have q : Hid (textB s = false) := by rw [Hid, hq.out, endB, h1, h3]; simp
            have e2 : (bt s (s.size - 1) != 32) = false := by simp [h3]
            go_wp2_with (go_at_call 81; refine (l1In_any _ _ _ _).mono ?_; rintro e V ⟨rfl, rfl⟩)
            go_ret
            exact ⟨ret_bool q.out.symm, bl_refl _⟩
          · have q : Hid (textB s = true) := by rw [Hid, hq.out, endB, h1]; simp [h2, h3]
            have e2 : (bt s (s.size - 1) != 32) = true := by simpa using h3
            go_wp2_with (go_at_call 81; refine (l1In_any _ _ _ _).mono ?_; rintro e V ⟨rfl, rfl⟩)
            go_ret
            exact ⟨ret_bool q.out.symm, bl_refl _⟩
      · have h1 : inB s.size 1 40 = false := by simpa using h1
        have q : Hid (textB s = false) := by rw [Hid, hq.out, endB, h1]; simp
        go_wp2_with (go_at_call 81; refine (l1In_any _ _ _ _).mono ?_; rintro e V ⟨rfl, rfl⟩)
        go_ret
        exact ⟨ret_bool q.out.symm, bl_refl _⟩
end Go.Proofs.YtfglmghcgoembaaGreatDoor

namespace Go.Proofs.YtfglmghcgoembaaGreatDoor
open Go.RowKit
theorem cellsOf_set1 {α : Type} [Flat α] [Inhabited α] {xs : List α} {k j : Nat} (hk : k < xs.length) (hj : j < Flat.sz α) {y : α} {v : Value} (hy : Flat.enc y = (Flat.enc (nth xs k)).set j v) :
    (cellsOf xs).set (k * Flat.sz α + j) v = cellsOf (xs.set k y) := by
  have e1 : xs = xs.take k ++ [nth xs k] ++ xs.drop (k + 1) := by
    conv => lhs; rw [← List.take_append_drop k xs, drop_nth hk]
    simp
  have e2 : xs.set k y = xs.take k ++ [y] ++ xs.drop (k + 1) := by
    rw [List.set_eq_take_append_cons_drop, if_pos hk]; simp
  have hl : (cellsOf (xs.take k)).length = k * Flat.sz α := by rw [cellsOf_length, List.length_take, Nat.min_eq_left (by omega)]
  have h1 : (cellsOf xs) = cellsOf (xs.take k) ++ (Flat.enc (nth xs k) ++ cellsOf (xs.drop (k + 1))) := by
    conv => lhs; rw [e1]
    rw [cellsOf_append, cellsOf_append, cellsOf_one, List.append_assoc]
  rw [h1, e2, cellsOf_append, cellsOf_append, cellsOf_one, ← hl, List.set_append_right _ _ (by omega), Nat.add_sub_cancel_left, List.set_append_left _ _ (by rw [Flat.len]; exact hj), hy, List.append_assoc]
theorem Own.put1 {α : Type} [Flat α] [Inhabited α] {w : World} {base g n cap : Nat} {E : TypeId} {xs : List α} (h : Own w base E (.slice (some ⟨g, 0, none⟩) n cap) xs) {k : Nat} (hk : k < n) (j : Nat) (hj : j < Flat.sz α) {y : α} {v : Value}
    (hy : Flat.enc y = (Flat.enc (nth xs k)).set j v) : Own (w.setCell ⟨g, k * Flat.sz α + j, none⟩ v) base E (.slice (some ⟨g, 0, none⟩) n cap) (xs.set k y) := by
  have hn := h.sl.1
  unfold Own at h ⊢
  rw [List.length_set, ← cellsOf_set1 (by omega) hj hy]
  rw [hn] at h ⊢
  exact (World.ownsRow.stored h _ v).1
end Go.Proofs.YtfglmghcgoembaaGreatDoor
