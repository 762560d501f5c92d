/-
  A text of an entry, the program's. No conditions.
-/
import Derived.Test.YtfglmghcgoembaaGreatDoorHx5
import Derived.Test.YtfglmghcgoembaaGreatDoorLays
import Derived.Shelf.Strings.Search3
namespace Go.Proofs.YtfglmghcgoembaaGreatDoor
open Go.RowKit

open Go.PlainAid
theorem con_eq (c : UInt8) : decide (0 ≤ Lib.indexByte [32, 46, 45, 58] c) = (decide ((c.toNat : Int) = 32) || (decide ((c.toNat : Int) = 46) || (decide ((c.toNat : Int) = 45) || decide ((c.toNat : Int) = 58)))) := by
  have h : ∀ n : Fin 256, decide (0 ≤ Lib.indexByte [32, 46, 45, 58] (UInt8.ofNat n.val)) = (decide (((UInt8.ofNat n.val).toNat : Int) = 32) || (decide (((UInt8.ofNat n.val).toNat : Int) = 46) || (decide (((UInt8.ofNat n.val).toNat : Int) = 45) || decide (((UInt8.ofNat n.val).toNat : Int) = 58)))) := by decide +kernel
  have := h ⟨c.toNat, UInt8.toNat_lt c⟩
  simpa using this
theorem con_any (c : UInt8) (v : Bool) (hv : (decide ((c.toNat : Int) = 32) || (decide ((c.toNat : Int) = 46) || (decide ((c.toNat : Int) = 45) || decide ((c.toNat : Int) = 58)))) = v) (W : World) :
    Calls Tryz.prog 95 #[.string ⟨#[32, 46, 45, 58]⟩, .string ⟨#[c]⟩] W fun e w' => e = .returned (.bool v) ∧ w' = W := by
  have h := Any.strings_Contains_one Tryz.laysContains ⟨#[32, 46, 45, 58]⟩ c W
  rw [show (⟨#[32, 46, 45, 58]⟩ : ByteArray).data.toList = [32, 46, 45, 58] from rfl, con_eq, hv] at h
  exact h
theorem ext_one (s : ByteArray) (k : Nat) (h : k < s.size) : s.extract k (k + 1) = ⟨#[s[k]'h]⟩ := by
  apply ByteArray.ext
  rw [ByteArray.data_extract]
  apply Array.ext
  · simp; have : k < s.data.size := h; omega
  · intro i h1 h2
    have : i = 0 := by simp at h2; omega
    subst this
    simp; rfl
set_option maxHeartbeats 8000000 in
theorem isText_any (s : ByteArray) (w : World) (hs : s.size ≤ maxLen) :
    Calls Tryz.prog 77 #[.string s] w fun e w' => e = .returned (.bool (textB s)) ∧ Below w.heap.size w w' := by
  unfold maxLen at hs
  have hbt := get_bt s
  go_enter Tryz.func77, Tryz.ntmps77
  go_wp2
  go_loop [6] (fun i => ∃ k : Nat, k ≤ s.size ∧ i = .int .i64 k ∧ Hid (∀ j, j < k → lgC s j = true)) (fun i => s.size - (intOf i).toNat)
  case atStart => exact ⟨0, Nat.zero_le _, rfl, fun j hj => absurd hj (by omega)⟩
  case round =>
    obtain ⟨k, hk, rfl, hg⟩ := hrel
    by_cases hlt : k < s.size
    · have hlt2 : (k : Int) < s.size := by omega
      have hk0' : (0 : Int) ≤ k := by omega
      have hw1 : IntKind.i64.wrap ((k : Int) + 1) = ((k + 1 : Nat) : Int) := by rw [IntWalk.i64_in _ (by omega)]; omega
      have b1 : k ≤ k + 1 := by omega
      have b2 : k + 1 ≤ s.size := by omega
      have b3 : ((k + 1 : Nat) : Int) ≤ s.size := by omega
      have b4 : (k : Int) ≤ ((k + 1 : Nat) : Int) := by omega
      have hex := ext_one s k hlt
      have hcx : ((s[k]'hlt).toNat : Int) = bt s k := hbt k hlt
      obtain ⟨x, hx⟩ : ∃ x, bt s k = x := ⟨_, rfl⟩
      obtain ⟨c, hc⟩ : ∃ c, s[k]'hlt = c := ⟨_, rfl⟩
      rw [hc] at hex hcx
      rw [hx] at hcx
      have hr : 0 ≤ x ∧ x ≤ 255 := by rw [← hx]; exact ⟨bt_nonneg s k, bt_le s k⟩
      have HX := Lib.hid hx
      have HC := Lib.hid hc
      clear hc
      have hall : (x < 32) ∨ (x = 32) ∨ (32 < x ∧ x < 45) ∨ (x = 45) ∨ (x = 46) ∨ (x = 47) ∨ (48 ≤ x ∧ x ≤ 57) ∨ (x = 58) ∨ (58 < x ∧ x < 97) ∨ (97 ≤ x ∧ x ≤ 122) ∨ (122 < x) := by omega
      rcases hall with h | h | h | h | h | h | h | h | h | h | h
      · have q : Hid (lgC s k = false) := by rw [Hid]; unfold lgC; rw [HX.out]; unfold lgN inB; simp; omega
        have kc := Lib.hid (show ∀ W : World, Calls Tryz.prog 95 #[.string ⟨#[32, 46, 45, 58]⟩, .string ⟨#[c]⟩] W fun e w' => e = .returned (.bool false) ∧ w' = W from fun W => con_any c false (by rw [hcx]; simp; omega) W)
        have a1 : decide (x ≥ 97) = false := by simp; omega
        have a2 : decide (x ≤ 122) = true := by simp; omega
        have a3 : decide (x ≥ 48) = false := by simp; omega
        have a4 : decide (x ≤ 57) = true := by simp; omega
        have H0 := Lib.hid h
        clear h hcx
        go_wp2_with (go_at_call 95; refine (kc.out _).mono ?_; rintro e V ⟨rfl, rfl⟩)
        go_ret
        exact ⟨ret_bool (textB_no hlt q.out).symm, bl_refl _⟩
      · have q : Hid (lgC s k = true) := by rw [Hid]; unfold lgC; rw [HX.out]; unfold lgN inB; simp; omega
        have kc := Lib.hid (show ∀ W : World, Calls Tryz.prog 95 #[.string ⟨#[32, 46, 45, 58]⟩, .string ⟨#[c]⟩] W fun e w' => e = .returned (.bool true) ∧ w' = W from fun W => con_any c true (by rw [hcx]; simp; omega) W)
        have a1 : decide (x ≥ 97) = false := by simp; omega
        have a2 : decide (x ≤ 122) = true := by simp; omega
        have a3 : decide (x ≥ 48) = false := by simp; omega
        have a4 : decide (x ≤ 57) = true := by simp; omega
        have H0 := Lib.hid h
        clear h hcx
        go_wp2_with (go_at_call 95; refine (kc.out _).mono ?_; rintro e V ⟨rfl, rfl⟩)
        go_round
        case rel => exact ⟨k + 1, by omega, by go_num, upto_succ hg q.out⟩
        case measure => simp [intOf]; omega
      · have q : Hid (lgC s k = false) := by rw [Hid]; unfold lgC; rw [HX.out]; unfold lgN inB; simp; omega
        have kc := Lib.hid (show ∀ W : World, Calls Tryz.prog 95 #[.string ⟨#[32, 46, 45, 58]⟩, .string ⟨#[c]⟩] W fun e w' => e = .returned (.bool false) ∧ w' = W from fun W => con_any c false (by rw [hcx]; simp; omega) W)
        have a1 : decide (x ≥ 97) = false := by simp; omega
        have a2 : decide (x ≤ 122) = true := by simp; omega
        have a3 : decide (x ≥ 48) = false := by simp; omega
        have a4 : decide (x ≤ 57) = true := by simp; omega
        have H0 := Lib.hid h
        clear h hcx
        go_wp2_with (go_at_call 95; refine (kc.out _).mono ?_; rintro e V ⟨rfl, rfl⟩)
        go_ret
        exact ⟨ret_bool (textB_no hlt q.out).symm, bl_refl _⟩
      · have q : Hid (lgC s k = true) := by rw [Hid]; unfold lgC; rw [HX.out]; unfold lgN inB; simp; omega
        have kc := Lib.hid (show ∀ W : World, Calls Tryz.prog 95 #[.string ⟨#[32, 46, 45, 58]⟩, .string ⟨#[c]⟩] W fun e w' => e = .returned (.bool true) ∧ w' = W from fun W => con_any c true (by rw [hcx]; simp; omega) W)
        have a1 : decide (x ≥ 97) = false := by simp; omega
        have a2 : decide (x ≤ 122) = true := by simp; omega
        have a3 : decide (x ≥ 48) = false := by simp; omega
        have a4 : decide (x ≤ 57) = true := by simp; omega
        have H0 := Lib.hid h
        clear h hcx
        go_wp2_with (go_at_call 95; refine (kc.out _).mono ?_; rintro e V ⟨rfl, rfl⟩)
        go_round
        case rel => exact ⟨k + 1, by omega, by go_num, upto_succ hg q.out⟩
        case measure => simp [intOf]; omega
      · have q : Hid (lgC s k = true) := by rw [Hid]; unfold lgC; rw [HX.out]; unfold lgN inB; simp; omega
        have kc := Lib.hid (show ∀ W : World, Calls Tryz.prog 95 #[.string ⟨#[32, 46, 45, 58]⟩, .string ⟨#[c]⟩] W fun e w' => e = .returned (.bool true) ∧ w' = W from fun W => con_any c true (by rw [hcx]; simp; omega) W)
        have a1 : decide (x ≥ 97) = false := by simp; omega
        have a2 : decide (x ≤ 122) = true := by simp; omega
        have a3 : decide (x ≥ 48) = false := by simp; omega
        have a4 : decide (x ≤ 57) = true := by simp; omega
        have H0 := Lib.hid h
        clear h hcx
        go_wp2_with (go_at_call 95; refine (kc.out _).mono ?_; rintro e V ⟨rfl, rfl⟩)
        go_round
        case rel => exact ⟨k + 1, by omega, by go_num, upto_succ hg q.out⟩
        case measure => simp [intOf]; omega
      · have q : Hid (lgC s k = false) := by rw [Hid]; unfold lgC; rw [HX.out]; unfold lgN inB; simp; omega
        have kc := Lib.hid (show ∀ W : World, Calls Tryz.prog 95 #[.string ⟨#[32, 46, 45, 58]⟩, .string ⟨#[c]⟩] W fun e w' => e = .returned (.bool false) ∧ w' = W from fun W => con_any c false (by rw [hcx]; simp; omega) W)
        have a1 : decide (x ≥ 97) = false := by simp; omega
        have a2 : decide (x ≤ 122) = true := by simp; omega
        have a3 : decide (x ≥ 48) = false := by simp; omega
        have a4 : decide (x ≤ 57) = true := by simp; omega
        have H0 := Lib.hid h
        clear h hcx
        go_wp2_with (go_at_call 95; refine (kc.out _).mono ?_; rintro e V ⟨rfl, rfl⟩)
        go_ret
        exact ⟨ret_bool (textB_no hlt q.out).symm, bl_refl _⟩
      · have q : Hid (lgC s k = true) := by rw [Hid]; unfold lgC; rw [HX.out]; unfold lgN inB; simp; omega
        have kc := Lib.hid (show ∀ W : World, Calls Tryz.prog 95 #[.string ⟨#[32, 46, 45, 58]⟩, .string ⟨#[c]⟩] W fun e w' => e = .returned (.bool false) ∧ w' = W from fun W => con_any c false (by rw [hcx]; simp; omega) W)
        have a1 : decide (x ≥ 97) = false := by simp; omega
        have a2 : decide (x ≤ 122) = true := by simp; omega
        have a3 : decide (x ≥ 48) = true := by simp; omega
        have a4 : decide (x ≤ 57) = true := by simp; omega
        have H0 := Lib.hid h
        clear h hcx
        go_wp2_with (go_at_call 95; refine (kc.out _).mono ?_; rintro e V ⟨rfl, rfl⟩)
        go_round
        case rel => exact ⟨k + 1, by omega, by go_num, upto_succ hg q.out⟩
        case measure => simp [intOf]; omega
      · have q : Hid (lgC s k = true) := by rw [Hid]; unfold lgC; rw [HX.out]; unfold lgN inB; simp; omega
        have kc := Lib.hid (show ∀ W : World, Calls Tryz.prog 95 #[.string ⟨#[32, 46, 45, 58]⟩, .string ⟨#[c]⟩] W fun e w' => e = .returned (.bool true) ∧ w' = W from fun W => con_any c true (by rw [hcx]; simp; omega) W)
        have a1 : decide (x ≥ 97) = false := by simp; omega
        have a2 : decide (x ≤ 122) = true := by simp; omega
        have a3 : decide (x ≥ 48) = true := by simp; omega
        have a4 : decide (x ≤ 57) = false := by simp; omega
        have H0 := Lib.hid h
        clear h hcx
        go_wp2_with (go_at_call 95; refine (kc.out _).mono ?_; rintro e V ⟨rfl, rfl⟩)
        go_round
        case rel => exact ⟨k + 1, by omega, by go_num, upto_succ hg q.out⟩
        case measure => simp [intOf]; omega
      · have q : Hid (lgC s k = false) := by rw [Hid]; unfold lgC; rw [HX.out]; unfold lgN inB; simp; omega
        have kc := Lib.hid (show ∀ W : World, Calls Tryz.prog 95 #[.string ⟨#[32, 46, 45, 58]⟩, .string ⟨#[c]⟩] W fun e w' => e = .returned (.bool false) ∧ w' = W from fun W => con_any c false (by rw [hcx]; simp; omega) W)
        have a1 : decide (x ≥ 97) = false := by simp; omega
        have a2 : decide (x ≤ 122) = true := by simp; omega
        have a3 : decide (x ≥ 48) = true := by simp; omega
        have a4 : decide (x ≤ 57) = false := by simp; omega
        have H0 := Lib.hid h
        clear h hcx
        go_wp2_with (go_at_call 95; refine (kc.out _).mono ?_; rintro e V ⟨rfl, rfl⟩)
        go_ret
        exact ⟨ret_bool (textB_no hlt q.out).symm, bl_refl _⟩
      · have q : Hid (lgC s k = true) := by rw [Hid]; unfold lgC; rw [HX.out]; unfold lgN inB; simp; omega
        have kc := Lib.hid (show ∀ W : World, Calls Tryz.prog 95 #[.string ⟨#[32, 46, 45, 58]⟩, .string ⟨#[c]⟩] W fun e w' => e = .returned (.bool false) ∧ w' = W from fun W => con_any c false (by rw [hcx]; simp; omega) W)
        have a1 : decide (x ≥ 97) = true := by simp; omega
        have a2 : decide (x ≤ 122) = true := by simp; omega
        have a3 : decide (x ≥ 48) = true := by simp; omega
        have a4 : decide (x ≤ 57) = false := by simp; omega
        have H0 := Lib.hid h
        clear h hcx
        go_wp2_with (go_at_call 95; refine (kc.out _).mono ?_; rintro e V ⟨rfl, rfl⟩)
        go_round
        case rel => exact ⟨k + 1, by omega, by go_num, upto_succ hg q.out⟩
        case measure => simp [intOf]; omega
      · have q : Hid (lgC s k = false) := by rw [Hid]; unfold lgC; rw [HX.out]; unfold lgN inB; simp; omega
        have kc := Lib.hid (show ∀ W : World, Calls Tryz.prog 95 #[.string ⟨#[32, 46, 45, 58]⟩, .string ⟨#[c]⟩] W fun e w' => e = .returned (.bool false) ∧ w' = W from fun W => con_any c false (by rw [hcx]; simp; omega) W)
        have a1 : decide (x ≥ 97) = true := by simp; omega
        have a2 : decide (x ≤ 122) = false := by simp; omega
        have a3 : decide (x ≥ 48) = true := by simp; omega
        have a4 : decide (x ≤ 57) = false := by simp; omega
        have H0 := Lib.hid h
        clear h hcx
        go_wp2_with (go_at_call 95; refine (kc.out _).mono ?_; rintro e V ⟨rfl, rfl⟩)
        go_ret
        exact ⟨ret_bool (textB_no hlt q.out).symm, bl_refl _⟩
    · obtain rfl : k = s.size := by omega
      have hq := Lib.hid (textB_all hg.out)
      clear hg
      by_cases h1 : inB s.size 1 40 = true
      · have h1b := inB_iff.1 h1
        have h0 : 0 < s.size := by omega
        have h02 : (0 : Int) < s.size := by omega
        have hz : (s.size : Int) - 1 = ((s.size - 1 : Nat) : Int) := by omega
        have hw : IntKind.i64.wrap ((s.size : Int) - 1) = ((s.size - 1 : Nat) : Int) := by rw [IntWalk.i64_in _ (by omega)]; omega
        have hl1 : s.size - 1 < s.size := by omega
        have hl2 : ((s.size - 1 : Nat) : Int) < s.size := by omega
        have hl3 : (0 : Int) ≤ ((s.size - 1 : Nat) : Int) := by omega
        by_cases h2 : bt s 0 = 32
        · have q : Hid (textB s = false) := by rw [Hid, hq.out, endB, h1, h2]; simp
          have e1 : (bt s 0 != 32) = false := by simp [h2]
          go_wp2_with (go_at_call 44; refine (inside_any _ _ _ _).mono ?_; rintro e V ⟨rfl, rfl⟩)
          go_ret
          exact ⟨ret_bool q.out.symm, bl_refl _⟩
        · have e1 : (bt s 0 != 32) = true := by simpa using h2
          by_cases h3 : bt s (s.size - 1) = 32
          · have q : Hid (textB s = false) := by rw [Hid, hq.out, endB, h1, h3]; simp
            have e2 : (bt s (s.size - 1) != 32) = false := by simp [h3]
            go_wp2_with (go_at_call 44; refine (inside_any _ _ _ _).mono ?_; rintro e V ⟨rfl, rfl⟩)
            go_ret
            exact ⟨ret_bool q.out.symm, bl_refl _⟩
          · have q : Hid (textB s = true) := by rw [Hid, hq.out, endB, h1]; simp [h2, h3]
            have e2 : (bt s (s.size - 1) != 32) = true := by simpa using h3
            go_wp2_with (go_at_call 44; refine (inside_any _ _ _ _).mono ?_; rintro e V ⟨rfl, rfl⟩)
            go_ret
            exact ⟨ret_bool q.out.symm, bl_refl _⟩
      · have h1 : inB s.size 1 40 = false := by simpa using h1
        have q : Hid (textB s = false) := by rw [Hid, hq.out, endB, h1]; simp
        go_wp2_with (go_at_call 44; refine (inside_any _ _ _ _).mono ?_; rintro e V ⟨rfl, rfl⟩)
        go_ret
        exact ⟨ret_bool q.out.symm, bl_refl _⟩
end Go.Proofs.YtfglmghcgoembaaGreatDoor
