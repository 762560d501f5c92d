/-
  Valid entries and logs, the program's. No conditions.
-/
import Derived.Test.YtfglmghcgoembaaGreatDoorHiL
import Derived.Test.YtfglmghcgoembaaGreatDoorHiX
namespace Go.Proofs.YtfglmghcgoembaaGreatDoor
open Go.RowKit

set_option maxHeartbeats 2000000 in
theorem isEntry_any (x : Entry) (w : World) (hx : x.Text.size ≤ maxLen) :
    Calls Tryz.prog 64 #[.agg #[.int .i64 x.Room, .int .i64 x.Number, .int .i64 x.Minute, .string x.Text]] w fun e w' => e = .returned (.bool (entB x)) ∧ Below w.heap.size w w' := by
  obtain ⟨b1, e1⟩ : ∃ b, inB x.Room 1 2 = b := ⟨_, rfl⟩
  obtain ⟨b2, e2⟩ : ∃ b, inB x.Number 1 999 = b := ⟨_, rfl⟩
  obtain ⟨b3, e3⟩ : ∃ b, inB x.Minute 0 99999 = b := ⟨_, rfl⟩
  obtain ⟨b4, e4⟩ : ∃ b, textB x.Text = b := ⟨_, rfl⟩
  have q : Hid (entB x = (b1 && b2 && b3 && b4)) := by rw [Hid, entB, e1, e2, e3, e4]
  have k1 := Lib.hid (show ∀ W : World, Calls Tryz.prog 43 #[.int .i64 x.Room] W fun e w' => e = .returned (.bool b1) ∧ w' = W from fun W => by have h := isRoom_any x.Room W; rw [e1] at h; exact h)
  have k2 := Lib.hid (show ∀ W : World, Calls Tryz.prog 44 #[.int .i64 x.Number, .int .i64 1, .int .i64 999] W fun e w' => e = .returned (.bool b2) ∧ w' = W from fun W => by have h := inside_any x.Number 1 999 W; rw [e2] at h; exact h)
  have k3 := Lib.hid (show ∀ W : World, Calls Tryz.prog 76 #[.int .i64 x.Minute] W fun e w' => e = .returned (.bool b3) ∧ w' = W from fun W => by have h := isLogMinute_any x.Minute W; rw [e3] at h; exact h)
  have k4 := Lib.hid (show ∀ W : World, Calls Tryz.prog 77 #[.string x.Text] W fun e w' => e = .returned (.bool b4) ∧ Below W.heap.size W w' from fun W => by have h := isText_any x.Text W hx; rw [e4] at h; exact h)
  clear e1 e2 e3 e4
  cases b1
  · go_enter Tryz.func64, Tryz.ntmps64
    go_wp2_with (first | (go_at_call 43; refine (k1.out _).mono ?_; rintro e V ⟨rfl, rfl⟩) | (go_at_call 44; refine (k2.out _).mono ?_; rintro e V ⟨rfl, rfl⟩) | (go_at_call 76; refine (k3.out _).mono ?_; rintro e V ⟨rfl, rfl⟩) | (go_at_call 77; refine (k4.out _).mono ?_; rintro e V ⟨rfl, hV⟩))
    go_ret
    exact ⟨ret_bool (by rw [q.out]; rfl), (by repeat' (first | exact bl_refl _ | refine bl_alloc ?_ _))⟩
  · cases b2
    · go_enter Tryz.func64, Tryz.ntmps64
      go_wp2_with (first | (go_at_call 43; refine (k1.out _).mono ?_; rintro e V ⟨rfl, rfl⟩) | (go_at_call 44; refine (k2.out _).mono ?_; rintro e V ⟨rfl, rfl⟩) | (go_at_call 76; refine (k3.out _).mono ?_; rintro e V ⟨rfl, rfl⟩) | (go_at_call 77; refine (k4.out _).mono ?_; rintro e V ⟨rfl, hV⟩))
      go_ret
      exact ⟨ret_bool (by rw [q.out]; rfl), (by repeat' (first | exact bl_refl _ | refine bl_alloc ?_ _))⟩
    · cases b3
      · go_enter Tryz.func64, Tryz.ntmps64
        go_wp2_with (first | (go_at_call 43; refine (k1.out _).mono ?_; rintro e V ⟨rfl, rfl⟩) | (go_at_call 44; refine (k2.out _).mono ?_; rintro e V ⟨rfl, rfl⟩) | (go_at_call 76; refine (k3.out _).mono ?_; rintro e V ⟨rfl, rfl⟩) | (go_at_call 77; refine (k4.out _).mono ?_; rintro e V ⟨rfl, hV⟩))
        go_ret
        exact ⟨ret_bool (by rw [q.out]; rfl), (by repeat' (first | exact bl_refl _ | refine bl_alloc ?_ _))⟩
      · cases b4
        · go_enter Tryz.func64, Tryz.ntmps64
          go_wp2_with (first | (go_at_call 43; refine (k1.out _).mono ?_; rintro e V ⟨rfl, rfl⟩) | (go_at_call 44; refine (k2.out _).mono ?_; rintro e V ⟨rfl, rfl⟩) | (go_at_call 76; refine (k3.out _).mono ?_; rintro e V ⟨rfl, rfl⟩) | (go_at_call 77; refine (k4.out _).mono ?_; rintro e V ⟨rfl, hV⟩))
          go_ret
          exact ⟨ret_bool (by rw [q.out]; rfl), bl_trans (bl_alloc (bl_refl _) _) hV⟩
        · go_enter Tryz.func64, Tryz.ntmps64
          go_wp2_with (first | (go_at_call 43; refine (k1.out _).mono ?_; rintro e V ⟨rfl, rfl⟩) | (go_at_call 44; refine (k2.out _).mono ?_; rintro e V ⟨rfl, rfl⟩) | (go_at_call 76; refine (k3.out _).mono ?_; rintro e V ⟨rfl, rfl⟩) | (go_at_call 77; refine (k4.out _).mono ?_; rintro e V ⟨rfl, hV⟩))
          go_ret
          exact ⟨ret_bool (by rw [q.out]; rfl), bl_trans (bl_alloc (bl_refl _) _) hV⟩
set_option maxHeartbeats 8000000 in
theorem isLog_any (l : List Entry) (A : Option Addr) (n c : Nat) (w : World) (hn : n ≤ 1048576) (hs : Sl w A n l) (hv : ∀ x, x ∈ l → x.Text.size ≤ maxLen) :
    Calls Tryz.prog 40 #[.slice A n c] w fun e w' => e = .returned (.bool (lgB l)) ∧ Below w.heap.size w w' := by
  have HV := Lib.hid hv
  clear hv
  have HL := Lib.hid hs.1
  go_enter Tryz.func40, Tryz.ntmps40
  go_wp2
  go_loopw [7] (fun i wr => ∃ k : Nat, k ≤ n ∧ i = .int .i64 k ∧ Below w.heap.size w wr ∧ Hid (∀ j, j < k → lgAt l j = true)) (fun i _ => n - (intOf i).toNat)
  case atStart => exact ⟨0, Nat.zero_le _, rfl, Below.refl _ _, fun j hj => absurd hj (by omega)⟩
  case round =>
    obtain ⟨k, hk, rfl, hb, hg⟩ := hrel
    by_cases hlt : k < n
    · have hs' := hs.below hb
      obtain ⟨b, o, rfl, hbz, c0, c1, c2, c3⟩ := hs'.entry hlt
      clear hs
      have hkx : Hid (k < l.length) := by rw [Hid, HL.out]; exact hlt
      have hszh := Lib.hid (HV.out _ (nth_mem hkx.out))
      obtain ⟨x, hx⟩ : ∃ x, x = nth l k := ⟨_, rfl⟩
      have HX0 := Lib.hid hx
      rw [← hx] at c0 c1 c2 c3 hszh
      have hz2 := hs'.flat2 (k := 0) (by omega)
      have z0 : wr.cell? ⟨b, o, none⟩ = some (.int .i64 (nth l 0).Room) := by have := hz2 0 _ rfl; simpa using this
      obtain ⟨z, hz⟩ : ∃ z, z = nth l 0 := ⟨_, rfl⟩
      have HZ0 := Lib.hid hz
      rw [← hz] at z0
      clear hx hz hz2
      have hk1 : (k : Int) < n := by omega
      have h0n : (0 : Int) < n := by omega
      have hw1 : IntKind.i64.wrap ((k : Int) + 1) = (k : Int) + 1 := IntWalk.i64_in _ (by omega)
      cases g0 : entB x
      · have kb := Lib.hid (show ∀ W : World, Calls Tryz.prog 64 #[.agg #[.int .i64 x.Room, .int .i64 x.Number, .int .i64 x.Minute, .string x.Text]] W fun e w' => e = .returned (.bool false) ∧ Below W.heap.size W w' from fun W => by have h := isEntry_any x W hszh.out; rw [g0] at h; exact h)
        have G0 : Hid (entB (nth l k) = false) := by rw [Hid, ← HX0.out]; exact g0
        clear g0 hs'
        go_wp2_with fail
        refine wp_region_grow (by kernel_rfl) (by kernel_rfl) (fun X hX => ?_)
        have hbX : Below wr.heap.size wr X := by rw [hX]; exact bl_alloc (bl_refl _) _
        have r0 : X.cell? ⟨wr.heap.size, 0, none⟩ = some (.int .i64 x.Room) := by rw [hX]; go_simp
        have r1 : X.cell? ⟨wr.heap.size, 1, none⟩ = some (.int .i64 x.Number) := by rw [hX]; go_simp
        have r2 : X.cell? ⟨wr.heap.size, 2, none⟩ = some (.int .i64 x.Minute) := by rw [hX]; go_simp
        have r3 : X.cell? ⟨wr.heap.size, 3, none⟩ = some (.string x.Text) := by rw [hX]; go_simp
        have y0 := cell_later hbX z0
        have q0 := Gw.cell r0
        have q1 := Gw.cell r1
        have q2 := Gw.cell r2
        have q3 := Gw.cell r3
        have q4 := Gw.cell y0
        have HX := Lib.hid hX
        clear hX c0 c1 c2 c3 z0
        repeat (go_big_quiet_step ((go_at_call 64; exact Calls.grow_of (kb.out _))))
        refine wpGrow_nil (fun V hV => ?_)
        have hbV := bl_trans hb (bl_trans hbX hV)
        clear hV hbX kb y0 q4 r0 q0 r1 q1 r2 q2 r3 q3
        go_wp2
        go_ret
        exact ⟨ret_bool (lgB_no hkx.out (lgAt_0 G0.out)).symm, hbV⟩
      · by_cases hm : x.Number = (k : Int) + 1
        · have hm' : (x.Number != (k : Int) + 1) = false := by simpa using hm
          have GM : Hid ((nth l k).Number = (k : Int) + 1) := by rw [Hid, ← HX0.out]; exact hm
          clear hm
          by_cases hr : x.Room = z.Room
          · have hr' : (x.Room != z.Room) = false := by simpa using hr
            have GR : Hid ((nth l k).Room = (nth l 0).Room) := by rw [Hid, ← HX0.out, ← HZ0.out]; exact hr
            clear hr
            by_cases hk0 : 0 < k
            · have h2 := hs'.flat2 (k := k - 1) (by omega)
              have p2 : wr.cell? ⟨b, o + (k - 1) * 4 + 2, none⟩ = some (.int .i64 (nth l (k - 1)).Minute) := h2 2 _ rfl
              obtain ⟨p, hp⟩ : ∃ p, p = nth l (k - 1) := ⟨_, rfl⟩
              have HP0 := Lib.hid hp
              rw [← hp] at p2
              clear hp h2
              have hkd : decide ((k : Int) > 0) = true := by simpa using hk0
              have hkd2 : decide (0 < k) = true := decide_eq_true hk0
              have hw2 : IntKind.i64.wrap ((k : Int) - 1) = ((k - 1 : Nat) : Int) := by rw [IntWalk.i64_in _ (by omega)]; omega
              have i2 : (0 : Int) ≤ ((k - 1 : Nat) : Int) := by omega
              have i4 : ((k - 1 : Nat) : Int) < n := by omega
              have i5 : k - 1 < n := by omega
              have kb := Lib.hid (show ∀ W : World, Calls Tryz.prog 64 #[.agg #[.int .i64 x.Room, .int .i64 x.Number, .int .i64 x.Minute, .string x.Text]] W fun e w' => e = .returned (.bool true) ∧ Below W.heap.size W w' from fun W => by have h := isEntry_any x W hszh.out; rw [g0] at h; exact h)
              have G0 : Hid (entB (nth l k) = true) := by rw [Hid, ← HX0.out]; exact g0
              clear g0 hs'
              by_cases ht : x.Minute < p.Minute
              · have ht' : decide (p.Minute > x.Minute) = true := by simp; omega
                have GT : Hid ( (nth l k).Minute < (nth l (k - 1)).Minute) := by rw [Hid, ← HX0.out, ← HP0.out]; exact ht
                have GK := Lib.hid hk0
                clear ht hk0
                go_wp2_with fail
                refine wp_region_grow (by kernel_rfl) (by kernel_rfl) (fun X hX => ?_)
                have hbX : Below wr.heap.size wr X := by rw [hX]; exact bl_alloc (bl_refl _) _
                have r0 : X.cell? ⟨wr.heap.size, 0, none⟩ = some (.int .i64 x.Room) := by rw [hX]; go_simp
                have r1 : X.cell? ⟨wr.heap.size, 1, none⟩ = some (.int .i64 x.Number) := by rw [hX]; go_simp
                have r2 : X.cell? ⟨wr.heap.size, 2, none⟩ = some (.int .i64 x.Minute) := by rw [hX]; go_simp
                have r3 : X.cell? ⟨wr.heap.size, 3, none⟩ = some (.string x.Text) := by rw [hX]; go_simp
                have y0 := cell_later hbX z0
                have y1 := cell_later hbX p2
                have q0 := Gw.cell r0
                have q1 := Gw.cell r1
                have q2 := Gw.cell r2
                have q3 := Gw.cell r3
                have q4 := Gw.cell y0
                have q5 := Gw.cell y1
                have HX := Lib.hid hX
                clear hX c0 c1 c2 c3 z0 p2
                repeat (go_big_quiet_step ((go_at_call 64; exact Calls.grow_of (kb.out _))))
                refine wpGrow_nil (fun V hV => ?_)
                have hbV := bl_trans hb (bl_trans hbX hV)
                clear hV hbX kb y0 q4 r0 q0 r1 q1 r2 q2 r3 q3 y1 q5
                go_wp2
                go_ret
                exact ⟨ret_bool (lgB_no hkx.out (lgAt_3 GK.out GT.out)).symm, hbV⟩
              · have ht' : decide (p.Minute > x.Minute) = false := by simp; omega
                have GT : Hid (¬ (nth l k).Minute < (nth l (k - 1)).Minute) := by rw [Hid, ← HX0.out, ← HP0.out]; exact ht
                have GK := Lib.hid hk0
                clear ht hk0
                go_wp2_with fail
                refine wp_region_grow (by kernel_rfl) (by kernel_rfl) (fun X hX => ?_)
                have hbX : Below wr.heap.size wr X := by rw [hX]; exact bl_alloc (bl_refl _) _
                have r0 : X.cell? ⟨wr.heap.size, 0, none⟩ = some (.int .i64 x.Room) := by rw [hX]; go_simp
                have r1 : X.cell? ⟨wr.heap.size, 1, none⟩ = some (.int .i64 x.Number) := by rw [hX]; go_simp
                have r2 : X.cell? ⟨wr.heap.size, 2, none⟩ = some (.int .i64 x.Minute) := by rw [hX]; go_simp
                have r3 : X.cell? ⟨wr.heap.size, 3, none⟩ = some (.string x.Text) := by rw [hX]; go_simp
                have y0 := cell_later hbX z0
                have y1 := cell_later hbX p2
                have q0 := Gw.cell r0
                have q1 := Gw.cell r1
                have q2 := Gw.cell r2
                have q3 := Gw.cell r3
                have q4 := Gw.cell y0
                have q5 := Gw.cell y1
                have HX := Lib.hid hX
                clear hX c0 c1 c2 c3 z0 p2
                repeat (go_big_quiet_step ((go_at_call 64; exact Calls.grow_of (kb.out _))))
                refine wpGrow_nil (fun V hV => ?_)
                have hbV := bl_trans hb (bl_trans hbX hV)
                clear hV hbX kb y0 q4 r0 q0 r1 q1 r2 q2 r3 q3 y1 q5
                go_wp2
                go_roundw
                case rel => exact ⟨k + 1, by omega, by go_num, hbV, upto_succ hg (lgAt_y G0.out GM.out GR.out (.inr (Int.not_lt.2 GT.out)))⟩
                case measure => simp [intOf]; omega
            · have kb := Lib.hid (show ∀ W : World, Calls Tryz.prog 64 #[.agg #[.int .i64 x.Room, .int .i64 x.Number, .int .i64 x.Minute, .string x.Text]] W fun e w' => e = .returned (.bool true) ∧ Below W.heap.size W w' from fun W => by have h := isEntry_any x W hszh.out; rw [g0] at h; exact h)
              have G0 : Hid (entB (nth l k) = true) := by rw [Hid, ← HX0.out]; exact g0
              clear g0 hs'
              have hkd : decide ((k : Int) > 0) = false := by simp; omega
              have hkd2 : decide (0 < k) = false := decide_eq_false hk0
              have GK := Lib.hid hk0
              clear hk0
              go_wp2_with fail
              refine wp_region_grow (by kernel_rfl) (by kernel_rfl) (fun X hX => ?_)
              have hbX : Below wr.heap.size wr X := by rw [hX]; exact bl_alloc (bl_refl _) _
              have r0 : X.cell? ⟨wr.heap.size, 0, none⟩ = some (.int .i64 x.Room) := by rw [hX]; go_simp
              have r1 : X.cell? ⟨wr.heap.size, 1, none⟩ = some (.int .i64 x.Number) := by rw [hX]; go_simp
              have r2 : X.cell? ⟨wr.heap.size, 2, none⟩ = some (.int .i64 x.Minute) := by rw [hX]; go_simp
              have r3 : X.cell? ⟨wr.heap.size, 3, none⟩ = some (.string x.Text) := by rw [hX]; go_simp
              have y0 := cell_later hbX z0
              have q0 := Gw.cell r0
              have q1 := Gw.cell r1
              have q2 := Gw.cell r2
              have q3 := Gw.cell r3
              have q4 := Gw.cell y0
              have HX := Lib.hid hX
              clear hX c0 c1 c2 c3 z0
              repeat (go_big_quiet_step ((go_at_call 64; exact Calls.grow_of (kb.out _))))
              refine wpGrow_nil (fun V hV => ?_)
              have hbV := bl_trans hb (bl_trans hbX hV)
              clear hV hbX kb y0 q4 r0 q0 r1 q1 r2 q2 r3 q3
              go_wp2
              go_roundw
              case rel => exact ⟨k + 1, by omega, by go_num, hbV, upto_succ hg (lgAt_y G0.out GM.out GR.out (.inl GK.out))⟩
              case measure => simp [intOf]; omega
          · have hr' : (x.Room != z.Room) = true := by simpa using hr
            have GR : Hid (¬ (nth l k).Room = (nth l 0).Room) := by rw [Hid, ← HX0.out, ← HZ0.out]; exact hr
            clear hr
            have kb := Lib.hid (show ∀ W : World, Calls Tryz.prog 64 #[.agg #[.int .i64 x.Room, .int .i64 x.Number, .int .i64 x.Minute, .string x.Text]] W fun e w' => e = .returned (.bool true) ∧ Below W.heap.size W w' from fun W => by have h := isEntry_any x W hszh.out; rw [g0] at h; exact h)
            have G0 : Hid (entB (nth l k) = true) := by rw [Hid, ← HX0.out]; exact g0
            clear g0 hs'
            go_wp2_with fail
            refine wp_region_grow (by kernel_rfl) (by kernel_rfl) (fun X hX => ?_)
            have hbX : Below wr.heap.size wr X := by rw [hX]; exact bl_alloc (bl_refl _) _
            have r0 : X.cell? ⟨wr.heap.size, 0, none⟩ = some (.int .i64 x.Room) := by rw [hX]; go_simp
            have r1 : X.cell? ⟨wr.heap.size, 1, none⟩ = some (.int .i64 x.Number) := by rw [hX]; go_simp
            have r2 : X.cell? ⟨wr.heap.size, 2, none⟩ = some (.int .i64 x.Minute) := by rw [hX]; go_simp
            have r3 : X.cell? ⟨wr.heap.size, 3, none⟩ = some (.string x.Text) := by rw [hX]; go_simp
            have y0 := cell_later hbX z0
            have q0 := Gw.cell r0
            have q1 := Gw.cell r1
            have q2 := Gw.cell r2
            have q3 := Gw.cell r3
            have q4 := Gw.cell y0
            have HX := Lib.hid hX
            clear hX c0 c1 c2 c3 z0
            repeat (go_big_quiet_step ((go_at_call 64; exact Calls.grow_of (kb.out _))))
            refine wpGrow_nil (fun V hV => ?_)
            have hbV := bl_trans hb (bl_trans hbX hV)
            clear hV hbX kb y0 q4 r0 q0 r1 q1 r2 q2 r3 q3
            go_wp2
            go_ret
            exact ⟨ret_bool (lgB_no hkx.out (lgAt_2 GR.out)).symm, hbV⟩
        · have hm' : (x.Number != (k : Int) + 1) = true := by simpa using hm
          have GM : Hid (¬ (nth l k).Number = (k : Int) + 1) := by rw [Hid, ← HX0.out]; exact hm
          clear hm
          by_cases hr : x.Room = z.Room
          · have hr' : (x.Room != z.Room) = false := by simpa using hr
            have GR : Hid ((nth l k).Room = (nth l 0).Room) := by rw [Hid, ← HX0.out, ← HZ0.out]; exact hr
            clear hr
            have kb := Lib.hid (show ∀ W : World, Calls Tryz.prog 64 #[.agg #[.int .i64 x.Room, .int .i64 x.Number, .int .i64 x.Minute, .string x.Text]] W fun e w' => e = .returned (.bool true) ∧ Below W.heap.size W w' from fun W => by have h := isEntry_any x W hszh.out; rw [g0] at h; exact h)
            have G0 : Hid (entB (nth l k) = true) := by rw [Hid, ← HX0.out]; exact g0
            clear g0 hs'
            go_wp2_with fail
            refine wp_region_grow (by kernel_rfl) (by kernel_rfl) (fun X hX => ?_)
            have hbX : Below wr.heap.size wr X := by rw [hX]; exact bl_alloc (bl_refl _) _
            have r0 : X.cell? ⟨wr.heap.size, 0, none⟩ = some (.int .i64 x.Room) := by rw [hX]; go_simp
            have r1 : X.cell? ⟨wr.heap.size, 1, none⟩ = some (.int .i64 x.Number) := by rw [hX]; go_simp
            have r2 : X.cell? ⟨wr.heap.size, 2, none⟩ = some (.int .i64 x.Minute) := by rw [hX]; go_simp
            have r3 : X.cell? ⟨wr.heap.size, 3, none⟩ = some (.string x.Text) := by rw [hX]; go_simp
            have y0 := cell_later hbX z0
            have q0 := Gw.cell r0
            have q1 := Gw.cell r1
            have q2 := Gw.cell r2
            have q3 := Gw.cell r3
            have q4 := Gw.cell y0
            have HX := Lib.hid hX
            clear hX c0 c1 c2 c3 z0
            repeat (go_big_quiet_step ((go_at_call 64; exact Calls.grow_of (kb.out _))))
            refine wpGrow_nil (fun V hV => ?_)
            have hbV := bl_trans hb (bl_trans hbX hV)
            clear hV hbX kb y0 q4 r0 q0 r1 q1 r2 q2 r3 q3
            go_wp2
            go_ret
            exact ⟨ret_bool (lgB_no hkx.out (lgAt_1 GM.out)).symm, hbV⟩
          · have hr' : (x.Room != z.Room) = true := by simpa using hr
            have GR : Hid (¬ (nth l k).Room = (nth l 0).Room) := by rw [Hid, ← HX0.out, ← HZ0.out]; exact hr
            clear hr
            have kb := Lib.hid (show ∀ W : World, Calls Tryz.prog 64 #[.agg #[.int .i64 x.Room, .int .i64 x.Number, .int .i64 x.Minute, .string x.Text]] W fun e w' => e = .returned (.bool true) ∧ Below W.heap.size W w' from fun W => by have h := isEntry_any x W hszh.out; rw [g0] at h; exact h)
            have G0 : Hid (entB (nth l k) = true) := by rw [Hid, ← HX0.out]; exact g0
            clear g0 hs'
            go_wp2_with fail
            refine wp_region_grow (by kernel_rfl) (by kernel_rfl) (fun X hX => ?_)
            have hbX : Below wr.heap.size wr X := by rw [hX]; exact bl_alloc (bl_refl _) _
            have r0 : X.cell? ⟨wr.heap.size, 0, none⟩ = some (.int .i64 x.Room) := by rw [hX]; go_simp
            have r1 : X.cell? ⟨wr.heap.size, 1, none⟩ = some (.int .i64 x.Number) := by rw [hX]; go_simp
            have r2 : X.cell? ⟨wr.heap.size, 2, none⟩ = some (.int .i64 x.Minute) := by rw [hX]; go_simp
            have r3 : X.cell? ⟨wr.heap.size, 3, none⟩ = some (.string x.Text) := by rw [hX]; go_simp
            have y0 := cell_later hbX z0
            have q0 := Gw.cell r0
            have q1 := Gw.cell r1
            have q2 := Gw.cell r2
            have q3 := Gw.cell r3
            have q4 := Gw.cell y0
            have HX := Lib.hid hX
            clear hX c0 c1 c2 c3 z0
            repeat (go_big_quiet_step ((go_at_call 64; exact Calls.grow_of (kb.out _))))
            refine wpGrow_nil (fun V hV => ?_)
            have hbV := bl_trans hb (bl_trans hbX hV)
            clear hV hbX kb y0 q4 r0 q0 r1 q1 r2 q2 r3 q3
            go_wp2
            go_ret
            exact ⟨ret_bool (lgB_no hkx.out (lgAt_1 GM.out)).symm, hbV⟩
    · obtain rfl : k = n := by omega
      have hd : decide ((k : Int) ≤ 20) = decide (k ≤ 20) := by by_cases h : k ≤ 20 <;> simp [h] <;> omega
      go_wp2
      go_ret
      refine ⟨ret_bool ?_, hb⟩
      rw [lgB_all (by rw [HL.out]; exact hg), HL.out]
      try simp
      try omega
end Go.Proofs.YtfglmghcgoembaaGreatDoor
