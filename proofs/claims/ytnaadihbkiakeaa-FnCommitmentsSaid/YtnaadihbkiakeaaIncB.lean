/-
  Incidents: the reference's test of one answers incB. No conditions.
-/
import Derived.Test.YtnaadihbkiakeaaIncA
namespace Go.Proofs.Ytnaadihbkiakeaa
open Go.RowKit

set_option maxRecDepth 100000 in
set_option maxHeartbeats 4000000 in
theorem ixOne_f (number node : Int) (xs : List ByteArray) (A : Option Addr) (n c : Nat) (w : World) (hn : (n : Int) ≤ 9223372036854775807) (hs : Sl w A n xs) (hv : ∀ x, x ∈ xs → x.size ≤ maxLen) :
    Calls Try.prog 137 #[.agg #[.int .i64 number, .int .i64 node, .bool false, .slice A n c]] w fun e w' => e = .returned (.bool (incB number node false xs)) ∧ Below w.heap.size w w' := by
  have HV := Lib.hid hv
  have HL := Lib.hid hs.1
  clear hv
  go_enter Try.func137, Try.ntmps137
  have hk0 := bl_refl w
  go_wp2_with fail
  refine (l1In_any number 1 999 _).mono ?_
  rintro _ _ ⟨rfl, rfl⟩
  cases h0 : inB number 1 999
  · have q : Hid (incB number node false xs = false) := inc_0 (by rw [HL.out]; unfold baseB; rw [h0]; rfl)
    go_wp2
    go_ret
    exact ⟨ret_bool q.out.symm, (bl_alloc (bl_refl w) (.cells #[.int .i64 number, .int .i64 node, .bool false, .slice A n c] 76))⟩
  have H0 := Lib.hid h0
  clear h0
  go_wp2_with fail
  refine (apNode_any node _).mono ?_
  rintro _ _ ⟨rfl, rfl⟩
  cases h1 : inB node 0 13
  · have q : Hid (incB number node false xs = false) := inc_0 (by rw [HL.out]; unfold baseB; rw [h1]; simp)
    go_wp2
    go_ret
    exact ⟨ret_bool q.out.symm, (bl_alloc (bl_refl w) (.cells #[.int .i64 number, .int .i64 node, .bool false, .slice A n c] 76))⟩
  have H1 := Lib.hid h1
  clear h1
  by_cases hl : n ≤ 12
  rotate_left
  · have hd : decide ((n : Int) > 12) = true := by simp; omega
    have q : Hid (incB number node false xs = false) := inc_0 (by rw [HL.out]; unfold baseB; rw [decide_eq_false hl]; simp)
    go_wp2
    go_ret
    exact ⟨ret_bool q.out.symm, (bl_alloc (bl_refl w) (.cells #[.int .i64 number, .int .i64 node, .bool false, .slice A n c] 76))⟩
  have hd : decide ((n : Int) > 12) = false := by simp; omega
  have HB : Hid (baseB number node false xs.length = true) := by rw [Hid, HL.out, baseB, H0.out, H1.out, decide_eq_true hl]; rfl
  go_wp2_with fail
  refine (dsNames_any xs _ _ _ _ hn (hs.below (by repeat' (first | exact bl_refl _ | refine bl_alloc ?_ _ | refine bl_drew ?_ | refine bl_drewN ?_ _ | refine bl_set ?_ ?_ _ | (simp; done) | (simp; omega))))).mono ?_
  rintro _ _ ⟨rfl, rfl⟩
  cases h2 : sortB xs
  · have q : Hid (incB number node false xs = false) := inc_1 h2
    clear h2
    go_wp2
    go_ret
    exact ⟨ret_bool q.out.symm, (bl_alloc (bl_refl w) (.cells #[.int .i64 number, .int .i64 node, .bool false, .slice A n c] 76))⟩
  have H2 := Lib.hid h2
  clear h2
  go_wp2
  obtain ⟨W, hW⟩ : ∃ W, W = w.alloc (.cells #[.int .i64 number, .int .i64 node, .bool false, .slice A n c] 76) := ⟨_, rfl⟩
  rw [← hW]
  have hkW : Below w.heap.size w W := by rw [hW]; exact bl_alloc (bl_refl _) _
  have x3 : W.cell? ⟨w.heap.size, 3, none⟩ = some (.slice A n c) := by rw [hW]; go_simp
  have HW := Lib.hid hW
  clear hW
  go_loopw [40] (fun i wr => ∃ k : Nat, k ≤ n ∧ i = .int .i64 k ∧ Hid (∀ j, j < k → nameB (nth xs j) = true) ∧ Below W.heap.size W wr) (fun i _ => n - (intOf i).toNat)
  case atStart => exact ⟨0, Nat.zero_le _, rfl, fun j hj => absurd hj (by omega), bl_refl _⟩
  case round =>
    obtain ⟨k, hk, rfl, hg, hb⟩ := hrel
    have hbw := bl_trans hkW hb
    by_cases hlt : k < n
    · obtain ⟨b, o, rfl, _, c0⟩ := (hs.below hbw).str hlt
      have hkx : Hid (k < xs.length) := by rw [Hid, HL.out]; exact hlt
      have hszh := Lib.hid (HV.out _ (nth_mem hkx.out))
      clear hs
      go_wp2_with fail
      refine (apName_any (nth xs k) _ hszh.out).mono ?_
      rintro e V ⟨rfl, hV⟩
      have hbV := bl_trans hb hV
      clear c0
      cases hp : nameB (nth xs k)
      · have q : Hid (incB number node false xs = false) := inc_2 (allB_false (p := fun k => nameB (nth xs k)) hkx.out hp)
        clear hp
        go_wp2
        go_ret
        exact ⟨ret_bool q.out.symm, bl_trans hkW hbV⟩
      · have hp2 := Lib.hid hp
        clear hp
        go_wp2
        go_roundw
        case rel => exact ⟨k + 1, by omega, by go_num, upto_succ hg hp2.out, hbV⟩
        case measure => simp [intOf]; omega
    · obtain rfl : k = n := by omega
      have q : Hid (incB number node false xs = true) := inc_y HB.out H2.out (allB_true (by rw [HL.out]; exact hg.out))
      go_wp2
      go_ret
      exact ⟨ret_bool q.out.symm, hbw⟩
set_option maxRecDepth 100000 in
set_option maxHeartbeats 4000000 in
theorem ixOne_t (number node : Int) (xs : List ByteArray) (A : Option Addr) (n c : Nat) (w : World) (hn : (n : Int) ≤ 9223372036854775807) (hs : Sl w A n xs) (hv : ∀ x, x ∈ xs → x.size ≤ maxLen) :
    Calls Try.prog 137 #[.agg #[.int .i64 number, .int .i64 node, .bool true, .slice A n c]] w fun e w' => e = .returned (.bool (incB number node true xs)) ∧ Below w.heap.size w w' := by
  have HV := Lib.hid hv
  have HL := Lib.hid hs.1
  clear hv
  go_enter Try.func137, Try.ntmps137
  have hk0 := bl_refl w
  go_wp2_with fail
  refine (l1In_any number 1 999 _).mono ?_
  rintro _ _ ⟨rfl, rfl⟩
  cases h0 : inB number 1 999
  · have q : Hid (incB number node true xs = false) := inc_0 (by rw [HL.out]; unfold baseB; rw [h0]; rfl)
    go_wp2
    go_ret
    exact ⟨ret_bool q.out.symm, (bl_alloc (bl_refl w) (.cells #[.int .i64 number, .int .i64 node, .bool true, .slice A n c] 76))⟩
  have H0 := Lib.hid h0
  clear h0
  go_wp2_with fail
  refine (apNode_any node _).mono ?_
  rintro _ _ ⟨rfl, rfl⟩
  cases h1 : inB node 0 13
  · have q : Hid (incB number node true xs = false) := inc_0 (by rw [HL.out]; unfold baseB; rw [h1]; simp)
    go_wp2
    go_ret
    exact ⟨ret_bool q.out.symm, (bl_alloc (bl_refl w) (.cells #[.int .i64 number, .int .i64 node, .bool true, .slice A n c] 76))⟩
  have H1 := Lib.hid h1
  clear h1
  by_cases hl : n ≤ 12
  rotate_left
  · have hd : decide ((n : Int) > 12) = true := by simp; omega
    have q : Hid (incB number node true xs = false) := inc_0 (by rw [HL.out]; unfold baseB; rw [decide_eq_false hl]; simp)
    go_wp2
    go_ret
    exact ⟨ret_bool q.out.symm, (bl_alloc (bl_refl w) (.cells #[.int .i64 number, .int .i64 node, .bool true, .slice A n c] 76))⟩
  have hd : decide ((n : Int) > 12) = false := by simp; omega
  by_cases hc : 0 < n
  · have hd2 : decide ((n : Int) > 0) = true := by simp; omega
    have q : Hid (incB number node true xs = false) := inc_0 (by rw [HL.out]; unfold baseB; rw [decide_eq_true hc]; simp)
    go_wp2
    go_ret
    exact ⟨ret_bool q.out.symm, (bl_alloc (bl_refl w) (.cells #[.int .i64 number, .int .i64 node, .bool true, .slice A n c] 76))⟩
  have hd2 : decide ((n : Int) > 0) = false := by simp; omega
  have HB : Hid (baseB number node true xs.length = true) := by rw [Hid, HL.out, baseB, H0.out, H1.out, decide_eq_true hl]; rw [decide_eq_false hc]; rfl
  go_wp2_with fail
  refine (dsNames_any xs _ _ _ _ hn (hs.below (by repeat' (first | exact bl_refl _ | refine bl_alloc ?_ _ | refine bl_drew ?_ | refine bl_drewN ?_ _ | refine bl_set ?_ ?_ _ | (simp; done) | (simp; omega))))).mono ?_
  rintro _ _ ⟨rfl, rfl⟩
  cases h2 : sortB xs
  · have q : Hid (incB number node true xs = false) := inc_1 h2
    clear h2
    go_wp2
    go_ret
    exact ⟨ret_bool q.out.symm, (bl_alloc (bl_refl w) (.cells #[.int .i64 number, .int .i64 node, .bool true, .slice A n c] 76))⟩
  have H2 := Lib.hid h2
  clear h2
  go_wp2
  obtain ⟨W, hW⟩ : ∃ W, W = w.alloc (.cells #[.int .i64 number, .int .i64 node, .bool true, .slice A n c] 76) := ⟨_, rfl⟩
  rw [← hW]
  have hkW : Below w.heap.size w W := by rw [hW]; exact bl_alloc (bl_refl _) _
  have x3 : W.cell? ⟨w.heap.size, 3, none⟩ = some (.slice A n c) := by rw [hW]; go_simp
  have HW := Lib.hid hW
  clear hW
  go_loopw [40] (fun i wr => ∃ k : Nat, k ≤ n ∧ i = .int .i64 k ∧ Hid (∀ j, j < k → nameB (nth xs j) = true) ∧ Below W.heap.size W wr) (fun i _ => n - (intOf i).toNat)
  case atStart => exact ⟨0, Nat.zero_le _, rfl, fun j hj => absurd hj (by omega), bl_refl _⟩
  case round =>
    obtain ⟨k, hk, rfl, hg, hb⟩ := hrel
    have hbw := bl_trans hkW hb
    by_cases hlt : k < n
    · exact absurd hlt (by omega)
    · obtain rfl : k = n := by omega
      have q : Hid (incB number node true xs = true) := inc_y HB.out H2.out (allB_true (by rw [HL.out]; exact hg.out))
      go_wp2
      go_ret
      exact ⟨ret_bool q.out.symm, hbw⟩
theorem ixOne_any (number node : Int) (closed : Bool) (xs : List ByteArray) (A : Option Addr) (n c : Nat) (w : World) (hn : (n : Int) ≤ 9223372036854775807) (hs : Sl w A n xs) (hv : ∀ x, x ∈ xs → x.size ≤ maxLen) :
    Calls Try.prog 137 #[.agg #[.int .i64 number, .int .i64 node, .bool closed, .slice A n c]] w fun e w' => e = .returned (.bool (incB number node closed xs)) ∧ Below w.heap.size w w' := by
  cases closed
  · exact ixOne_f number node xs A n c w hn hs hv
  · exact ixOne_t number node xs A n c w hn hs hv

end Go.Proofs.Ytnaadihbkiakeaa
