/-
  Several texts in one. No conditions.
-/
import Derived.Test.YtpdblmcflniomaaGreatDoorIv3
import Derived.Test.YtpdblmcflniomaaGreatDoorIv5
import Derived.Deep.Cut
import Derived.Test.YtpdblmcflniomaaGreatDoorIv4
namespace Go.Proofs.YtpdblmcflniomaaGreatDoor
open Go.RowKit

set_option maxHeartbeats 4000000 in
/-- two slices that read alike -/
theorem sameInts_same (A B : Option Addr) (n c d : Nat) (xs : List Int) (w : World) (hn : n ≤ 1048576) (hs : Sl w A n xs) (ht : Sl w B n xs) :
    Calls Tryz.prog 15 #[.slice A n c, .slice B n d] w fun e w' => e = .returned (.bool true) ∧ Below w.heap.size w w' := by
  have HS := Lib.hid hs
  have HT := Lib.hid ht
  clear hs ht
  go_enter Tryz.func15, Tryz.ntmps15
  go_wp2
  go_loopw [13] (fun iv wr => ∃ i : Nat, i ≤ n ∧ iv = .int .i64 i ∧ Below w.heap.size w wr) (fun iv _ => n - (intOf iv).toNat)
  case atStart => exact ⟨0, Nat.zero_le _, rfl, bl_refl _⟩
  case round =>
    obtain ⟨i, hi, rfl, hb⟩ := hrel
    by_cases hlt : i < n
    · obtain ⟨b, o, rfl, hbz, c0⟩ := (HS.out.below hb).int hlt
      obtain ⟨b', o', rfl, hbz', d0⟩ := (HT.out.below hb).int hlt
      have hid : (i : Int) < n := by omega
      go_upto_region 6 with fail
      refine wp_region_grow (by kernel_rfl) (by kernel_rfl) (fun X hX => ?_)
      have hbX : Below wr.heap.size wr X := by rw [hX]; exact bl_refl _
      have q0 := Gw.cell (cell_later hbX c0)
      have q1 := Gw.cell (cell_later hbX d0)
      have HX := Lib.hid hX
      clear hX
      repeat (go_big_quiet_step (fail))
      refine wpGrow_nil (fun V6 hV => ?_)
      have hb6 := bl_trans hb (bl_trans hbX hV)
      clear hV hbX HX q0 q1 c0 d0
      go_wp2
      go_roundw
      case rel => exact ⟨i + 1, by omega, by go_num, hb6⟩
      case measure => simp [intOf]; omega
    · go_wp2
      go_ret
      exact ⟨rfl, hb⟩
set_option maxHeartbeats 2000000 in
theorem pIn_any (L : List Int) (v : Int) (A : Option Addr) (n c : Nat) (w : World) (hn : n ≤ 1048576) (hs : Sl w A n L) :
    Calls Tryz.prog 16 #[.slice A n c, .int .i64 v] w fun e w' => e = .returned (.bool (L.any (fun x => x == v))) ∧ Below w.heap.size w w' := by
  have HL := Lib.hid hs.1
  have HS := Lib.hid hs
  clear hs
  go_enter Tryz.func16, Tryz.ntmps16
  go_wp2
  go_loopw [9] (fun iv wr => ∃ k : Nat, k ≤ n ∧ iv = .int .i64 k ∧ Hid (∀ j, j < k → (nth L j == v) = false) ∧ Below w.heap.size w wr) (fun iv _ => n - (intOf iv).toNat)
  case atStart => exact ⟨0, Nat.zero_le _, rfl, fun j hj => absurd hj (by omega), bl_refl _⟩
  case round =>
    obtain ⟨k, hk, rfl, hg, hb⟩ := hrel
    by_cases hlt : k < n
    · obtain ⟨b, o, rfl, _, c0⟩ := (HS.out.below hb).int hlt
      cases hp : nth L k == v
      · have hp' := Lib.hid hp
        have hp2 : (v == nth L k) = false := by rw [BEq.comm]; exact hp
        go_wp2
        go_roundw
        case rel => exact ⟨k + 1, by omega, by go_num, upto_succ hg hp'.out, hb⟩
        case measure => simp [intOf]; omega
      · have hp' := Lib.hid (any_yes (p := fun x => x == v) (by rw [HL.out]; exact hlt) hp)
        go_wp2
        go_ret
        exact ⟨ret_bool hp'.out.symm, hb⟩
    · obtain rfl : k = n := by omega
      have hp' := Lib.hid (any_no (p := fun x => x == v) (xs := L) (by rw [HL.out]; exact hg.out))
      go_wp2
      go_ret
      exact ⟨ret_bool hp'.out.symm, hb⟩

end Go.Proofs.YtpdblmcflniomaaGreatDoor

namespace Go.Proofs.YtpdblmcflniomaaGreatDoor
open Go.RowKit

def sortC (xs : List ByteArray) (k : Nat) : Bool := !(decide (0 < k) && !Op.bytesLess (nth xs (k - 1)).toList (nth xs k).toList)
def sortB (xs : List ByteArray) : Bool := allB xs.length (sortC xs)
def allNm (xs : List ByteArray) : Bool := allB xs.length (fun k => nameB (nth xs k))
def baseB (number node : Int) (closed : Bool) (n : Nat) : Bool := inB number 1 999 && inB node 0 13 && decide (n ≤ 12) && !(closed && decide (0 < n))
def incB (number node : Int) (closed : Bool) (xs : List ByteArray) : Bool := baseB number node closed xs.length && sortB xs && allNm xs
theorem sortC_1 {xs : List ByteArray} {k : Nat} (h : 0 < k) (h' : Op.bytesLess (nth xs (k - 1)).toList (nth xs k).toList = false) : sortC xs k = false := by simp only [sortC, decide_eq_true h, h']; rfl
theorem sortC_y {xs : List ByteArray} {k : Nat} (h : ¬ 0 < k ∨ Op.bytesLess (nth xs (k - 1)).toList (nth xs k).toList = true) : sortC xs k = true := by
  rcases h with h | h
  · simp only [sortC, decide_eq_false h]; rfl
  · simp only [sortC, h]; simp
theorem inc_0 {number node : Int} {closed : Bool} {xs : List ByteArray} (h : baseB number node closed xs.length = false) : incB number node closed xs = false := by simp only [incB, h]; rfl
theorem inc_1 {number node : Int} {closed : Bool} {xs : List ByteArray} (h : sortB xs = false) : incB number node closed xs = false := by simp only [incB, h]; simp
theorem inc_2 {number node : Int} {closed : Bool} {xs : List ByteArray} (h : allNm xs = false) : incB number node closed xs = false := by simp only [incB, h]; simp
theorem inc_y {number node : Int} {closed : Bool} {xs : List ByteArray} (h : baseB number node closed xs.length = true) (h1 : sortB xs = true) (h2 : allNm xs = true) : incB number node closed xs = true := by simp only [incB, h, h1, h2]; rfl
theorem incB_len {number node : Int} {closed : Bool} {xs : List ByteArray} (h : incB number node closed xs = true) : xs.length ≤ 12 := by
  simp only [incB, baseB, Bool.and_eq_true, decide_eq_true_eq] at h; exact h.1.1.1.2
theorem incB_names {number node : Int} {closed : Bool} {xs : List ByteArray} (h : incB number node closed xs = true) : allNm xs = true := by
  simp only [incB, Bool.and_eq_true] at h; exact h.2
theorem incB_num {number node : Int} {closed : Bool} {xs : List ByteArray} (h : incB number node closed xs = true) : 1 ≤ number ∧ number ≤ 999 := by
  simp only [incB, baseB, Bool.and_eq_true] at h; exact inB_iff.1 h.1.1.1.1.1
set_option maxHeartbeats 1000000 in
theorem dsNames_any (xs : List ByteArray) (A : Option Addr) (n c : Nat) (w : World) (hn : (n : Int) ≤ 9223372036854775807) (hs : Sl w A n xs) :
    Calls Tryz.prog 92 #[.slice A n c] w fun e w' => e = .returned (.bool (sortB xs)) ∧ w' = w := by
  have HL := Lib.hid hs.1
  go_enter Tryz.func92, Tryz.ntmps92
  go_wp2
  go_loop [7] (fun i => ∃ k : Nat, k ≤ n ∧ i = .int .i64 k ∧ Hid (∀ j, j < k → sortC xs j = true)) (fun i => n - (intOf i).toNat)
  case atStart => exact ⟨0, Nat.zero_le _, rfl, fun j hj => absurd hj (by omega)⟩
  case round =>
    obtain ⟨k, hk, rfl, hg⟩ := hrel
    by_cases hlt : k < n
    · obtain ⟨b, o, rfl, _, c0⟩ := hs.str hlt
      have hkx : Hid (k < xs.length) := by rw [Hid, HL.out]; exact hlt
      by_cases hk0 : 0 < k
      · obtain ⟨b', o', e', _, d0⟩ := hs.str (k := k - 1) (by omega)
        injection e' with e'
        injection e' with e1 e2
        subst e1 e2
        clear hs
        have hkd : decide ((k : Int) > 0) = true := by simpa using hk0
        have i2 : 0 ≤ (k : Int) - 1 := by omega
        have i4 : (k : Int) - 1 < n := by omega
        have i1 : IntKind.i64.wrap ((k : Int) - 1) = (k : Int) - 1 := IntWalk.i64_in _ (by omega)
        have i3 : ((k : Int) - 1).toNat = k - 1 := by omega
        cases go : Op.bytesLess (nth xs (k - 1)).toList (nth xs k).toList
        · have G := Lib.hid go
          go_wp2
          go_ret
          exact ⟨ret_bool (allB_false hkx.out (sortC_1 hk0 G.out)).symm, rfl⟩
        · have G := Lib.hid go
          go_wp2
          go_round
          case rel => exact ⟨k + 1, by omega, by go_num, upto_succ hg (sortC_y (.inr G.out))⟩
          case measure => simp [intOf]; omega
      · have hkd : decide ((k : Int) > 0) = false := by simp; omega
        clear hs
        go_wp2
        go_round
        case rel => exact ⟨k + 1, by omega, by go_num, upto_succ hg (sortC_y (.inl hk0))⟩
        case measure => simp [intOf]; omega
    · obtain rfl : k = n := by omega
      go_wp2
      go_ret
      exact ⟨ret_bool (allB_true (by rw [HL.out]; exact hg.out)).symm, rfl⟩
theorem apNode_any (n : Int) (w : World) :
    Calls Tryz.prog 39 #[.int .i64 n] w fun e w' => e = .returned (.bool (inB n 0 13)) ∧ w' = w := by
  go_enter Tryz.func39, Tryz.ntmps39
  go_wp2_with (go_at_call 76; refine (l1In_any _ _ _ _).mono ?_; rintro e V ⟨rfl, rfl⟩)
  go_ret
  exact ⟨rfl, rfl⟩

end Go.Proofs.YtpdblmcflniomaaGreatDoor

namespace Go.Proofs.YtpdblmcflniomaaGreatDoor
open Go.RowKit

set_option maxRecDepth 100000 in
set_option maxHeartbeats 4000000 in
theorem ixOne_f (number node : Int) (xs : List ByteArray) (A : Option Addr) (n c : Nat) (w : World) (hn : (n : Int) ≤ 9223372036854775807) (hs : Sl w A n xs) (hv : ∀ x, x ∈ xs → x.size ≤ maxLen) :
    Calls Tryz.prog 61 #[.agg #[.int .i64 number, .int .i64 node, .bool false, .slice A n c]] w fun e w' => e = .returned (.bool (incB number node false xs)) ∧ Below w.heap.size w w' := by
  have HV := Lib.hid hv
  have HL := Lib.hid hs.1
  clear hv
  go_enter Tryz.func61, Tryz.ntmps61
  have hk0 := bl_refl w
  go_wp2_with fail
  refine (l1In_any number 1 999 _).mono ?_
  rintro _ _ ⟨rfl, rfl⟩
  cases h0 : inB number 1 999
  · have q : Hid (incB number node false xs = false) := inc_0 (by rw [HL.out]; unfold baseB; rw [h0]; rfl)
    go_wp2
    go_ret
    exact ⟨ret_bool q.out.symm, (bl_alloc (bl_refl w) (.cells #[.int .i64 number, .int .i64 node, .bool false, .slice A n c] 32))⟩
  have H0 := Lib.hid h0
  clear h0
  go_wp2_with fail
  refine (apNode_any node _).mono ?_
  rintro _ _ ⟨rfl, rfl⟩
  cases h1 : inB node 0 13
  · have q : Hid (incB number node false xs = false) := inc_0 (by rw [HL.out]; unfold baseB; rw [h1]; simp)
    go_wp2
    go_ret
    exact ⟨ret_bool q.out.symm, (bl_alloc (bl_refl w) (.cells #[.int .i64 number, .int .i64 node, .bool false, .slice A n c] 32))⟩
  have H1 := Lib.hid h1
  clear h1
  by_cases hl : n ≤ 12
  rotate_left
  · have hd : decide ((n : Int) > 12) = true := by simp; omega
    have q : Hid (incB number node false xs = false) := inc_0 (by rw [HL.out]; unfold baseB; rw [decide_eq_false hl]; simp)
    go_wp2
    go_ret
    exact ⟨ret_bool q.out.symm, (bl_alloc (bl_refl w) (.cells #[.int .i64 number, .int .i64 node, .bool false, .slice A n c] 32))⟩
  have hd : decide ((n : Int) > 12) = false := by simp; omega
  have HB : Hid (baseB number node false xs.length = true) := by rw [Hid, HL.out, baseB, H0.out, H1.out, decide_eq_true hl]; rfl
  go_wp2_with fail
  refine (dsNames_any xs _ _ _ _ hn (hs.below (by repeat' (first | exact bl_refl _ | refine bl_alloc ?_ _ | refine bl_drew ?_ | refine bl_drewN ?_ _ | refine bl_set ?_ ?_ _ | (simp; done) | (simp; omega))))).mono ?_
  rintro _ _ ⟨rfl, rfl⟩
  cases h2 : sortB xs
  · have q : Hid (incB number node false xs = false) := inc_1 h2
    clear h2
    go_wp2
    go_ret
    exact ⟨ret_bool q.out.symm, (bl_alloc (bl_refl w) (.cells #[.int .i64 number, .int .i64 node, .bool false, .slice A n c] 32))⟩
  have H2 := Lib.hid h2
  clear h2
  go_wp2
  obtain ⟨W, hW⟩ : ∃ W, W = w.alloc (.cells #[.int .i64 number, .int .i64 node, .bool false, .slice A n c] 32) := ⟨_, rfl⟩
  rw [← hW]
  have hkW : Below w.heap.size w W := by rw [hW]; exact bl_alloc (bl_refl _) _
  have x3 : W.cell? ⟨w.heap.size, 3, none⟩ = some (.slice A n c) := by rw [hW]; go_simp
  have HW := Lib.hid hW
  clear hW
  go_loopw [40] (fun i wr => ∃ k : Nat, k ≤ n ∧ i = .int .i64 k ∧ Hid (∀ j, j < k → nameB (nth xs j) = true) ∧ Below W.heap.size W wr) (fun i _ => n - (intOf i).toNat)
  case atStart => exact ⟨0, Nat.zero_le _, rfl, fun j hj => absurd hj (by omega), bl_refl _⟩
  case round =>
    obtain ⟨k, hk, rfl, hg, hb⟩ := hrel
    have hbw := bl_trans hkW hb
    by_cases hlt : k < n
    · obtain ⟨b, o, rfl, _, c0⟩ := (hs.below hbw).str hlt
      have hkx : Hid (k < xs.length) := by rw [Hid, HL.out]; exact hlt
      have hszh := Lib.hid (HV.out _ (nth_mem hkx.out))
      clear hs
      go_wp2_with fail
      refine (apName_any (nth xs k) _ hszh.out).mono ?_
      rintro e V ⟨rfl, hV⟩
      have hbV := bl_trans hb hV
      clear c0
      cases hp : nameB (nth xs k)
      · have q : Hid (incB number node false xs = false) := inc_2 (allB_false (p := fun k => nameB (nth xs k)) hkx.out hp)
        clear hp
        go_wp2
        go_ret
        exact ⟨ret_bool q.out.symm, bl_trans hkW hbV⟩
      · have hp2 := Lib.hid hp
        clear hp
        go_wp2
        go_roundw
        case rel => exact ⟨k + 1, by omega, by go_num, upto_succ hg hp2.out, hbV⟩
        case measure => simp [intOf]; omega
    · obtain rfl : k = n := by omega
      have q : Hid (incB number node false xs = true) := inc_y HB.out H2.out (allB_true (by rw [HL.out]; exact hg.out))
      go_wp2
      go_ret
      exact ⟨ret_bool q.out.symm, hbw⟩
set_option maxRecDepth 100000 in
set_option maxHeartbeats 4000000 in
theorem ixOne_t (number node : Int) (xs : List ByteArray) (A : Option Addr) (n c : Nat) (w : World) (hn : (n : Int) ≤ 9223372036854775807) (hs : Sl w A n xs) (hv : ∀ x, x ∈ xs → x.size ≤ maxLen) :
    Calls Tryz.prog 61 #[.agg #[.int .i64 number, .int .i64 node, .bool true, .slice A n c]] w fun e w' => e = .returned (.bool (incB number node true xs)) ∧ Below w.heap.size w w' := by
  have HV := Lib.hid hv
  have HL := Lib.hid hs.1
  clear hv
  go_enter Tryz.func61, Tryz.ntmps61
  have hk0 := bl_refl w
  go_wp2_with fail
  refine (l1In_any number 1 999 _).mono ?_
  rintro _ _ ⟨rfl, rfl⟩
  cases h0 : inB number 1 999
  · have q : Hid (incB number node true xs = false) := inc_0 (by rw [HL.out]; unfold baseB; rw [h0]; rfl)
    go_wp2
    go_ret
    exact ⟨ret_bool q.out.symm, (bl_alloc (bl_refl w) (.cells #[.int .i64 number, .int .i64 node, .bool true, .slice A n c] 32))⟩
  have H0 := Lib.hid h0
  clear h0
  go_wp2_with fail
  refine (apNode_any node _).mono ?_
  rintro _ _ ⟨rfl, rfl⟩
  cases h1 : inB node 0 13
  · have q : Hid (incB number node true xs = false) := inc_0 (by rw [HL.out]; unfold baseB; rw [h1]; simp)
    go_wp2
    go_ret
    exact ⟨ret_bool q.out.symm, (bl_alloc (bl_refl w) (.cells #[.int .i64 number, .int .i64 node, .bool true, .slice A n c] 32))⟩
  have H1 := Lib.hid h1
  clear h1
  by_cases hl : n ≤ 12
  rotate_left
  · have hd : decide ((n : Int) > 12) = true := by simp; omega
    have q : Hid (incB number node true xs = false) := inc_0 (by rw [HL.out]; unfold baseB; rw [decide_eq_false hl]; simp)
    go_wp2
    go_ret
    exact ⟨ret_bool q.out.symm, (bl_alloc (bl_refl w) (.cells #[.int .i64 number, .int .i64 node, .bool true, .slice A n c] 32))⟩
  have hd : decide ((n : Int) > 12) = false := by simp; omega
  by_cases hc : 0 < n
  · have hd2 : decide ((n : Int) > 0) = true := by simp; omega
    have q : Hid (incB number node true xs = false) := inc_0 (by rw [HL.out]; unfold baseB; rw [decide_eq_true hc]; simp)
    go_wp2
    go_ret
    exact ⟨ret_bool q.out.symm, (bl_alloc (bl_refl w) (.cells #[.int .i64 number, .int .i64 node, .bool true, .slice A n c] 32))⟩
  have hd2 : decide ((n : Int) > 0) = false := by simp; omega
  have HB : Hid (baseB number node true xs.length = true) := by rw [Hid, HL.out, baseB, H0.out, H1.out, decide_eq_true hl]; rw [decide_eq_false hc]; rfl
  go_wp2_with fail
  refine (dsNames_any xs _ _ _ _ hn (hs.below (by repeat' (first | exact bl_refl _ | refine bl_alloc ?_ _ | refine bl_drew ?_ | refine bl_drewN ?_ _ | refine bl_set ?_ ?_ _ | (simp; done) | (simp; omega))))).mono ?_
  rintro _ _ ⟨rfl, rfl⟩
  cases h2 : sortB xs
  · have q : Hid (incB number node true xs = false) := inc_1 h2
    clear h2
    go_wp2
    go_ret
    exact ⟨ret_bool q.out.symm, (bl_alloc (bl_refl w) (.cells #[.int .i64 number, .int .i64 node, .bool true, .slice A n c] 32))⟩
  have H2 := Lib.hid h2
  clear h2
  go_wp2
  obtain ⟨W, hW⟩ : ∃ W, W = w.alloc (.cells #[.int .i64 number, .int .i64 node, .bool true, .slice A n c] 32) := ⟨_, rfl⟩
  rw [← hW]
  have hkW : Below w.heap.size w W := by rw [hW]; exact bl_alloc (bl_refl _) _
  have x3 : W.cell? ⟨w.heap.size, 3, none⟩ = some (.slice A n c) := by rw [hW]; go_simp
  have HW := Lib.hid hW
  clear hW
  go_loopw [40] (fun i wr => ∃ k : Nat, k ≤ n ∧ i = .int .i64 k ∧ Hid (∀ j, j < k → nameB (nth xs j) = true) ∧ Below W.heap.size W wr) (fun i _ => n - (intOf i).toNat)
  case atStart => exact ⟨0, Nat.zero_le _, rfl, fun j hj => absurd hj (by omega), bl_refl _⟩
  case round =>
    obtain ⟨k, hk, rfl, hg, hb⟩ := hrel
    have hbw := bl_trans hkW hb
    by_cases hlt : k < n
    · exact absurd hlt (by omega)
    · obtain rfl : k = n := by omega
      have q : Hid (incB number node true xs = true) := inc_y HB.out H2.out (allB_true (by rw [HL.out]; exact hg.out))
      go_wp2
      go_ret
      exact ⟨ret_bool q.out.symm, hbw⟩
theorem ixOne_any (number node : Int) (closed : Bool) (xs : List ByteArray) (A : Option Addr) (n c : Nat) (w : World) (hn : (n : Int) ≤ 9223372036854775807) (hs : Sl w A n xs) (hv : ∀ x, x ∈ xs → x.size ≤ maxLen) :
    Calls Tryz.prog 61 #[.agg #[.int .i64 number, .int .i64 node, .bool closed, .slice A n c]] w fun e w' => e = .returned (.bool (incB number node closed xs)) ∧ Below w.heap.size w w' := by
  cases closed
  · exact ixOne_f number node xs A n c w hn hs hv
  · exact ixOne_t number node xs A n c w hn hs hv

end Go.Proofs.YtpdblmcflniomaaGreatDoor
