/-
  What FnSessions compares by. No conditions.
-/
import Derived.Test.YtgjnjfaohpmhkaaSaI
import Derived.Test.YtgjnjfaohpmhkaaIss
import Derived.Test.YtgjnjfaohpmhkaaLibS
import Derived.Test.YtgjnjfaohpmhkaaQualF
import Derived.Deep.Cut
namespace Go.Proofs.Ytgjnjfaohpmhkaa
open Go.RowKit

set_option maxHeartbeats 4000000 in
/-- two slices that read alike -/
theorem pSameTexts_same (A B : Option Addr) (n c d : Nat) (xs : List ByteArray) (w : World) (hn : n ≤ 1048576) (hs : Sl w A n xs) (ht : Sl w B n xs) :
    Calls Try.prog 24 #[.slice A n c, .slice B n d] w fun e w' => e = .returned (.bool true) ∧ Below w.heap.size w w' := by
  have HS := Lib.hid hs
  have HT := Lib.hid ht
  clear hs ht
  go_enter Try.func24, Try.ntmps24
  go_wp2
  go_loopw [13] (fun iv wr => ∃ i : Nat, i ≤ n ∧ iv = .int .i64 i ∧ Below w.heap.size w wr) (fun iv _ => n - (intOf iv).toNat)
  case atStart => exact ⟨0, Nat.zero_le _, rfl, bl_refl _⟩
  case round =>
    obtain ⟨i, hi, rfl, hb⟩ := hrel
    by_cases hlt : i < n
    · obtain ⟨b, o, rfl, hbz, c0⟩ := (HS.out.below hb).str hlt
      obtain ⟨b', o', rfl, hbz', d0⟩ := (HT.out.below hb).str hlt
      have hid : (i : Int) < n := by omega
      go_upto_region 6 with fail
      refine wp_region_grow (by kernel_rfl) (by kernel_rfl) (fun X hX => ?_)
      have hbX : Below wr.heap.size wr X := by rw [hX]; exact bl_refl _
      have q0 := Gw.cell (cell_later hbX c0)
      have q1 := Gw.cell (cell_later hbX d0)
      have HX := Lib.hid hX
      clear hX
      repeat (go_big_quiet_step (fail))
      refine wpGrow_nil (fun V6 hV => ?_)
      have hb6 := bl_trans hb (bl_trans hbX hV)
      clear hV hbX HX q0 q1 c0 d0
      go_wp2
      go_roundw
      case rel => exact ⟨i + 1, by omega, by go_num, hb6⟩
      case measure => simp [intOf]; omega
    · go_wp2
      go_ret
      exact ⟨rfl, hb⟩
set_option maxHeartbeats 4000000 in
/-- two lists of lists that read alike -/
theorem sameLists_same (A B : Option Addr) (n c d : Nat) (xs : List (List Int)) (w : World) (hn : n ≤ 1048576) (hin : ∀ x, x ∈ xs → x.length ≤ 1048576) (hs : Sl w A n xs) (ht : Sl w B n xs) :
    Calls Try.prog 18 #[.slice A n c, .slice B n d] w fun e w' => e = .returned (.bool true) ∧ Below w.heap.size w w' := by
  have HL := Lib.hid hs.1
  have HS := Lib.hid hs
  have HT := Lib.hid ht
  have HI := Lib.hid hin
  clear hs ht hin
  go_enter Try.func18, Try.ntmps18
  go_wp2
  go_loopw [13] (fun iv wr => ∃ i : Nat, i ≤ n ∧ iv = .int .i64 i ∧ Below w.heap.size w wr) (fun iv _ => n - (intOf iv).toNat)
  case atStart => exact ⟨0, Nat.zero_le _, rfl, bl_refl _⟩
  case round =>
    obtain ⟨i, hi, rfl, hb⟩ := hrel
    by_cases hlt : i < n
    · obtain ⟨b, o, A', c', rfl, hbz, c0, hs1, _⟩ := (HS.out.below hb).ints hlt
      obtain ⟨b', o', B', d', rfl, hbz', d0, hs2, _⟩ := (HT.out.below hb).ints hlt
      have hid : (i : Int) < n := by omega
      obtain ⟨x, hx⟩ : ∃ x, nth xs i = x := ⟨_, rfl⟩
      have hxl : x.length ≤ 1048576 := by rw [← hx]; exact HI.out _ (nth_mem (by rw [HL.out]; exact hlt))
      rw [hx] at c0 d0 hs1 hs2
      have H1 := Lib.hid hs1
      have H2 := Lib.hid hs2
      clear hx hs1 hs2
      go_upto_region 6 with fail
      refine wp_region_grow (by kernel_rfl) (by kernel_rfl) (fun X hX => ?_)
      have hbX : Below wr.heap.size wr X := by rw [hX]; exact bl_refl _
      have q0 := Gw.cell (cell_later hbX c0)
      have q1 := Gw.cell (cell_later hbX d0)
      have HX := Lib.hid hX
      have K1 := Lib.hid (H1.out.below hbX)
      have K2 := Lib.hid (H2.out.below hbX)
      clear hX
      repeat (go_big_quiet_step ((go_at_call 19; exact Calls.grow_of (sameInts_same _ _ _ _ _ x _ hxl (K1.out.below (Subtype.property _)) (K2.out.below (Subtype.property _))))))
      refine wpGrow_nil (fun V6 hV => ?_)
      have hb6 := bl_trans hb (bl_trans hbX hV)
      clear hV hbX HX q0 q1 c0 d0
      go_wp2
      go_roundw
      case rel => exact ⟨i + 1, by omega, by go_num, hb6⟩
      case measure => simp [intOf]; omega
    · go_wp2
      go_ret
      exact ⟨rfl, hb⟩
set_option maxHeartbeats 2000000 in
theorem pIn_any (L : List Int) (v : Int) (A : Option Addr) (n c : Nat) (w : World) (hn : n ≤ 1048576) (hs : Sl w A n L) :
    Calls Try.prog 20 #[.slice A n c, .int .i64 v] w fun e w' => e = .returned (.bool (L.any (fun x : Int => x == v))) ∧ Below w.heap.size w w' := by
  have HL := Lib.hid hs.1
  have HS := Lib.hid hs
  clear hs
  go_enter Try.func20, Try.ntmps20
  go_wp2
  go_loopw [9] (fun iv wr => ∃ k : Nat, k ≤ n ∧ iv = .int .i64 k ∧ Hid (∀ j, j < k → (fun x : Int => x == v) (nth L j) = false) ∧ Below w.heap.size w wr) (fun iv _ => n - (intOf iv).toNat)
  case atStart => exact ⟨0, Nat.zero_le _, rfl, fun j hj => absurd hj (by omega), bl_refl _⟩
  case round =>
    obtain ⟨k, hk, rfl, hg, hb⟩ := hrel
    by_cases hlt : k < n
    · obtain ⟨b, o, rfl, _, c0⟩ := (HS.out.below hb).int hlt
      cases hp : (fun x : Int => x == v) (nth L k)
      · have hp' := Lib.hid hp
        have hp1 : (nth L k == v) = false := hp
        have hp2 : (v == nth L k) = false := by rw [BEq.comm]; exact hp
        clear hp
        go_wp2
        go_roundw
        case rel => exact ⟨k + 1, by omega, by go_num, upto_succ hg hp'.out, hb⟩
        case measure => simp [intOf]; omega
      · have hp' := Lib.hid (any_yes (p := fun x : Int => x == v) (by rw [HL.out]; exact hlt) hp)
        have hp1 : (nth L k == v) = true := hp
        have hp2 : (v == nth L k) = true := by rw [BEq.comm]; exact hp
        clear hp
        go_wp2
        go_ret
        exact ⟨ret_bool hp'.out.symm, hb⟩
    · obtain rfl : k = n := by omega
      have hp' := Lib.hid (any_no (p := fun x : Int => x == v) (xs := L) (by rw [HL.out]; exact hg.out))
      go_wp2
      go_ret
      exact ⟨ret_bool hp'.out.symm, hb⟩
set_option maxHeartbeats 2000000 in
theorem pHas_any0 (L : List ByteArray) (v : ByteArray) (A : Option Addr) (n c : Nat) (w : World) (hn : n ≤ 1048576) (hs : Sl w A n L) :
    Calls Try.prog 27 #[.slice A n c, .string v] w fun e w' => e = .returned (.bool (L.any (fun x : ByteArray => x.toList == v.toList))) ∧ Below w.heap.size w w' := by
  have HL := Lib.hid hs.1
  have HS := Lib.hid hs
  clear hs
  go_enter Try.func27, Try.ntmps27
  go_wp2
  go_loopw [9] (fun iv wr => ∃ k : Nat, k ≤ n ∧ iv = .int .i64 k ∧ Hid (∀ j, j < k → (fun x : ByteArray => x.toList == v.toList) (nth L j) = false) ∧ Below w.heap.size w wr) (fun iv _ => n - (intOf iv).toNat)
  case atStart => exact ⟨0, Nat.zero_le _, rfl, fun j hj => absurd hj (by omega), bl_refl _⟩
  case round =>
    obtain ⟨k, hk, rfl, hg, hb⟩ := hrel
    by_cases hlt : k < n
    · obtain ⟨b, o, rfl, _, c0⟩ := (HS.out.below hb).str hlt
      cases hp : (fun x : ByteArray => x.toList == v.toList) (nth L k)
      · have hp' := Lib.hid hp
        have hp1 : ((nth L k).toList == v.toList) = false := hp
        have hp2 : (v.toList == (nth L k).toList) = false := by rw [BEq.comm]; exact hp
        clear hp
        go_wp2
        go_roundw
        case rel => exact ⟨k + 1, by omega, by go_num, upto_succ hg hp'.out, hb⟩
        case measure => simp [intOf]; omega
      · have hp' := Lib.hid (any_yes (p := fun x : ByteArray => x.toList == v.toList) (by rw [HL.out]; exact hlt) hp)
        have hp1 : ((nth L k).toList == v.toList) = true := hp
        have hp2 : (v.toList == (nth L k).toList) = true := by rw [BEq.comm]; exact hp
        clear hp
        go_wp2
        go_ret
        exact ⟨ret_bool hp'.out.symm, hb⟩
    · obtain rfl : k = n := by omega
      have hp' := Lib.hid (any_no (p := fun x : ByteArray => x.toList == v.toList) (xs := L) (by rw [HL.out]; exact hg.out))
      go_wp2
      go_ret
      exact ⟨ret_bool hp'.out.symm, hb⟩
theorem pHas_any (L : List ByteArray) (v : ByteArray) (A : Option Addr) (n c : Nat) (w : World) (hn : n ≤ 1048576) (hs : Sl w A n L) :
    Calls Try.prog 27 #[.slice A n c, .string v] w fun e w' => e = .returned (.bool (hasS L v)) ∧ Below w.heap.size w w' := pHas_any0 L v A n c w hn hs
end Go.Proofs.Ytgjnjfaohpmhkaa
