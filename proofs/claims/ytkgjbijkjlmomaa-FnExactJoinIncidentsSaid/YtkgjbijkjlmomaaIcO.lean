/-
  Incidents: the open one with a number. No conditions.
-/
import Derived.Test.YtkgjbijkjlmomaaIcP
namespace Go.Proofs.Ytkgjbijkjlmomaa
open Go.RowKit

set_option maxHeartbeats 1000000 in
theorem ixFind_any (xs : List Incident) (number : Int) (A : Option Addr) (n c : Nat) (w : World) (hn : (n : Int) ≤ 9223372036854775807) (hs : Sl w A n xs) :
    Calls Try.prog 46 #[.slice A n c, .int .i64 number] w fun e w' => e = .returned (.int .i64 (openI xs number)) ∧ Below w.heap.size w w' := by
  have HL := Lib.hid hs.1
  go_enter Try.func46, Try.ntmps46
  go_wp2
  go_loopw [9] (fun i wr => ∃ k : Nat, k ≤ n ∧ i = .int .i64 k ∧ Below w.heap.size w wr ∧ Hid (∀ j, j < k → isO number (nth xs j) = false)) (fun i _ => n - (intOf i).toNat)
  case atStart => exact ⟨0, Nat.zero_le _, rfl, bl_refl _, fun j hj => absurd hj (by omega)⟩
  case round =>
    obtain ⟨k, hk, rfl, hb, hg⟩ := hrel
    by_cases hlt : k < n
    · obtain ⟨b, o, A', c', rfl, _, c0, c1, c2, c3, hi, hil⟩ := (hs.below hb).incident hlt
      have hkx : Hid (k < xs.length) := by rw [Hid, HL.out]; exact hlt
      clear hs hil hi
      by_cases h0 : ((nth xs k).Number == number) = true
      · cases h1 : (nth xs k).Closed
        · have q : Hid (isO number (nth xs k) = true) := by rw [Hid, isO, h0, h1]; rfl
          rw [h1] at c2
          clear h1
          go_wp2
          go_ret
          exact ⟨ret_i64 (indexF_hit hkx.out q.out hg.out).symm, bl_alloc hb _⟩
        · have q : Hid (isO number (nth xs k) = false) := by rw [Hid, isO, h1]; simp
          rw [h1] at c2
          clear h1
          go_wp2
          go_roundw
          case rel => exact ⟨k + 1, by omega, by go_num, bl_alloc hb _, upto_succ hg q.out⟩
          case measure => simp [intOf]; omega
      · have h0 : ((nth xs k).Number == number) = false := by simpa using h0
        have q : Hid (isO number (nth xs k) = false) := by rw [Hid, isO, h0]; rfl
        go_wp2
        go_roundw
        case rel => exact ⟨k + 1, by omega, by go_num, bl_alloc hb _, upto_succ hg q.out⟩
        case measure => simp [intOf]; omega
    · obtain rfl : k = n := by omega
      go_wp2
      go_ret
      exact ⟨ret_i64 (indexF_none (by rw [HL.out]; exact hg.out)).symm, hb⟩
theorem enters_oA : Enters Try.prog 75 := enters_of Try.func75 (by kernel_rfl) (by kernel_rfl)
theorem pred_oA (w : World) (B : Nat) (number : Int) (ha : w.cell? ⟨B, 0, none⟩ = some (.int .i64 number)) (xs : List Incident) : PredIncident Try.prog w xs 75 #[.pointer (some ⟨B, 0, none⟩)] (isO number) := by
  intro W x A' c' _ hb hi hil
  have ha' := cell_later hb ha
  have hz : B < W.heap.size := World.block_lt_of_cell? W _ ha'
  clear ha hil hi
  show Calls _ _ #[.agg #[.int .i64 x.Number, .int .i64 x.Node, .bool x.Closed, .slice A' x.Names.length c'], .pointer (some ⟨B, 0, none⟩)] W _
  by_cases h0 : (x.Number == number) = true
  · cases h1 : x.Closed
    · have q : Hid (isO number x = true) := by rw [Hid, isO, h0, h1]; rfl
      go_enter Try.func75, Try.ntmps75
      go_wp2
      go_ret
      exact ⟨ret_bool q.out.symm, bl_alloc (bl_refl _) _⟩
    · have q : Hid (isO number x = false) := by rw [Hid, isO, h1]; simp
      go_enter Try.func75, Try.ntmps75
      go_wp2
      go_ret
      exact ⟨ret_bool q.out.symm, bl_alloc (bl_refl _) _⟩
  · have h0 : (x.Number == number) = false := by simpa using h0
    have q : Hid (isO number x = false) := by rw [Hid, isO, h0]; rfl
    go_enter Try.func75, Try.ntmps75
    go_wp2
    go_ret
    exact ⟨ret_bool q.out.symm, bl_alloc (bl_refl _) _⟩
theorem openAt_any (xs : List Incident) (number : Int) (A : Option Addr) (n c : Nat) (w : World) (hn : (n : Int) ≤ 9223372036854775807) (hs : Sl w A n xs) :
    Calls Try.prog 48 #[.slice A n c, .int .i64 number] w fun e w' => e = .returned (.int .i64 (openI xs number)) ∧ Below w.heap.size w w' := by
  go_enter Try.func48, Try.ntmps48
  go_wp2_with fail
  refine (indexFunc_incident xs _ _ _ _ _ _ _ hn (hs.below (bl_alloc (bl_refl _) _)) enters_oA (pred_oA _ w.heap.size number (by go_simp) xs)).mono ?_
  rintro e V ⟨rfl, hV⟩
  go_wp2
  go_ret
  exact ⟨rfl, bl_trans (bl_alloc (bl_refl w) (.cells #[.int .i64 number] 3)) hV⟩

end Go.Proofs.Ytkgjbijkjlmomaa
