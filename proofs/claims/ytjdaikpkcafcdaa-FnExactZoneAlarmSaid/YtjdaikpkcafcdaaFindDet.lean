/-
  Finding a detector by its number: both texts answer the index of the first. No conditions.
-/
import Derived.Test.YtjdaikpkcafcdaaDetB
import Derived.Test.YtjdaikpkcafcdaaLibDet
namespace Go.Proofs.Ytjdaikpkcafcdaa
open Go.RowKit

def numIs (m : Int) (d : Det) : Bool := d.Number == m
set_option maxHeartbeats 1000000 in
theorem alFind_any (xs : List Det) (A : Option Addr) (n c : Nat) (m : Int) (w : World) (hn : (n : Int) ≤ 9223372036854775807) (hs : Sl w A n xs) :
    Calls Try.prog 42 #[.slice A n c, .int .i64 m] w fun e w' => e = .returned (.int .i64 (indexF (numIs m) xs)) ∧ Below w.heap.size w w' := by
  have HL := Lib.hid hs.1
  go_enter Try.func42, Try.ntmps42
  go_wp2
  go_loopw [9] (fun i wr => ∃ k : Nat, k ≤ n ∧ i = .int .i64 k ∧ Below w.heap.size w wr ∧ Hid (∀ j, j < k → numIs m (nth xs j) = false)) (fun i _ => n - (intOf i).toNat)
  case atStart => exact ⟨0, Nat.zero_le _, rfl, bl_refl _, fun j hj => absurd hj (by omega)⟩
  case round =>
    obtain ⟨k, hk, rfl, hb, hg⟩ := hrel
    by_cases hlt : k < n
    · obtain ⟨b, o, rfl, _, c0, c1, c2, c3⟩ := (hs.below hb).det hlt
      clear hs
      cases hpk : (nth xs k).Number == m
      · have hpk' := Lib.hid hpk
        go_wp2
        go_roundw
        case rel => exact ⟨k + 1, by omega, by go_num, bl_alloc hb _, upto_succ hg hpk'.out⟩
        case measure => simp [intOf]; omega
      · have hpk' := Lib.hid hpk
        go_wp2
        go_ret
        exact ⟨ret_i64 (indexF_hit (by rw [HL.out]; exact hlt) hpk'.out hg).symm, bl_alloc hb _⟩
    · obtain rfl : k = n := by omega
      go_wp2
      go_ret
      exact ⟨ret_i64 (indexF_none (by rw [HL.out]; exact hg)).symm, hb⟩
theorem enters_dAt : Enters Try.prog 54 := enters_of Try.func54 (by kernel_rfl) (by kernel_rfl)
theorem pred_dAt (w : World) (a : Addr) (m : Int) (ha : w.cell? a = some (.int .i64 m)) (xs : List Det) : Pred Try.prog w [] xs 54 DetVal #[.pointer (some a)] (numIs m) := by
  intro W x _ hb0
  have hb := hb0.nil_below
  have ha' := cell_later hb ha
  have hz := World.block_lt_of_cell? W _ ha'
  show Calls _ _ #[DetVal x, .pointer (some a)] W _
  unfold DetVal numIs
  go_enter Try.func54, Try.ntmps54
  go_wp2
  go_ret
  exact ⟨rfl, bl_alloc (bl_refl _) _⟩
theorem detectorAt_any (xs : List Det) (A : Option Addr) (n c : Nat) (m : Int) (w : World) (hn : (n : Int) ≤ 9223372036854775807) (hs : Sl w A n xs) :
    Calls Try.prog 43 #[.slice A n c, .int .i64 m] w fun e w' => e = .returned (.int .i64 (indexF (numIs m) xs)) ∧ Below w.heap.size w w' := by
  go_enter Try.func43, Try.ntmps43
  go_wp2_with fail
  refine (indexFunc_det xs _ _ _ _ _ _ _ hn (hs.below (bl_alloc (bl_refl _) _)) enters_dAt _ (pred_dAt _ ⟨w.heap.size, 0, none⟩ m (by go_simp) xs)).mono ?_
  rintro e V ⟨rfl, hV⟩
  go_wp2
  go_ret
  exact ⟨rfl, bl_trans (bl_alloc (bl_refl _) _) hV⟩

end Go.Proofs.Ytjdaikpkcafcdaa
