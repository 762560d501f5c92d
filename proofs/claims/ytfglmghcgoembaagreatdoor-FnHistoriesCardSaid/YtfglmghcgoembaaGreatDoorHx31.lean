/-
  Several texts in one. No conditions.
-/
import Derived.Test.YtfglmghcgoembaaGreatDoorHx30
import Derived.IntWalk
import Derived.Lib.ConvBytes
namespace Go.Proofs.YtfglmghcgoembaaGreatDoor
open Go.RowKit

/-- what a reader of numbers hands back -/
def NumPost (s : ByteArray) (w : World) (e : Ending) (w' : World) : Prop :=
  ∃ v b, e = .returned (.tuple #[.int .i64 v, .bool b]) ∧ (-9223372036854775808 ≤ v ∧ v ≤ 9223372036854775807) ∧ Hid ((∀ u : Nat, u < 1000000 → s = itB (u : Int) → v = (u : Int) ∧ b = true) ∧ (b = true → s = itB v)) ∧ Below w.heap.size w w'
end Go.Proofs.YtfglmghcgoembaaGreatDoor

namespace Go.Proofs.YtfglmghcgoembaaGreatDoor
open Go.RowKit

theorem sumL_take {s : ByteArray} {k : Nat} (hk : k < s.size) : sumL (s.data.toList.take (k + 1)) = (31 * sumL (s.data.toList.take k) + ((s.data.toList.getD k 0).toNat : Int)) % 99991 := by
  have h : k < s.data.toList.length := by rw [ba_len]; exact hk
  rw [List.take_add_one, List.getElem?_eq_getElem h, List.getD_eq_getElem?_getD, List.getElem?_eq_getElem h]
  exact sumL_snoc _ _
theorem sumL_all (s : ByteArray) {k : Nat} (hk : k = s.size) : sumL (s.data.toList.take k) = sumL s.data.toList := by
  rw [List.take_of_length_le (by rw [ba_len]; omega)]
end Go.Proofs.YtfglmghcgoembaaGreatDoor
