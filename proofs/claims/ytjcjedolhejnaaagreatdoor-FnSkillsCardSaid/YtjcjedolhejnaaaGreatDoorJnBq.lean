/-
  The line of a state, as the program writes it. No conditions.
-/
import Derived.Test.YtjcjedolhejnaaaGreatDoorJnAq
import Derived.Lib.ConvBytes
namespace Go.Proofs.YtjcjedolhejnaaaGreatDoor
open Go.RowKit

theorem sumL_take {s : ByteArray} {k : Nat} (hk : k < s.size) : sumL (s.data.toList.take (k + 1)) = (31 * sumL (s.data.toList.take k) + ((s.data.toList.getD k 0).toNat : Int)) % 99991 := by
  have h : k < s.data.toList.length := by rw [ba_len]; exact hk
  rw [List.take_add_one, List.getElem?_eq_getElem h, List.getD_eq_getElem?_getD, List.getElem?_eq_getElem h]
  exact sumL_snoc _ _
theorem sumL_all (s : ByteArray) {k : Nat} (hk : k = s.size) : sumL (s.data.toList.take k) = sumL s.data.toList := by
  rw [List.take_of_length_le (by rw [ba_len]; omega)]
end Go.Proofs.YtjcjedolhejnaaaGreatDoor
