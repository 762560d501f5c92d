/-
  Several texts in one. No conditions.
-/
import Derived.Test.YtfglmghcgoembaaGreatDoorHx28
import Derived.Test.YtfglmghcgoembaaGreatDoorHx1
import Derived.Test.YtfglmghcgoembaaGreatDoorMem7
namespace Go.Proofs.YtfglmghcgoembaaGreatDoor
open Go.RowKit

structure State where
  Name : ByteArray
  Value : Int
  deriving DecidableEq
instance : Inhabited State := ⟨⟨ByteArray.empty, 0⟩⟩
instance : Flat State where
  sz := 2
  pos := by omega
  enc := fun x => [.string (x.Name), .int .i64 (x.Value)]
  len := fun _ => rfl
  one := fun _ u h => by simp at h; rcases h with rfl | rfl <;> rfl
theorem Sl.state {w : World} {A : Option Addr} {n : Nat} {xs : List State} (h : Sl w A n xs) {k : Nat} (hk : k < n) :
    ∃ b o, A = some ⟨b, o, none⟩ ∧ b < w.heap.size ∧ w.cell? ⟨b, o + k * 2, none⟩ = some (.string ((nth xs k).Name)) ∧ w.cell? ⟨b, o + k * 2 + 1, none⟩ = some (.int .i64 ((nth xs k).Value)) := by
  obtain ⟨b, o, rfl, hc⟩ := h.flat hk
  exact ⟨b, o, rfl, h.lt hk, hc 0 _ rfl, hc 1 _ rfl⟩
theorem state_eq {x y : State} : sameB x y = (sameB x.Name y.Name && sameB x.Value y.Value) := by
  cases x; cases y; simp [sameB]
def mkState (m : Int) : State := ⟨mkT m, (m + 1)⟩
end Go.Proofs.YtfglmghcgoembaaGreatDoor

namespace Go.Proofs.YtfglmghcgoembaaGreatDoor
open Go.RowKit

def stateB (x : State) : Bool := nameB x.Name && inB x.Value 0 9999
end Go.Proofs.YtfglmghcgoembaaGreatDoor
