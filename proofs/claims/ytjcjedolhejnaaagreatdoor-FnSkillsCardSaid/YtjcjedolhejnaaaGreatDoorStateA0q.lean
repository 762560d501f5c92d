/-
  States: the tests of one answer stateB. No conditions.
-/
import Derived.Test.YtjcjedolhejnaaaGreatDoorState
import Derived.Test.YtjcjedolhejnaaaGreatDoorNamesI
import Derived.Test.YtjcjedolhejnaaaGreatDoorMem7
namespace Go.Proofs.YtjcjedolhejnaaaGreatDoor
open Go.RowKit

def stateB (x : State) : Bool := nameB x.Name && inB x.Value 0 9999
end Go.Proofs.YtjcjedolhejnaaaGreatDoor
