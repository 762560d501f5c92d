/-
  States: the tests of one answer stateB. No conditions.
-/
import Derived.Test.YtjiokhgmoalnpaaDoorState
import Derived.Test.YtjiokhgmoalnpaaDoorNamesI
import Derived.Test.YtjiokhgmoalnpaaDoorMem7
namespace Go.Proofs.YtjiokhgmoalnpaaDoor
open Go.RowKit

def stateB (x : State) : Bool := nameB x.Name && inB x.Value 0 9999
end Go.Proofs.YtjiokhgmoalnpaaDoor
