/-
  States: the tests of one answer stateB. No conditions.
-/
import Derived.Test.YtjjmiapopjaoeaaDoorState
import Derived.Test.YtjjmiapopjaoeaaDoorNamesI
import Derived.Test.YtjjmiapopjaoeaaDoorMem7
namespace Go.Proofs.YtjjmiapopjaoeaaDoor
open Go.RowKit

def stateB (x : State) : Bool := nameB x.Name && inB x.Value 0 9999
end Go.Proofs.YtjjmiapopjaoeaaDoor
