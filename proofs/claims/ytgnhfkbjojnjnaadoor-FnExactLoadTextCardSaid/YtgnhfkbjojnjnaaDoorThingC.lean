/-
  Things: the exported tests. No conditions.
-/
import Derived.Test.YtgnhfkbjojnjnaaDoorThingB
namespace Go.Proofs.YtgnhfkbjojnjnaaDoor
open Go.RowKit

end Go.Proofs.YtgnhfkbjojnjnaaDoor
