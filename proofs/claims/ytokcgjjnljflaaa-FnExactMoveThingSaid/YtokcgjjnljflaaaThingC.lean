/-
  Things: the exported tests. No conditions.
-/
import Derived.Test.YtokcgjjnljflaaaThingB
namespace Go.Proofs.Ytokcgjjnljflaaa
open Go.RowKit

end Go.Proofs.Ytokcgjjnljflaaa
