/-
  Two results that share no memory. No conditions.
-/
import Derived.Test.YtokcgjjnljflaaaMvJ
import Derived.Test.YtokcgjjnljflaaaMvJs
import Derived.Test.YtokcgjjnljflaaaOpL
import Derived.Test.YtokcgjjnljflaaaMem3
import Derived.Test.YtokcgjjnljflaaaMvX
namespace Go.Proofs.Ytokcgjjnljflaaa
open Go.RowKit

theorem apL {v u : Value} (h : ∀ k, v.ownBlock = some k → u.ownBlock ≠ some k) : ∀ k, k ∈ v.ownBlock.toList → k ∉ u.ownBlock.toList := fun k hk hm => h k (by simpa using hk) (by simpa using hm)
theorem apR {v u : Value} (h : ∀ k, v.ownBlock = some k → u.ownBlock ≠ some k) : ∀ k, k ∈ u.ownBlock.toList → k ∉ v.ownBlock.toList := fun k hk hm => h k (by simpa using hm) (by simpa using hk)
theorem sizeIs {P : Program} {f : FuncId} {args : Array Value} {W : World} {Q : Ending → World → Prop} (n : Nat) (_h : W.heap.size = n) (k : Calls P f args W Q) : Calls P f args W Q := k

end Go.Proofs.Ytokcgjjnljflaaa
