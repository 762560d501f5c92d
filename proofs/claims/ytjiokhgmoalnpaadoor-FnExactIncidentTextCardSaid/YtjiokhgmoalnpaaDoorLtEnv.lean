/-
  What a row's listed variables give Itoa. No conditions.
-/
import Derived.Test.YtjiokhgmoalnpaaDoorEnvT
import Derived.Test.YtjiokhgmoalnpaaDoorRows
import Derived.Lib.LaidTab
import Derived.Stop.LaidErr
import Derived.Shelf.Vars
namespace Go.Proofs.YtjiokhgmoalnpaaDoor
open Go.RowKit

def jnLaidT : List (String × DataW Unit) := [("math/bits.deBruijn32tab", Rows.laid_math_bits_deBruijn32tab), ("math/bits.deBruijn64tab", Rows.laid_math_bits_deBruijn64tab), ("internal/strconv.uint64pow10", Rows.laid_internal_strconv_uint64pow10)]
theorem pow_data : (Rows.laid_internal_strconv_uint64pow10 : DataW Unit) = Lib.tabData .u64 Lib.pow10Tab := by kernel_rfl
theorem tab_head {W : World} {rest : List (String × DataW Unit)} (h : laidMet Tryd.prog (("internal/strconv.uint64pow10", Rows.laid_internal_strconv_uint64pow10) :: rest) W) : Tab W := by
  rw [pow_data] at h
  exact Lib.tabIs_of_head (g := 5) (by kernel_rfl) (by kernel_rfl) Tryd.underlying134 Tryd.underlying118 (by kernel_rfl) (by kernel_rfl) h
theorem tab_of {W : World} (h : laidMetH Tryd.prog jnLaidT W) : Tab W := by
  have h : laidMet Tryd.prog jnLaidT W := h
  exact tab_head h.tail.tail

end Go.Proofs.YtjiokhgmoalnpaaDoor
