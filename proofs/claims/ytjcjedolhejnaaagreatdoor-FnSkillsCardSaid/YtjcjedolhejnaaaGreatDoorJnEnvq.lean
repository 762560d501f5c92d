/-
  What a row's listed variables give the readers. No conditions.
-/
import Derived.Test.YtjcjedolhejnaaaGreatDoorEnvq
import Derived.Test.YtjcjedolhejnaaaGreatDoorRows
import Derived.Lib.LaidTab
import Derived.Stop.LaidErr
import Derived.Shelf.Vars
namespace Go.Proofs.YtjcjedolhejnaaaGreatDoor
open Go.RowKit

/-- the variables that a row over the readers lists -/
def jnLaid : List (String × DataW Unit) := [("math/bits.deBruijn32tab", Rows.laid_math_bits_deBruijn32tab), ("math/bits.deBruijn64tab", Rows.laid_math_bits_deBruijn64tab), ("internal/strconv.uint64pow10", Rows.laid_internal_strconv_uint64pow10), ("unicode/utf8.acceptRanges", Rows.laid_unicode_utf8_acceptRanges), ("strconv.ErrRange", Rows.laid_strconv_ErrRange), ("strconv.ErrSyntax", Rows.laid_strconv_ErrSyntax), ("unicode/utf8.first", Rows.laid_unicode_utf8_first)]
def jnLaidT : List (String × DataW Unit) := [("math/bits.deBruijn32tab", Rows.laid_math_bits_deBruijn32tab), ("math/bits.deBruijn64tab", Rows.laid_math_bits_deBruijn64tab), ("internal/strconv.uint64pow10", Rows.laid_internal_strconv_uint64pow10)]
theorem pow_data : (Rows.laid_internal_strconv_uint64pow10 : DataW Unit) = Lib.tabData .u64 Lib.pow10Tab := by kernel_rfl
theorem tab_head {W : World} {rest : List (String × DataW Unit)} (h : laidMet Tryz.prog (("internal/strconv.uint64pow10", Rows.laid_internal_strconv_uint64pow10) :: rest) W) : Tab W := by
  rw [pow_data] at h
  exact Lib.tabIs_of_head (g := 5) (by kernel_rfl) (by kernel_rfl) Tryz.underlying145 Tryz.underlying54 (by kernel_rfl) (by kernel_rfl) h
theorem star_err : "*" ++ "errors.errorString" = "*errors.errorString" := by decide
theorem row_err (u : TypeId) (h : Tryz.prog.typeName? 3 u = some "*errors.errorString") : u = 149 :=
  typeName_ptr_named (nm := "errors.errorString") (by rw [star_err]; kernel_rfl) (by kernel_rfl) (by decide) u (by rw [star_err]; exact h)
theorem tab_of {W : World} (h : laidMetH Tryz.prog jnLaidT W) : Tab W := by
  have h : laidMet Tryz.prog jnLaidT W := h
  exact tab_head h.tail.tail
theorem env_of {W : World} (h : laidMetH Tryz.prog jnLaid W) (hs : W.ShapedOpen Tryz.prog) : Env W := by
  have h : laidMet Tryz.prog jnLaid W := h
  refine ⟨tab_head h.tail.tail, ?_, ?_, Tryz.laysSplit.s1_3 W hs⟩
  · obtain ⟨a, s, hv, _, _, _⟩ := laid_sentinel h.tail.tail.tail.tail.tail (g := 3) (ti := 103) (tp := 149) (te := 151) (ts := 9) (by kernel_rfl) (by kernel_rfl) Tryz.underlying103 row_err Tryz.underlying149 Tryz.underlying151 rfl rfl Tryz.underlying9 (by kernel_rfl) (by kernel_rfl)
    exact ⟨_, _, hv⟩
  · obtain ⟨a, s, hv, _, _, _⟩ := laid_sentinel h.tail.tail.tail.tail (g := 4) (ti := 103) (tp := 149) (te := 151) (ts := 9) (by kernel_rfl) (by kernel_rfl) Tryz.underlying103 row_err Tryz.underlying149 Tryz.underlying151 rfl rfl Tryz.underlying9 (by kernel_rfl) (by kernel_rfl)
    exact ⟨_, _, hv⟩
end Go.Proofs.YtjcjedolhejnaaaGreatDoor
