/-
  Several texts in one. No conditions.
-/
import Derived.Test.YtfglmghcgoembaaGreatDoorHx1
import Derived.Test.YtfglmghcgoembaaGreatDoorMem7
import Derived.Deep.Cut
import Derived.Test.YtfglmghcgoembaaGreatDoorHx28
import Derived.Test.YtfglmghcgoembaaGreatDoorRows
import Derived.Lib.LaidTab
import Derived.Stop.LaidErr
import Derived.Shelf.Vars
namespace Go.Proofs.YtfglmghcgoembaaGreatDoor
open Go.RowKit

set_option maxHeartbeats 4000000 in
/-- two slices that read alike -/
theorem pSameEntries_same (A B : Option Addr) (n c d : Nat) (xs : List Entry) (w : World) (hn : n ≤ 1048576) (hs : Sl w A n xs) (ht : Sl w B n xs) :
    Calls Tryz.prog 10 #[.slice A n c, .slice B n d] w fun e w' => e = .returned (.bool true) ∧ Below w.heap.size w w' := by
  have HS := Lib.hid hs
  have HT := Lib.hid ht
  clear hs ht
  go_enter Tryz.func10, Tryz.ntmps10
  go_wp2
  go_loopw [13] (fun iv wr => ∃ i : Nat, i ≤ n ∧ iv = .int .i64 i ∧ Below w.heap.size w wr) (fun iv _ => n - (intOf iv).toNat)
  case atStart => exact ⟨0, Nat.zero_le _, rfl, bl_refl _⟩
  case round =>
    obtain ⟨i, hi, rfl, hb⟩ := hrel
    by_cases hlt : i < n
    · obtain ⟨b, o, rfl, hbz, c0, c1, c2, c3⟩ := (HS.out.below hb).entry hlt
      obtain ⟨b', o', rfl, hbz', d0, d1, d2, d3⟩ := (HT.out.below hb).entry hlt
      have hid : (i : Int) < n := by omega
      go_upto_region 6 with fail
      refine wp_region_grow (by kernel_rfl) (by kernel_rfl) (fun X hX => ?_)
      have hbX : Below wr.heap.size wr X := by rw [hX]; exact bl_refl _
      have q0 := Gw.cell (cell_later hbX c0)
      have q1 := Gw.cell (cell_later hbX c1)
      have q2 := Gw.cell (cell_later hbX c2)
      have q3 := Gw.cell (cell_later hbX c3)
      have q4 := Gw.cell (cell_later hbX d0)
      have q5 := Gw.cell (cell_later hbX d1)
      have q6 := Gw.cell (cell_later hbX d2)
      have q7 := Gw.cell (cell_later hbX d3)
      have HX := Lib.hid hX
      clear hX
      repeat (go_big_quiet_step (fail))
      refine wpGrow_nil (fun V6 hV => ?_)
      have hb6 := bl_trans hb (bl_trans hbX hV)
      clear hV hbX HX q0 q1 q2 q3 q4 q5 q6 q7 c0 c1 c2 c3 d0 d1 d2 d3
      go_wp2
      go_roundw
      case rel => exact ⟨i + 1, by omega, by go_num, hb6⟩
      case measure => simp [intOf]; omega
    · go_wp2
      go_ret
      exact ⟨rfl, hb⟩

end Go.Proofs.YtfglmghcgoembaaGreatDoor

namespace Go.Proofs.YtfglmghcgoembaaGreatDoor
open Go.RowKit

def jnLaidT : List (String × DataW Unit) := [("math/bits.deBruijn32tab", Rows.laid_math_bits_deBruijn32tab), ("math/bits.deBruijn64tab", Rows.laid_math_bits_deBruijn64tab), ("internal/strconv.uint64pow10", Rows.laid_internal_strconv_uint64pow10)]
theorem pow_data : (Rows.laid_internal_strconv_uint64pow10 : DataW Unit) = Lib.tabData .u64 Lib.pow10Tab := by kernel_rfl
theorem tab_head {W : World} {rest : List (String × DataW Unit)} (h : laidMet Tryz.prog (("internal/strconv.uint64pow10", Rows.laid_internal_strconv_uint64pow10) :: rest) W) : Tab W := by
  rw [pow_data] at h
  exact Lib.tabIs_of_head (g := 1) (by kernel_rfl) (by kernel_rfl) Tryz.underlying113 Tryz.underlying43 (by kernel_rfl) (by kernel_rfl) h
theorem tab_of {W : World} (h : laidMetH Tryz.prog jnLaidT W) : Tab W := by
  have h : laidMet Tryz.prog jnLaidT W := h
  exact tab_head h.tail.tail

end Go.Proofs.YtfglmghcgoembaaGreatDoor
