/-
  Integers compared by a law. No conditions.
-/
import Derived.Test.YtgjnjfaohpmhkaaInts
import Derived.Test.YtgjnjfaohpmhkaaMem7
import Derived.Deep.Cut
namespace Go.Proofs.Ytgjnjfaohpmhkaa
open Go.RowKit

set_option maxHeartbeats 4000000 in
/-- two slices that read alike -/
theorem sameInts_same (A B : Option Addr) (n c d : Nat) (xs : List Int) (w : World) (hn : n ≤ 1048576) (hs : Sl w A n xs) (ht : Sl w B n xs) :
    Calls Try.prog 19 #[.slice A n c, .slice B n d] w fun e w' => e = .returned (.bool true) ∧ Below w.heap.size w w' := by
  have HS := Lib.hid hs
  have HT := Lib.hid ht
  clear hs ht
  go_enter Try.func19, Try.ntmps19
  go_wp2
  go_loopw [13] (fun iv wr => ∃ i : Nat, i ≤ n ∧ iv = .int .i64 i ∧ Below w.heap.size w wr) (fun iv _ => n - (intOf iv).toNat)
  case atStart => exact ⟨0, Nat.zero_le _, rfl, bl_refl _⟩
  case round =>
    obtain ⟨i, hi, rfl, hb⟩ := hrel
    by_cases hlt : i < n
    · obtain ⟨b, o, rfl, hbz, c0⟩ := (HS.out.below hb).int hlt
      obtain ⟨b', o', rfl, hbz', d0⟩ := (HT.out.below hb).int hlt
      have hid : (i : Int) < n := by omega
      go_upto_region 6 with fail
      refine wp_region_grow (by kernel_rfl) (by kernel_rfl) (fun X hX => ?_)
      have hbX : Below wr.heap.size wr X := by rw [hX]; exact bl_refl _
      have q0 := Gw.cell (cell_later hbX c0)
      have q1 := Gw.cell (cell_later hbX d0)
      have HX := Lib.hid hX
      clear hX
      repeat (go_big_quiet_step (fail))
      refine wpGrow_nil (fun V6 hV => ?_)
      have hb6 := bl_trans hb (bl_trans hbX hV)
      clear hV hbX HX q0 q1 c0 d0
      go_wp2
      go_roundw
      case rel => exact ⟨i + 1, by omega, by go_num, hb6⟩
      case measure => simp [intOf]; omega
    · go_wp2
      go_ret
      exact ⟨rfl, hb⟩

end Go.Proofs.Ytgjnjfaohpmhkaa
