/-
  Incidents compared by a law. No conditions.
-/
import Derived.Test.YtnaadihbkiakeaaSaT
import Derived.Test.YtnaadihbkiakeaaIncV
import Derived.Deep.Cut
import Derived.Deep.RegionWith
import Derived.Deep.QuietTactic
import Derived.BigQuiet
namespace Go.Proofs.Ytnaadihbkiakeaa
open Go.RowKit

set_option maxHeartbeats 4000000 in
theorem pSameIncident_same (num node : Int) (cl : Bool) (A B : Option Addr) (n c d : Nat) (l : List ByteArray) (w : World) (hn : n ≤ 1048576) (hs : Sl w A n l) (ht : Sl w B n l) :
    Calls Try.prog 105 #[.agg #[.int .i64 num, .int .i64 node, .bool cl, .slice A n c], .agg #[.int .i64 num, .int .i64 node, .bool cl, .slice B n d]] w fun e w' => e = .returned (.bool true) ∧ Below w.heap.size w w' := by
  go_enter Try.func105, Try.ntmps105
  go_wp2_with fail
  refine (pSameTexts_same _ _ _ _ _ l _ hn (hs.below (bl_alloc (bl_alloc (bl_refl _) _) _)) (ht.below (bl_alloc (bl_alloc (bl_refl _) _) _))).mono ?_
  rintro e V1 ⟨rfl, hb⟩
  go_wp2
  go_ret
  exact ⟨rfl, bl_trans (bl_alloc (bl_alloc (bl_refl _) _) _) hb⟩
set_option maxHeartbeats 8000000 in
/-- two lists that read alike -/
theorem pSameIncidents_same (A B : Option Addr) (n c d : Nat) (xs : List Incident) (w : World) (hn : n ≤ 1048576) (hin : ∀ x, x ∈ xs → x.Names.length ≤ 1048576) (hs : Sl w A n xs) (ht : Sl w B n xs) :
    Calls Try.prog 36 #[.slice A n c, .slice B n d] w fun e w' => e = .returned (.bool true) ∧ Below w.heap.size w w' := by
  have HL := Lib.hid hs.1
  have HS := Lib.hid hs
  have HT := Lib.hid ht
  have HI := Lib.hid hin
  clear hs ht hin
  go_enter Try.func36, Try.ntmps36
  go_wp2
  go_loopw [13] (fun iv wr => ∃ i : Nat, i ≤ n ∧ iv = .int .i64 i ∧ Below w.heap.size w wr) (fun iv _ => n - (intOf iv).toNat)
  case atStart => exact ⟨0, Nat.zero_le _, rfl, bl_refl _⟩
  case round =>
    obtain ⟨i, hi, rfl, hb⟩ := hrel
    by_cases hlt : i < n
    · obtain ⟨b, o, A1, e1, rfl, hbz, c0, c1, c2, c3, hs1, _⟩ := (HS.out.below hb).incident hlt
      obtain ⟨b', o', A2, e2, rfl, hbz', d0, d1, d2, d3, hs2, _⟩ := (HT.out.below hb).incident hlt
      have hnz := Lib.hid (HI.out _ (nth_mem (xs := xs) (by rw [HL.out]; exact hlt)))
      have hid : (i : Int) < n := by omega
      go_upto_region 6 with fail
      refine wp_region_grow (by kernel_rfl) (by kernel_rfl) (fun X hX => ?_)
      have hbX : Below wr.heap.size wr X := by rw [hX]; exact bl_refl _
      have q0 := Gw.cell (cell_later hbX c0)
      have q1 := Gw.cell (cell_later hbX c1)
      have q2 := Gw.cell (cell_later hbX c2)
      have q3 := Gw.cell (cell_later hbX c3)
      have q4 := Gw.cell (cell_later hbX d0)
      have q5 := Gw.cell (cell_later hbX d1)
      have q6 := Gw.cell (cell_later hbX d2)
      have q7 := Gw.cell (cell_later hbX d3)
      have HX := Lib.hid hX
      clear hX
      repeat (go_big_quiet_step ((go_at_call 105; exact Calls.grow_of (pSameIncident_same _ _ _ _ _ _ _ _ _ _ hnz.out ((hs1.below hbX).below (Subtype.property _)) ((hs2.below hbX).below (Subtype.property _))))))
      refine wpGrow_nil (fun V6 hV => ?_)
      have hb6 := bl_trans hb (bl_trans hbX hV)
      clear hV hbX HX q0 q1 q2 q3 q4 q5 q6 q7 c0 c1 c2 c3 d0 d1 d2 d3 hs1 hs2
      go_wp2
      go_roundw
      case rel => exact ⟨i + 1, by omega, by go_num, hb6⟩
      case measure => simp [intOf]; omega
    · go_wp2
      go_ret
      exact ⟨rfl, hb⟩

end Go.Proofs.Ytnaadihbkiakeaa
