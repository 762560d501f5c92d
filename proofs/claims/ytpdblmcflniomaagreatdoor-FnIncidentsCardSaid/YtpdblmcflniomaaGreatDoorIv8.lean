/-
  Several texts in one. No conditions.
-/
import Derived.Test.YtpdblmcflniomaaGreatDoorIv3
import Derived.Test.YtpdblmcflniomaaGreatDoorIv7
import Derived.Deep.Cut
import Derived.Deep.RegionWith
import Derived.Deep.QuietTactic
import Derived.BigQuiet
import Derived.Test.YtpdblmcflniomaaGreatDoorIv6
import Derived.Test.YtpdblmcflniomaaGreatDoorIv0
import Derived.Test.YtpdblmcflniomaaGreatDoorLays
import Derived.Lib.ItoaMem
namespace Go.Proofs.YtpdblmcflniomaaGreatDoor
open Go.RowKit

set_option maxHeartbeats 4000000 in
theorem pSameIncident_same (num node : Int) (cl : Bool) (A B : Option Addr) (n c d : Nat) (l : List ByteArray) (w : World) (hn : n ≤ 1048576) (hs : Sl w A n l) (ht : Sl w B n l) :
    Calls Tryz.prog 31 #[.agg #[.int .i64 num, .int .i64 node, .bool cl, .slice A n c], .agg #[.int .i64 num, .int .i64 node, .bool cl, .slice B n d]] w fun e w' => e = .returned (.bool true) ∧ Below w.heap.size w w' := by
  go_enter Tryz.func31, Tryz.ntmps31
  go_wp2_with fail
  refine (pSameTexts_same _ _ _ _ _ l _ hn (hs.below (bl_alloc (bl_alloc (bl_refl _) _) _)) (ht.below (bl_alloc (bl_alloc (bl_refl _) _) _))).mono ?_
  rintro e V1 ⟨rfl, hb⟩
  go_wp2
  go_ret
  exact ⟨rfl, bl_trans (bl_alloc (bl_alloc (bl_refl _) _) _) hb⟩
set_option maxHeartbeats 8000000 in
/-- two lists that read alike -/
theorem pSameIncidents_same (A B : Option Addr) (n c d : Nat) (xs : List Incident) (w : World) (hn : n ≤ 1048576) (hin : ∀ x, x ∈ xs → x.Names.length ≤ 1048576) (hs : Sl w A n xs) (ht : Sl w B n xs) :
    Calls Tryz.prog 8 #[.slice A n c, .slice B n d] w fun e w' => e = .returned (.bool true) ∧ Below w.heap.size w w' := by
  have HL := Lib.hid hs.1
  have HS := Lib.hid hs
  have HT := Lib.hid ht
  have HI := Lib.hid hin
  clear hs ht hin
  go_enter Tryz.func8, Tryz.ntmps8
  go_wp2
  go_loopw [13] (fun iv wr => ∃ i : Nat, i ≤ n ∧ iv = .int .i64 i ∧ Below w.heap.size w wr) (fun iv _ => n - (intOf iv).toNat)
  case atStart => exact ⟨0, Nat.zero_le _, rfl, bl_refl _⟩
  case round =>
    obtain ⟨i, hi, rfl, hb⟩ := hrel
    by_cases hlt : i < n
    · obtain ⟨b, o, A1, e1, rfl, hbz, c0, c1, c2, c3, hs1, _⟩ := (HS.out.below hb).incident hlt
      obtain ⟨b', o', A2, e2, rfl, hbz', d0, d1, d2, d3, hs2, _⟩ := (HT.out.below hb).incident hlt
      have hnz := Lib.hid (HI.out _ (nth_mem (xs := xs) (by rw [HL.out]; exact hlt)))
      have hid : (i : Int) < n := by omega
      go_upto_region 6 with fail
      refine wp_region_grow (by kernel_rfl) (by kernel_rfl) (fun X hX => ?_)
      have hbX : Below wr.heap.size wr X := by rw [hX]; exact bl_refl _
      have q0 := Gw.cell (cell_later hbX c0)
      have q1 := Gw.cell (cell_later hbX c1)
      have q2 := Gw.cell (cell_later hbX c2)
      have q3 := Gw.cell (cell_later hbX c3)
      have q4 := Gw.cell (cell_later hbX d0)
      have q5 := Gw.cell (cell_later hbX d1)
      have q6 := Gw.cell (cell_later hbX d2)
      have q7 := Gw.cell (cell_later hbX d3)
      have HX := Lib.hid hX
      clear hX
      repeat (go_big_quiet_step ((go_at_call 31; exact Calls.grow_of (pSameIncident_same _ _ _ _ _ _ _ _ _ _ hnz.out ((hs1.below hbX).below (Subtype.property _)) ((hs2.below hbX).below (Subtype.property _))))))
      refine wpGrow_nil (fun V6 hV => ?_)
      have hb6 := bl_trans hb (bl_trans hbX hV)
      clear hV hbX HX q0 q1 q2 q3 q4 q5 q6 q7 c0 c1 c2 c3 d0 d1 d2 d3 hs1 hs2
      go_wp2
      go_roundw
      case rel => exact ⟨i + 1, by omega, by go_num, hb6⟩
      case measure => simp [intOf]; omega
    · go_wp2
      go_ret
      exact ⟨rfl, hb⟩

end Go.Proofs.YtpdblmcflniomaaGreatDoor

namespace Go.Proofs.YtpdblmcflniomaaGreatDoor
open Go.RowKit

set_option maxHeartbeats 2000000 in
theorem pHas_any0 (L : List ByteArray) (v : ByteArray) (A : Option Addr) (n c : Nat) (w : World) (hn : n ≤ 1048576) (hs : Sl w A n L) :
    Calls Tryz.prog 24 #[.slice A n c, .string v] w fun e w' => e = .returned (.bool (L.any (fun x : ByteArray => x.toList == v.toList))) ∧ Below w.heap.size w w' := by
  have HL := Lib.hid hs.1
  have HS := Lib.hid hs
  clear hs
  go_enter Tryz.func24, Tryz.ntmps24
  go_wp2
  go_loopw [9] (fun iv wr => ∃ k : Nat, k ≤ n ∧ iv = .int .i64 k ∧ Hid (∀ j, j < k → (fun x : ByteArray => x.toList == v.toList) (nth L j) = false) ∧ Below w.heap.size w wr) (fun iv _ => n - (intOf iv).toNat)
  case atStart => exact ⟨0, Nat.zero_le _, rfl, fun j hj => absurd hj (by omega), bl_refl _⟩
  case round =>
    obtain ⟨k, hk, rfl, hg, hb⟩ := hrel
    by_cases hlt : k < n
    · obtain ⟨b, o, rfl, _, c0⟩ := (HS.out.below hb).str hlt
      cases hp : (fun x : ByteArray => x.toList == v.toList) (nth L k)
      · have hp' := Lib.hid hp
        have hp1 : ((nth L k).toList == v.toList) = false := hp
        have hp2 : (v.toList == (nth L k).toList) = false := by rw [BEq.comm]; exact hp
        clear hp
        go_wp2
        go_roundw
        case rel => exact ⟨k + 1, by omega, by go_num, upto_succ hg hp'.out, hb⟩
        case measure => simp [intOf]; omega
      · have hp' := Lib.hid (any_yes (p := fun x : ByteArray => x.toList == v.toList) (by rw [HL.out]; exact hlt) hp)
        have hp1 : ((nth L k).toList == v.toList) = true := hp
        have hp2 : (v.toList == (nth L k).toList) = true := by rw [BEq.comm]; exact hp
        clear hp
        go_wp2
        go_ret
        exact ⟨ret_bool hp'.out.symm, hb⟩
    · obtain rfl : k = n := by omega
      have hp' := Lib.hid (any_no (p := fun x : ByteArray => x.toList == v.toList) (xs := L) (by rw [HL.out]; exact hg.out))
      go_wp2
      go_ret
      exact ⟨ret_bool hp'.out.symm, hb⟩
theorem pHas_any (L : List ByteArray) (v : ByteArray) (A : Option Addr) (n c : Nat) (w : World) (hn : n ≤ 1048576) (hs : Sl w A n L) :
    Calls Tryz.prog 24 #[.slice A n c, .string v] w fun e w' => e = .returned (.bool (hasS L v)) ∧ Below w.heap.size w w' := pHas_any0 L v A n c w hn hs
end Go.Proofs.YtpdblmcflniomaaGreatDoor

namespace Go.Proofs.YtpdblmcflniomaaGreatDoor
open Go.RowKit

theorem var_below {P : Program} {w w' : World} {name : String} {v : Array Value} (h : w.var? P name = some v) (hb : Below w.heap.size w w') : w'.var? P name = some v := by
  unfold World.var? at h ⊢
  cases hg : P.globalNamed name with
  | none => rw [hg] at h; cases h
  | some g =>
    rw [hg] at h
    simp only [Option.bind_some] at h ⊢
    have hlt : g < w.heap.size := by
      rcases Nat.lt_or_ge g w.heap.size with h' | h'
      · exact h'
      · rw [Array.getElem?_eq_none h'] at h; cases h
    rw [hb.block g hlt]
    exact h
/-- the table of the powers of ten -/
def Tab (w : World) : Prop := Lib.TabIs Tryz.prog w "internal/strconv.uint64pow10" .u64 Lib.pow10Tab
theorem Tab.below {w w' : World} (h : Tab w) (hb : Below w.heap.size w w') : Tab w' := var_below h hb
theorem below_grow (w : World) (q : Nat) (os : Array Obj) : Below w.heap.size w (Sort.grow (w.drewN q) os) := by
  refine ⟨rfl, rfl, rfl, ?_, fun k hk => ?_⟩
  · simp [Sort.grow]
  · simp only [Sort.grow]
    exact Array.getElem?_append_left (by simpa using hk)
def itB (n : Int) : ByteArray := ⟨(Lib.itoa n).toArray⟩
theorem itoa_any (n : Int) (w : World) (h0 : -9223372036854775808 ≤ n) (h1 : n ≤ 9223372036854775807) (ht : Tab w) :
    Calls Tryz.prog 117 #[.int .i64 n] w fun e w' => e = .returned (.string (itB n)) ∧ Below w.heap.size w w' :=
  (Any.strconv_Itoa Tryz.laysItoa n h0 h1 w ht).mono fun e w' ⟨he, k, os, hw⟩ => ⟨he, by rw [hw]; exact below_grow _ _ _⟩
end Go.Proofs.YtpdblmcflniomaaGreatDoor
