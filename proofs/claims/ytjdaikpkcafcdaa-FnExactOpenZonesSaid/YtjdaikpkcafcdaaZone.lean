/-
  Open zones: both texts answer openL. No conditions.
-/
import Derived.Test.YtjdaikpkcafcdaaDetB
import Derived.Test.YtjdaikpkcafcdaaMem2
import Derived.Test.YtjdaikpkcafcdaaInts
namespace Go.Proofs.Ytjdaikpkcafcdaa
open Go.RowKit

def someB (l : List Det) (z : Int) : Bool := l.any (fun d => d.Zone == z)
def liveB (l : List Det) (z : Int) : Bool := l.any (fun d => d.Zone == z && !d.Off)
def zoneB (l : List Det) (z : Int) : Bool := someB l z && !liveB l z
/-- The open ones among the first k zones. -/
def openTo (l : List Det) (k : Nat) : List Int := ((List.range k).map (fun i : Nat => (i : Int) + 1)).filter (zoneB l)
theorem openTo_succ (l : List Det) (k : Nat) : openTo l (k + 1) = openTo l k ++ (if zoneB l ((k : Int) + 1) then [(k : Int) + 1] else []) := by
  unfold openTo
  rw [List.range_succ, List.map_append, List.filter_append]
  congr 1
  simp [List.filter_cons]
theorem openTo_yes {l : List Det} {k : Nat} (h : zoneB l ((k : Int) + 1) = true) : openTo l (k + 1) = openTo l k ++ [(k : Int) + 1] := by rw [openTo_succ, if_pos h]
theorem openTo_no {l : List Det} {k : Nat} (h : zoneB l ((k : Int) + 1) = false) : openTo l (k + 1) = openTo l k := by rw [openTo_succ, h]; simp
theorem someB_succ {l : List Det} {k : Nat} (hk : k < l.length) (z : Int) : someB (l.take (k + 1)) z = (someB (l.take k) z || (nth l k).Zone == z) := by
  rw [take_succ hk]; simp [someB]
theorem liveB_succ {l : List Det} {k : Nat} (hk : k < l.length) (z : Int) : liveB (l.take (k + 1)) z = (liveB (l.take k) z || ((nth l k).Zone == z && !(nth l k).Off)) := by
  rw [take_succ hk]; simp [liveB]
theorem openTo_len (l : List Det) (k : Nat) : (openTo l k).length ≤ k := by
  unfold openTo
  exact Nat.le_trans (List.length_filter_le _ _) (by simp)

def openZ (l : List Det) : List Int × Bool := if detsB l then (openTo l 9, true) else ([], false)
theorem openZ_yes {l : List Det} (h : detsB l = true) : openZ l = (openTo l 9, true) := by unfold openZ; rw [if_pos h]
theorem openZ_no {l : List Det} (h : detsB l = false) : openZ l = ([], false) := by unfold openZ; rw [h]; rfl

set_option maxHeartbeats 1000000 in
theorem specOpenZones_any (xs : List Det) (A : Option Addr) (n c : Nat) (w : World) (hn : (n : Int) ≤ 9223372036854775807) (hs : Sl w A n xs) :
    Calls Try.prog 19 #[.slice A n c] w (RetOwn2 w 3 (openZ xs)) := by
  have HL := Lib.hid hs.1
  cases hg : detsB xs
  · have Hz := Lib.hid (openZ_no hg)
    go_enter Try.func19, Try.ntmps19
    go_wp2_with (go_at_call 38; refine (alGood_any xs _ _ _ _ hn hs).mono ?_; rintro e V ⟨rfl, hV⟩)
    go_ret2
    exact retOwn2_mk Hz.out (Own.nil _ _ _) hV
  have Hz := Lib.hid (openZ_yes hg)
  go_enter Try.func19, Try.ntmps19
  go_wp2_with (go_at_call 38; refine (alGood_any xs _ _ _ _ hn hs).mono ?_; rintro e V ⟨rfl, hV⟩)
  clear hg
  go_loopw [4, 5] (fun v i wr => ∃ (k m c' : Nat) (A' : Option Addr), k ≤ 9 ∧ i = .int .i64 ((k : Int) + 1) ∧ v = .slice A' m c' ∧ Own wr w.heap.size 3 (.slice A' m c') (openTo xs k) ∧ Below w.heap.size w wr) (fun _ i _ => (10 - (intOf i).toNat))
  case atStart => exact ⟨0, 0, 0, none, by omega, rfl, rfl, Own.nil _ _ _, hV⟩
  case round =>
    obtain ⟨k, m, c', A', hk, rfl, rfl, ho, hb⟩ := hrel
    have hm : m ≤ 9 := by have := ho.sl.1; have := openTo_len xs k; omega
    by_cases hlt : k < 9
    · have hs' := hs.below hb
      obtain ⟨wo, rfl⟩ : ∃ wo : World, wo = wr := ⟨_, rfl⟩
      clear hs hV
      go_wp2_with fail
      go_loopw [6, 7, 19] (fun p q i wr => ∃ j : Nat, j ≤ n ∧ i = .int .i64 j ∧ p = .bool (someB (xs.take j) ((k : Int) + 1)) ∧ q = .bool (liveB (xs.take j) ((k : Int) + 1)) ∧ Below wo.heap.size wo wr) (fun _ _ i _ => n - (intOf i).toNat)
      case atStart => exact ⟨0, Nat.zero_le _, rfl, rfl, rfl, bl_refl _⟩
      case round =>
        obtain ⟨j, hj, rfl, rfl, rfl, hbi⟩ := hrel
        by_cases hjn : j < n
        · obtain ⟨b, o, rfl, hbz, c0, c1, c2, c3⟩ := (hs'.below hbi).det hjn
          have hS := Lib.hid (someB_succ (l := xs) (k := j) (by rw [HL.out]; exact hjn) ((k : Int) + 1))
          have hT := Lib.hid (liveB_succ (l := xs) (k := j) (by rw [HL.out]; exact hjn) ((k : Int) + 1))
          clear hs' ho
          cases hz : (nth xs j).Zone == (k : Int) + 1
          · have hz' := Lib.hid hz
            go_wp2
            go_roundw
            case rel => exact ⟨j + 1, by omega, by go_num, by rw [hS.out, hz'.out, Bool.or_false], by rw [hT.out, hz'.out, Bool.false_and, Bool.or_false], bl_alloc hbi _⟩
            case measure => simp [intOf]; omega
          · have hz' := Lib.hid hz
            cases hl : liveB (xs.take j) ((k : Int) + 1)
            all_goals
              have hl' := Lib.hid hl
              clear hl
              go_wp2
              go_roundw
              case rel => exact ⟨j + 1, by omega, by go_num, by rw [hS.out, hz'.out, Bool.or_true], by rw [hT.out, hz'.out, hl'.out]; simp, bl_alloc hbi _⟩
              case measure => simp [intOf]; omega
        · obtain rfl : j = n := by omega
          have ho' := ho.below hbi
          have hb' := bl_trans hb hbi
          have hx : xs.take j = xs := List.take_of_length_le (by rw [HL.out]; omega)
          rw [hx]
          clear hs' ho hb hx
          cases h1 : someB xs ((k : Int) + 1)
          · have hq : Hid (zoneB xs ((k : Int) + 1) = false) := by simp [Hid, zoneB, h1]
            clear h1
            go_wp2
            go_roundw
            case rel => exact ⟨k + 1, m, c', A', by omega, by go_num, rfl, by rw [openTo_no hq.out]; exact ho', hb'⟩
            case measure => simp [intOf]; omega
          · cases h2 : liveB xs ((k : Int) + 1)
            · have hq : Hid (zoneB xs ((k : Int) + 1) = true) := by simp [Hid, zoneB, h1, h2]
              clear h1 h2
              go_wp2_with ((at_builtin; refine wpList_app1 rfl (.tmp 39) (.tmp 41) _ _ rfl el_int ((k : Int) + 1) rfl ho' hb' rfl (by omega) ?_; intro A2 c2 w2 ho2 hb2 hg2))
              go_roundw
              case rel => exact ⟨k + 1, m + 1, c2, A2, by omega, by go_num, rfl, by rw [openTo_yes hq.out]; exact ho2, hb2⟩
              case measure => simp [intOf]; omega
            · have hq : Hid (zoneB xs ((k : Int) + 1) = false) := by simp [Hid, zoneB, h2]
              clear h1 h2
              go_wp2
              go_roundw
              case rel => exact ⟨k + 1, m, c', A', by omega, by go_num, rfl, by rw [openTo_no hq.out]; exact ho', hb'⟩
              case measure => simp [intOf]; omega
    · obtain rfl : k = 9 := by omega
      go_wp2
      go_ret2
      exact retOwn2_mk Hz.out ho hb
end Go.Proofs.Ytjdaikpkcafcdaa
