/-
  OpenNumbers: both texts answer openF. No conditions.
-/
import Derived.Test.YtnaadihbkiakeaaIncU
import Derived.Test.YtnaadihbkiakeaaIncV
import Derived.Test.YtnaadihbkiakeaaIntsO
namespace Go.Proofs.Ytnaadihbkiakeaa
open Go.RowKit

theorem fmap_yes {α β : Type} [Inhabited α] {f : α → Option β} {xs : List α} {k : Nat} {y : β} (hk : k < xs.length) (h : f (nth xs k) = some y) : (xs.take (k + 1)).filterMap f = (xs.take k).filterMap f ++ [y] := by
  rw [take_succ hk, List.filterMap_append]; simp [h]
theorem fmap_no {α β : Type} [Inhabited α] {f : α → Option β} {xs : List α} {k : Nat} (hk : k < xs.length) (h : f (nth xs k) = none) : (xs.take (k + 1)).filterMap f = (xs.take k).filterMap f := by
  rw [take_succ hk, List.filterMap_append]; simp [h]
def openG (x : Incident) : Option Int := if x.Closed then none else some x.Number
def openL (xs : List Incident) : List Int := xs.filterMap openG
def openF (xs : List Incident) : List Int × Bool := if incsB xs then (openL xs, true) else ([], false)
theorem openG_yes {x : Incident} (h : x.Closed = false) : openG x = some x.Number := by unfold openG; rw [h]; rfl
theorem openG_no {x : Incident} (h : x.Closed = true) : openG x = none := by unfold openG; rw [h]; rfl
theorem openF_yes {xs : List Incident} (h : incsB xs = true) : openF xs = (openL xs, true) := by unfold openF; rw [if_pos h]
theorem openF_no {xs : List Incident} (h : incsB xs = false) : openF xs = ([], false) := by unfold openF; rw [if_neg (by rw [h]; exact Bool.false_ne_true)]
theorem openF_len (xs : List Incident) : (openF xs).1.length ≤ 1048576 := by
  unfold openF; split
  · rename_i h
    have h1 := incsB_len h
    have h2 : (openL xs).length ≤ xs.length := List.length_filterMap_le _ _
    simp only; omega
  · simp
set_option maxHeartbeats 2000000 in
theorem openNumbers_any (xs : List Incident) (A : Option Addr) (n c : Nat) (w : World) (hn : n ≤ 1048576) (hs : Sl w A n xs) :
    Calls Try.prog 110 #[.slice A n c] w (RetOwn w 3 (openL xs)) := by
  have HL := Lib.hid hs.1
  go_enter Try.func110, Try.ntmps110
  go_wp2
  go_loopw [3, 8] (fun v i wr => ∃ (k q c' : Nat) (A' : Option Addr), k ≤ n ∧ i = .int .i64 k ∧ v = .slice A' q c' ∧ q ≤ k ∧ Own wr w.heap.size 3 (.slice A' q c') ((xs.take k).filterMap openG) ∧ Below w.heap.size w wr) (fun _ i _ => n - (intOf i).toNat)
  case atStart => exact ⟨0, 0, 0, none, Nat.zero_le _, rfl, rfl, Nat.le_refl _, Own.nil _ _ _, bl_refl _⟩
  case round =>
    obtain ⟨k, q, c', A', hk, rfl, rfl, hq, ho, hb⟩ := hrel
    by_cases hlt : k < n
    · obtain ⟨b, o, A2, c2, rfl, hbz, c0, c1, c2', c3, _, _⟩ := (hs.below hb).incident hlt
      have hkx : Hid (k < xs.length) := by rw [Hid, HL.out]; exact hlt
      clear hs
      cases hcl : (nth xs k).Closed
      · have hp := Lib.hid (openG_yes hcl)
        go_wp2_with ((at_builtin; refine wpList_app1g rfl (.tmp 15) (.tmp 18) _ _ rfl el_int (nth xs k).Number rfl (ho.alloc _) (bl_alloc hb _) rfl (by simp) (by omega) ?_; intro A3 c3' w2 ho2 hb2 hg2))
        go_roundw
        case rel => exact ⟨k + 1, q + 1, c3', A3, by omega, by go_num, rfl, by omega, by rw [fmap_yes hkx.out hp.out]; exact ho2, hb2⟩
        case measure => simp [intOf]; omega
      · have hp := Lib.hid (openG_no hcl)
        go_wp2
        go_roundw
        case rel => exact ⟨k + 1, q, c', A', by omega, by go_num, rfl, by omega, by rw [fmap_no hkx.out hp.out]; exact ho.alloc _, bl_alloc hb _⟩
        case measure => simp [intOf]; omega
    · obtain rfl : k = n := by omega
      have hfin : Hid ((xs.take k).filterMap openG = openL xs) := by rw [Hid, List.take_of_length_le (by rw [HL.out]; exact Nat.le_refl _)]; rfl
      have hq2 := ho.sl.1
      rw [hfin.out] at ho hq2
      have hq3 := Lib.hid hq2
      clear hq2
      go_wp2
      go_ret
      exact retOwn_mk hq3.out ho hb
set_option maxHeartbeats 2000000 in
theorem specOpenNumbers_any (xs : List Incident) (A : Option Addr) (n c : Nat) (w : World) (hn : (n : Int) ≤ 9223372036854775807) (hc : n ≤ c) (hs : Sl w A n xs) (hv : ∀ x, x ∈ xs → ∀ y, y ∈ x.Names → y.size ≤ maxLen) :
    Calls Try.prog 48 #[.slice A n c] w (RetOwn2 w 3 (openF xs)) := by
  have HV := Lib.hid hv
  have HL := Lib.hid hs.1
  clear hv
  go_enter Try.func48, Try.ntmps48
  have hk0 := bl_refl w
  go_wp2_with fail
  refine (ixGood_any xs _ _ _ _ hn hc hs HV.out).mono ?_
  rintro e V1 ⟨rfl, hb1⟩
  have hB1 := bl_trans (a := w) (bl_refl _) hb1
  have hk1 := bl_trans hk0 hB1
  have z1 := Lib.hid hB1.size
  cases h0 : incsB xs
  · have Hz := Lib.hid (openF_no (xs := xs) (by rw [h0]; first | done | simp))
    clear h0
    go_wp2
    go_ret2
    exact retOwn2_mk Hz.out (Own.nil _ _ _) hk1
  have H0 := Lib.hid h0
  clear h0
  have Hz := Lib.hid (openF_yes H0.out)
  have hn8 : n ≤ 8 := by have := incsB_len H0.out; have := HL.out; omega
  go_wp2
  go_loopw [4, 12] (fun v i wr => ∃ (k q c' : Nat) (A' : Option Addr), k ≤ n ∧ i = .int .i64 k ∧ v = .slice A' q c' ∧ q ≤ k ∧ Own wr w.heap.size 3 (.slice A' q c') ((xs.take k).filterMap openG) ∧ Below w.heap.size w wr) (fun _ i _ => n - (intOf i).toNat)
  case atStart => exact ⟨0, 0, 0, none, Nat.zero_le _, rfl, rfl, Nat.le_refl _, Own.nil _ _ _, hk1⟩
  case round =>
    obtain ⟨k, q, c', A', hk, rfl, rfl, hq, ho, hb⟩ := hrel
    by_cases hlt : k < n
    · obtain ⟨b, o, A2, c2, rfl, hbz, c0, c1, c2', c3, _, _⟩ := (hs.below hb).incident hlt
      have hkx : Hid (k < xs.length) := by rw [Hid, HL.out]; exact hlt
      clear hs
      cases hcl : (nth xs k).Closed
      · have hp := Lib.hid (openG_yes hcl)
        go_wp2_with ((at_builtin; refine wpList_app1g rfl (.tmp 19) (.tmp 22) _ _ rfl el_int (nth xs k).Number rfl (ho.alloc _) (bl_alloc hb _) rfl (by simp) (by omega) ?_; intro A3 c3' w2 ho2 hb2 hg2))
        go_roundw
        case rel => exact ⟨k + 1, q + 1, c3', A3, by omega, by go_num, rfl, by omega, by rw [fmap_yes hkx.out hp.out]; exact ho2, hb2⟩
        case measure => simp [intOf]; omega
      · have hp := Lib.hid (openG_no hcl)
        go_wp2
        go_roundw
        case rel => exact ⟨k + 1, q, c', A', by omega, by go_num, rfl, by omega, by rw [fmap_no hkx.out hp.out]; exact ho.alloc _, bl_alloc hb _⟩
        case measure => simp [intOf]; omega
    · obtain rfl : k = n := by omega
      have hfin : Hid ((xs.take k).filterMap openG = openL xs) := by rw [Hid, List.take_of_length_le (by rw [HL.out]; exact Nat.le_refl _)]; rfl
      have hq2 := ho.sl.1
      rw [hfin.out] at ho hq2
      have hq3 := Lib.hid hq2
      clear hq2
      go_wp2
      go_ret2
      exact retOwn2_mk Hz.out ho hb
set_option maxHeartbeats 2000000 in
theorem implOpenNumbers_any (xs : List Incident) (A : Option Addr) (n c : Nat) (w : World) (hn : (n : Int) ≤ 9223372036854775807) (hc : n ≤ c) (hs : Sl w A n xs) (hv : ∀ x, x ∈ xs → ∀ y, y ∈ x.Names → y.size ≤ maxLen) :
    Calls Try.prog 47 #[.slice A n c] w (RetOwn2 w 3 (openF xs)) := by
  have HV := Lib.hid hv
  have HL := Lib.hid hs.1
  clear hv
  go_enter Try.func47, Try.ntmps47
  have hk0 := bl_refl w
  go_wp2_with fail
  refine (areIncidents_any xs _ _ _ _ hn hc hs HV.out).mono ?_
  rintro e V1 ⟨rfl, hb1⟩
  have hB1 := bl_trans (a := w) (bl_refl _) hb1
  have hk1 := bl_trans hk0 hB1
  have z1 := Lib.hid hB1.size
  cases h0 : incsB xs
  · have Hz := Lib.hid (openF_no (xs := xs) (by rw [h0]; first | done | simp))
    clear h0
    go_wp2
    go_ret2
    exact retOwn2_mk Hz.out (Own.nil _ _ _) hk1
  have H0 := Lib.hid h0
  clear h0
  have Hz := Lib.hid (openF_yes H0.out)
  have hn8 : n ≤ 8 := by have := incsB_len H0.out; have := HL.out; omega
  go_wp2_with fail
  refine (openNumbers_any xs _ _ _ _ (by omega) (hs.below hk1)).mono ?_
  rintro e V2 ⟨A_r, c_r, rfl, ho_r, hb2⟩
  have hB2 := bl_trans (a := V1) (bl_refl _) hb2
  have hk2 := bl_trans hk1 hB2
  have z2 := Lib.hid hB2.size
  clear hk1
  go_wp2
  go_ret2
  exact retOwn2_mk Hz.out (ho_r.mono (by have := z1.out; have := z2.out; omega)) hk2

end Go.Proofs.Ytnaadihbkiakeaa
