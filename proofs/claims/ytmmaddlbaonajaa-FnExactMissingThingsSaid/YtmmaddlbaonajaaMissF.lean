/-
  MissingThings: both texts answer missF. No conditions.
-/
import Derived.Test.YtmmaddlbaonajaaThingG
namespace Go.Proofs.Ytmmaddlbaonajaa
open Go.RowKit

def missF (xs ys : List Thing) : List Thing × Bool := if thingsB xs && thingsB ys then (moreL false ys xs, true) else ([], false)
theorem missF_yes {xs ys : List Thing} (h : thingsB xs = true) (h' : thingsB ys = true) : missF xs ys = (moreL false ys xs, true) := by unfold missF; rw [h, h']; rfl
theorem missF_no {xs ys : List Thing} (h : thingsB xs = false ∨ thingsB ys = false) : missF xs ys = ([], false) := by unfold missF; rcases h with h | h <;> rw [h] <;> simp
theorem missF_len (xs ys : List Thing) : (missF xs ys).1.length ≤ 1048576 := by
  unfold missF; split
  · rename_i h; simp only [Bool.and_eq_true] at h
    have h1 := moreL_len false (ys := ys) h.1
    simp only; omega
  · simp
set_option maxHeartbeats 2000000 in
theorem specMissingThings_any (xs ys : List Thing) (A B : Option Addr) (n c m d : Nat) (w : World) (hn : (n : Int) ≤ 9223372036854775807) (hm : (m : Int) ≤ 9223372036854775807) (hs : Sl w A n xs) (ht : Sl w B m ys) (hv : ∀ x, x ∈ xs → x.Name.size ≤ maxLen) (hv' : ∀ x, x ∈ ys → x.Name.size ≤ maxLen) :
    Calls Try.prog 27 #[.slice A n c, .slice B m d] w (RetOwn2 w 72 (missF xs ys)) := by
  have HX := Lib.hid hs.1
  have HY := Lib.hid ht.1
  have HV := Lib.hid hv
  have HV' := Lib.hid hv'
  clear hv hv'
  cases h1 : thingsB xs
  · have Hz := Lib.hid (missF_no (xs := xs) (ys := ys) (.inl h1))
    go_enter Try.func27, Try.ntmps27
    go_wp2_with fail
    refine (eqGood_any xs _ _ _ _ hn hs HV.out).mono ?_
    rintro e V1 ⟨rfl, hb1⟩
    go_wp2
    go_ret2
    exact retOwn2_mk Hz.out (Own.nil _ _ _) hb1
  cases h2 : thingsB ys
  · have Hz := Lib.hid (missF_no (xs := xs) (ys := ys) (.inr h2))
    go_enter Try.func27, Try.ntmps27
    go_wp2_with fail
    refine (eqGood_any xs _ _ _ _ hn hs HV.out).mono ?_
    rintro e V1 ⟨rfl, hb1⟩
    go_wp2_with fail
    refine (eqGood_any ys _ _ _ _ hm (ht.below hb1) HV'.out).mono ?_
    rintro e V2 ⟨rfl, hb2⟩
    go_wp2
    go_ret2
    exact retOwn2_mk Hz.out (Own.nil _ _ _) (bl_trans hb1 hb2)
  have Hz := Lib.hid (missF_yes (xs := xs) (ys := ys) (by first | exact h1 | exact h2) (by first | exact h2 | exact h1))
  have hlx : n ≤ 1048576 := by have := HX.out; have := thingsB_len (xs := xs) (by first | exact h1 | exact h2); omega
  have hly : m ≤ 1048576 := by have := HY.out; have := thingsB_len (xs := ys) (by first | exact h2 | exact h1); omega
  have HA := Lib.hid h1
  have HB := Lib.hid h2
  go_enter Try.func27, Try.ntmps27
  go_wp2_with fail
  refine (eqGood_any xs _ _ _ _ hn hs HV.out).mono ?_
  rintro e V1 ⟨rfl, hb1⟩
  go_wp2_with fail
  refine (eqGood_any ys _ _ _ _ hm (ht.below hb1) HV'.out).mono ?_
  rintro e V2 ⟨rfl, hb2⟩
  have hbk := bl_trans hb1 hb2
  go_wp2_with fail
  refine (eqMissing_any xs ys _ _ _ _ _ _ _ hlx hly (hs.below hbk) (ht.below hbk) HA.out HB.out).mono ?_
  rintro e V3 ⟨A3, c3, rfl, ho3, hb3⟩
  go_wp2
  go_ret2
  exact retOwn2_mk Hz.out (ho3.mono hbk.size) (bl_trans hbk hb3)
set_option maxHeartbeats 2000000 in
theorem implMissingThings_any (xs ys : List Thing) (A B : Option Addr) (n c m d : Nat) (w : World) (hn : (n : Int) ≤ 9223372036854775807) (hm : (m : Int) ≤ 9223372036854775807) (hs : Sl w A n xs) (ht : Sl w B m ys) (hv : ∀ x, x ∈ xs → x.Name.size ≤ maxLen) (hv' : ∀ x, x ∈ ys → x.Name.size ≤ maxLen) :
    Calls Try.prog 28 #[.slice A n c, .slice B m d] w (RetOwn2 w 72 (missF xs ys)) := by
  have HX := Lib.hid hs.1
  have HY := Lib.hid ht.1
  have HV := Lib.hid hv
  have HV' := Lib.hid hv'
  clear hv hv'
  cases h1 : thingsB xs
  · have Hz := Lib.hid (missF_no (xs := xs) (ys := ys) (.inl h1))
    go_enter Try.func28, Try.ntmps28
    go_wp2_with fail
    refine (areThings_any xs _ _ _ _ hn hs HV.out).mono ?_
    rintro e V1 ⟨rfl, hb1⟩
    go_wp2
    go_ret2
    exact retOwn2_mk Hz.out (Own.nil _ _ _) hb1
  cases h2 : thingsB ys
  · have Hz := Lib.hid (missF_no (xs := xs) (ys := ys) (.inr h2))
    go_enter Try.func28, Try.ntmps28
    go_wp2_with fail
    refine (areThings_any xs _ _ _ _ hn hs HV.out).mono ?_
    rintro e V1 ⟨rfl, hb1⟩
    go_wp2_with fail
    refine (areThings_any ys _ _ _ _ hm (ht.below hb1) HV'.out).mono ?_
    rintro e V2 ⟨rfl, hb2⟩
    go_wp2
    go_ret2
    exact retOwn2_mk Hz.out (Own.nil _ _ _) (bl_trans hb1 hb2)
  have Hz := Lib.hid (missF_yes (xs := xs) (ys := ys) (by first | exact h1 | exact h2) (by first | exact h2 | exact h1))
  have hlx : n ≤ 1048576 := by have := HX.out; have := thingsB_len (xs := xs) (by first | exact h1 | exact h2); omega
  have hly : m ≤ 1048576 := by have := HY.out; have := thingsB_len (xs := ys) (by first | exact h2 | exact h1); omega
  have HA := Lib.hid h1
  have HB := Lib.hid h2
  go_enter Try.func28, Try.ntmps28
  go_wp2_with fail
  refine (areThings_any xs _ _ _ _ hn hs HV.out).mono ?_
  rintro e V1 ⟨rfl, hb1⟩
  go_wp2_with fail
  refine (areThings_any ys _ _ _ _ hm (ht.below hb1) HV'.out).mono ?_
  rintro e V2 ⟨rfl, hb2⟩
  have hbk := bl_trans hb1 hb2
  go_wp2_with fail
  refine (missingThings_any xs ys _ _ _ _ _ _ _ hlx hly (hs.below hbk) (ht.below hbk) HA.out HB.out).mono ?_
  rintro e V3 ⟨A3, c3, rfl, ho3, hb3⟩
  go_wp2
  go_ret2
  exact retOwn2_mk Hz.out (ho3.mono hbk.size) (bl_trans hbk hb3)

end Go.Proofs.Ytmmaddlbaonajaa
