/-
  Loads: the tests of one answer loadB. No conditions.
-/
import Derived.Test.YtokcgjjnljflaaaLoadZ
import Derived.Test.YtokcgjjnljflaaaThingC
namespace Go.Proofs.Ytokcgjjnljflaaa
open Go.RowKit

def loadB (s : ByteArray) (xs : List Thing) : Bool := nameB s && thingsB xs
theorem loadB_things {s : ByteArray} {xs : List Thing} (h : loadB s xs = true) : thingsB xs = true := by unfold loadB at h; simp only [Bool.and_eq_true] at h; exact h.2
set_option maxHeartbeats 1000000 in
theorem eqLd_any (s : ByteArray) (xs : List Thing) (A : Option Addr) (n c : Nat) (w : World) (hz : s.size ≤ maxLen) (hn : (n : Int) ≤ 9223372036854775807) (hs : Sl w A n xs) (hv : ∀ x, x ∈ xs → x.Name.size ≤ maxLen) :
    Calls Try.prog 26 #[.agg #[.string s, .slice A n c]] w fun e w' => e = .returned (.bool (loadB s xs)) ∧ Below w.heap.size w w' := by
  have HV := Lib.hid hv
  clear hv
  go_enter Try.func26, Try.ntmps26
  go_wp2_with fail
  refine (jnName_any s _ hz).mono ?_
  rintro e V ⟨rfl, hV⟩
  have hb := bl_trans (bl_alloc (bl_refl w) (.cells #[.string s, .slice A n c] 28)) hV
  have c1 : V.cell? ⟨w.heap.size, 1, none⟩ = some (.slice A n c) := cell_later hV (by go_simp)
  cases h : nameB s
  · have q : Hid (loadB s xs = false) := by rw [Hid, loadB, h]; rfl
    clear h
    go_wp2
    go_ret
    exact ⟨ret_bool q.out.symm, hb⟩
  · have q : Hid (loadB s xs = thingsB xs) := by rw [Hid, loadB, h]; rfl
    clear h
    go_wp2_with fail
    refine (eqGood_any xs _ _ _ _ hn (hs.below hb) HV.out).mono ?_
    rintro e V2 ⟨rfl, hV2⟩
    go_wp2
    go_ret
    exact ⟨ret_bool q.out.symm, bl_trans hb hV2⟩
set_option maxHeartbeats 1000000 in
theorem isLd_any (s : ByteArray) (xs : List Thing) (A : Option Addr) (n c : Nat) (w : World) (hz : s.size ≤ maxLen) (hn : (n : Int) ≤ 9223372036854775807) (hs : Sl w A n xs) (hv : ∀ x, x ∈ xs → x.Name.size ≤ maxLen) :
    Calls Try.prog 30 #[.agg #[.string s, .slice A n c]] w fun e w' => e = .returned (.bool (loadB s xs)) ∧ Below w.heap.size w w' := by
  have HV := Lib.hid hv
  clear hv
  go_enter Try.func30, Try.ntmps30
  go_wp2_with fail
  refine (isName_any s _ hz).mono ?_
  rintro e V ⟨rfl, hV⟩
  have hb := bl_trans (bl_alloc (bl_refl w) (.cells #[.string s, .slice A n c] 28)) hV
  have c1 : V.cell? ⟨w.heap.size, 1, none⟩ = some (.slice A n c) := cell_later hV (by go_simp)
  cases h : nameB s
  · have q : Hid (loadB s xs = false) := by rw [Hid, loadB, h]; rfl
    clear h
    go_wp2
    go_ret
    exact ⟨ret_bool q.out.symm, hb⟩
  · have q : Hid (loadB s xs = thingsB xs) := by rw [Hid, loadB, h]; rfl
    clear h
    go_wp2_with fail
    refine (areThings_any xs _ _ _ _ hn (hs.below hb) HV.out).mono ?_
    rintro e V2 ⟨rfl, hV2⟩
    go_wp2
    go_ret
    exact ⟨ret_bool q.out.symm, bl_trans hb hV2⟩
end Go.Proofs.Ytokcgjjnljflaaa
