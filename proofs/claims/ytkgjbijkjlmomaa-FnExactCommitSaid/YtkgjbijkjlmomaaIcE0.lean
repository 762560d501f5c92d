/-
  What is asked of a name and a number. No conditions.
-/
import Derived.Test.YtkgjbijkjlmomaaIcR1
import Derived.Test.YtkgjbijkjlmomaaIncU
namespace Go.Proofs.Ytkgjbijkjlmomaa
open Go.RowKit

def askB (xs : List Incident) (number : Int) (nm : ByteArray) : Bool := incsB xs && decide (0 ≤ openI xs number) && nameB nm
theorem askB_yes {xs : List Incident} {number : Int} {nm : ByteArray} (h : askB xs number nm = true) : incsB xs = true ∧ 0 ≤ openI xs number ∧ nameB nm = true := by
  simp only [askB, Bool.and_eq_true, decide_eq_true_eq] at h; exact ⟨h.1.1, h.1.2, h.2⟩
set_option maxHeartbeats 4000000 in
theorem ixAsked_any (xs : List Incident) (number : Int) (nm : ByteArray) (A : Option Addr) (n c : Nat) (w : World) (hz : nm.size ≤ maxLen) (hn : n ≤ 1048576) (hc : n ≤ c) (hs : Sl w A n xs) (hv : ∀ x, x ∈ xs → ∀ y, y ∈ x.Names → y.size ≤ maxLen) :
    Calls Try.prog 50 #[.slice A n c, .int .i64 number, .string nm] w fun e w' => e = .returned (.bool (askB xs number nm)) ∧ Below w.heap.size w w' := by
  have HV := Lib.hid hv
  have HL := Lib.hid hs.1
  have hn' : (n : Int) ≤ 9223372036854775807 := by omega
  clear hv
  go_enter Try.func50, Try.ntmps50
  have hk0 := bl_refl w
  go_wp2_with fail
  refine (ixGood_any xs _ _ _ _ hn' hc hs HV.out).mono ?_
  rintro e V1 ⟨rfl, hb1⟩
  have hB1 := bl_trans (a := w) (bl_refl _) hb1
  have hk1 := bl_trans hk0 hB1
  have z1 := Lib.hid hB1.size
  cases h0 : incsB xs
  · have Hz : Hid (askB xs number nm = false) := by rw [Hid, askB, h0]; simp
    clear h0
    go_wp2
    go_ret
    exact ⟨ret_bool Hz.out.symm, hk1⟩
  have H0 := Lib.hid h0
  clear h0
  go_wp2_with fail
  refine (ixFind_any xs number _ _ _ _ hn' (hs.below hk1)).mono ?_
  rintro e V2 ⟨rfl, hb2⟩
  have hB2 := bl_trans (a := V1) (bl_refl _) hb2
  have hk2 := bl_trans hk1 hB2
  have z2 := Lib.hid hB2.size
  clear hk1
  cases h1 : decide (openI xs number ≥ 0)
  · have Hz : Hid (askB xs number nm = false) := by rw [Hid, askB, show decide (0 ≤ openI xs number) = false from h1]; simp
    go_wp2
    go_ret
    exact ⟨ret_bool Hz.out.symm, hk2⟩
  have H1 := Lib.hid (show decide (0 ≤ openI xs number) = true from h1)
  go_wp2_with fail
  refine (apName_any nm _ hz).mono ?_
  rintro e V3 ⟨rfl, hb3⟩
  have hB3 := bl_trans (a := V2) (bl_refl _) hb3
  have hk3 := bl_trans hk2 hB3
  have z3 := Lib.hid hB3.size
  clear hk2
  have Hz : Hid (askB xs number nm = nameB nm) := by rw [Hid, askB, H0.out, H1.out]; rfl
  go_wp2
  go_ret
  exact ⟨ret_bool Hz.out.symm, hk3⟩
theorem ixIf_any (xs : List Incident) (b : Bool) (A : Option Addr) (n c : Nat) (w : World) (hn' : (n : Int) ≤ 9223372036854775807) (hc : n ≤ c) (hs : Sl w A n xs) (hv : ∀ x, x ∈ xs → ∀ y, y ∈ x.Names → y.size ≤ maxLen) (hb : incsB xs = b) :
    Calls Try.prog 39 #[.slice A n c] w fun e w' => e = .returned (.tuple #[if b then .slice A n c else .slice none 0 0, .bool b]) ∧ Below w.heap.size w w' := by
  have HV := Lib.hid hv
  have HB := Lib.hid hb
  clear hv hb
  go_enter Try.func39, Try.ntmps39
  go_wp2_with fail
  refine (ixGood_any xs _ _ _ _ hn' hc hs HV.out).mono ?_
  rintro e V ⟨rfl, hV⟩
  rw [HB.out]
  clear hs
  cases b
  · go_wp2
    go_ret2
    exact ⟨rfl, hV⟩
  · go_wp2
    go_ret2
    exact ⟨rfl, hV⟩

end Go.Proofs.Ytkgjbijkjlmomaa
