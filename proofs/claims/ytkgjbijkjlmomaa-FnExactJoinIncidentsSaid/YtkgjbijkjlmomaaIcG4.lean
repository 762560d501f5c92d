/-
  A list, if it is valid. No conditions.
-/
import Derived.Test.YtkgjbijkjlmomaaIncU
namespace Go.Proofs.Ytkgjbijkjlmomaa
open Go.RowKit

theorem ixIf_any (xs : List Incident) (b : Bool) (A : Option Addr) (n c : Nat) (w : World) (hn' : (n : Int) ≤ 9223372036854775807) (hc : n ≤ c) (hs : Sl w A n xs) (hv : ∀ x, x ∈ xs → ∀ y, y ∈ x.Names → y.size ≤ maxLen) (hb : incsB xs = b) :
    Calls Try.prog 39 #[.slice A n c] w fun e w' => e = .returned (.tuple #[if b then .slice A n c else .slice none 0 0, .bool b]) ∧ Below w.heap.size w w' := by
  have HV := Lib.hid hv
  have HB := Lib.hid hb
  clear hv hb
  go_enter Try.func39, Try.ntmps39
  go_wp2_with fail
  refine (ixGood_any xs _ _ _ _ hn' hc hs HV.out).mono ?_
  rintro e V ⟨rfl, hV⟩
  rw [HB.out]
  clear hs
  cases b
  · go_wp2
    go_ret2
    exact ⟨rfl, hV⟩
  · go_wp2
    go_ret2
    exact ⟨rfl, hV⟩

end Go.Proofs.Ytkgjbijkjlmomaa
