/-
  Things: the exported tests. No conditions.
-/
import Derived.Test.YtmmaddlbaonajaaThingB
namespace Go.Proofs.Ytmmaddlbaonajaa
open Go.RowKit

theorem specAreThings_any (xs : List Thing) (A : Option Addr) (n c : Nat) (w : World) (hn : (n : Int) ≤ 9223372036854775807) (hs : Sl w A n xs) (hv : ∀ x, x ∈ xs → x.Name.size ≤ maxLen) :
    Calls Try.prog 14 #[.slice A n c] w fun e w' => e = .returned (.bool (thingsB xs)) ∧ Below w.heap.size w w' := by
  have HV := Lib.hid hv
  clear hv
  go_enter Try.func14, Try.ntmps14
  go_wp2_with (go_at_call 52; refine (eqGood_any xs _ _ _ _ hn hs HV.out).mono ?_; rintro e V ⟨rfl, hV⟩)
  go_ret
  exact ⟨rfl, hV⟩
theorem implAreThings_any (xs : List Thing) (A : Option Addr) (n c : Nat) (w : World) (hn : (n : Int) ≤ 9223372036854775807) (hs : Sl w A n xs) (hv : ∀ x, x ∈ xs → x.Name.size ≤ maxLen) :
    Calls Try.prog 16 #[.slice A n c] w fun e w' => e = .returned (.bool (thingsB xs)) ∧ Below w.heap.size w w' := by
  have HV := Lib.hid hv
  clear hv
  go_enter Try.func16, Try.ntmps16
  go_wp2_with (go_at_call 54; refine (areThings_any xs _ _ _ _ hn hs HV.out).mono ?_; rintro e V ⟨rfl, hV⟩)
  go_ret
  exact ⟨rfl, hV⟩

end Go.Proofs.Ytmmaddlbaonajaa
