/-
  RenewSkill: both texts answer renX. No conditions.
-/
import Derived.Test.YticgenojelblnaaRenI
import Derived.Test.YticgenojelblnaaRenS
namespace Go.Proofs.Yticgenojelblnaa
open Go.RowKit

def renX (xs : List Skill) (p : ByteArray) (k u : Int) : List Skill × Bool := renF xs ⟨p, k, u⟩
theorem renX_len (xs : List Skill) (p : ByteArray) (k u : Int) : (renX xs p k u).1.length ≤ 1048576 := renF_len _ _
theorem specRenew_any (xs : List Skill) (p : ByteArray) (k u : Int) (A : Option Addr) (n c : Nat) (w : World) (hz : p.size ≤ maxLen) (hn : (n : Int) ≤ 9223372036854775807) (hs : Sl w A n xs) (hv : ∀ x, x ∈ xs → x.Person.size ≤ maxLen) (hc : n ≤ c ∧ c ≤ maxLen ∧ ((A = none ∧ c = 0) ∨ ∃ g, A = some ⟨g, 0, none⟩)) :
    Calls Try.prog 5 #[.slice A n c, .string p, .int .i64 k, .int .i64 u] w (RetOwn2 w 34 (renX xs p k u)) := specRenewSkill_any xs ⟨p, k, u⟩ A n c w hz hn hs hv hc
theorem implRenew_any (xs : List Skill) (p : ByteArray) (k u : Int) (A : Option Addr) (n c : Nat) (w : World) (hz : p.size ≤ maxLen) (hn : (n : Int) ≤ 9223372036854775807) (hs : Sl w A n xs) (hv : ∀ x, x ∈ xs → x.Person.size ≤ maxLen) :
    Calls Try.prog 7 #[.slice A n c, .string p, .int .i64 k, .int .i64 u] w (RetOwn2 w 34 (renX xs p k u)) := implRenewSkill_any xs ⟨p, k, u⟩ A n c w hz hn hs hv

end Go.Proofs.Yticgenojelblnaa
