/-
  The comparisons of cmp at strings and at int. No conditions.
-/
import Derived.Test.YtkgjbijkjlmomaaBytes
import Derived.Test.YtkgjbijkjlmomaaIn
namespace Go.Proofs.Ytkgjbijkjlmomaa
open Go.RowKit

theorem bl_tot : ∀ {x y : List UInt8}, Op.bytesLess x y = false → Op.bytesLess y x = false → x = y
  | [], [], _, _ => rfl
  | [], _ :: _, h, _ => by simp [Op.bytesLess] at h
  | _ :: _, [], _, h => by simp [Op.bytesLess] at h
  | a :: x, b :: y, h1, h2 => by
    simp only [Op.bytesLess] at h1 h2
    have e1 : ∀ u v : UInt8, (u < v) ↔ u.toNat < v.toNat := fun u v => Iff.rfl
    have e2 : ∀ u v : UInt8, (u = v) ↔ u.toNat = v.toNat := fun u v => UInt8.toNat_inj.symm
    have ih := @bl_tot x y
    by_cases q1 : a = b
    · subst q1
      simp at h1 h2
      rw [ih h1 h2]
    · have hne : ¬ a.toNat = b.toNat := fun e => q1 ((e2 a b).2 e)
      have p : a < b ∨ b < a := by simp only [e1]; omega
      rcases p with p | p
      · simp [p] at h1
      · simp [p] at h2
theorem bl_asym {x y : List UInt8} (h : Op.bytesLess x y = true) : Op.bytesLess y x = false := by
  cases h2 : Op.bytesLess y x with
  | false => rfl
  | true => have := bl_tr h h2; rw [bl_irr] at this; cases this
def cmpS (a b : ByteArray) : Int := if Op.bytesLess a.toList b.toList then -1 else if Op.bytesLess b.toList a.toList then 1 else 0
def cmpI (a b : Int) : Int := if a < b then -1 else if b < a then 1 else 0
theorem nanS_any (a : ByteArray) (w : World) : Calls Try.prog 109 #[.string a] w fun e w' => e = .returned (.bool false) ∧ w' = w := by
  go_enter Try.func109, Try.ntmps109
  go_wp2
  go_ret
  exact ⟨rfl, rfl⟩
def or2 (a b : Int) : Int := if a = 0 then b else a
end Go.Proofs.Ytkgjbijkjlmomaa
