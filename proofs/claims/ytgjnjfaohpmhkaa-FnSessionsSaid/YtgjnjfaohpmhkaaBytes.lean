/-
  The order of the strings. No conditions.
-/
import Derived.Test.YtgjnjfaohpmhkaaMem4
namespace Go.Proofs.Ytgjnjfaohpmhkaa
open Go.RowKit

theorem bl_irr : ∀ x : List UInt8, Op.bytesLess x x = false
  | [] => by simp [Op.bytesLess]
  | a :: x => by simp [Op.bytesLess, bl_irr x]
theorem bl_tr : ∀ {x y z : List UInt8}, Op.bytesLess x y = true → Op.bytesLess y z = true → Op.bytesLess x z = true
  | x, y, [], _, h => by cases y <;> simp [Op.bytesLess] at h
  | x, [], _ :: _, h, _ => by cases x <;> simp [Op.bytesLess] at h
  | [], _ :: _, _ :: _, _, _ => by simp [Op.bytesLess]
  | a :: x, b :: y, c :: z, h1, h2 => by
    simp only [Op.bytesLess] at h1 h2 ⊢
    have e1 : ∀ u v : UInt8, (u < v) ↔ u.toNat < v.toNat := fun u v => Iff.rfl
    have e2 : ∀ u v : UInt8, (u = v) ↔ u.toNat = v.toNat := fun u v => UInt8.toNat_inj.symm
    have ih := @bl_tr x y z
    by_cases p1 : a < b <;> by_cases q1 : a = b <;> by_cases p2 : b < c <;> by_cases q2 : b = c <;> by_cases p3 : a < c <;> by_cases q3 : a = c <;> simp_all <;> omega
/-- a list's names rise -/
def Rises {α : Type} [Inhabited α] (f : α → ByteArray) (xs : List α) : Prop := ∀ j k, j < k → k < xs.length → Op.bytesLess (f (nth xs j)).toList (f (nth xs k)).toList = true
theorem rises_of {α : Type} [Inhabited α] {f : α → ByteArray} {xs : List α} (h : ∀ k, 0 < k → k < xs.length → Op.bytesLess (f (nth xs (k - 1))).toList (f (nth xs k)).toList = true) : Rises f xs := by
  intro j k
  induction k with
  | zero => omega
  | succ k ih =>
    intro hj hk
    have h1 := h (k + 1) (by omega) hk
    simp only [Nat.add_sub_cancel] at h1
    by_cases e : j = k
    · subst e; exact h1
    · exact bl_tr (ih (by omega) (by omega)) h1
/-- where the first name that is not less stands, the name itself stands, or nowhere -/
def isNm {α : Type} (f : α → ByteArray) (nm : ByteArray) (x : α) : Bool := (f x).toList == nm.toList
theorem low_hit {α : Type} [Inhabited α] {f : α → ByteArray} {xs : List α} {nm : ByteArray} {k : Nat} (hlo : ∀ j, j < k → Op.bytesLess (f (nth xs j)).toList nm.toList = true) (hk : k < xs.length)
    (h : ((f (nth xs k)).toList == nm.toList) = true) : indexF (isNm f nm) xs = k := by
  refine indexF_hit hk h fun j hj => ?_
  have h1 := hlo j hj
  unfold isNm
  cases he : (f (nth xs j)).toList == nm.toList with
  | false => rfl
  | true => have he := eq_of_beq he; rw [he, bl_irr] at h1; cases h1
theorem low_miss {α : Type} [Inhabited α] {f : α → ByteArray} {xs : List α} {nm : ByteArray} {k : Nat} (hr : Rises f xs) (hlo : ∀ j, j < k → Op.bytesLess (f (nth xs j)).toList nm.toList = true)
    (h : k < xs.length → Op.bytesLess (f (nth xs k)).toList nm.toList = false ∧ ((f (nth xs k)).toList == nm.toList) = false) : indexF (isNm f nm) xs = -1 := by
  refine indexF_none fun j hj => ?_
  unfold isNm
  cases he : (f (nth xs j)).toList == nm.toList with
  | false => rfl
  | true =>
    have he := eq_of_beq he
    by_cases h1 : j < k
    · have h2 := hlo j h1; rw [he, bl_irr] at h2; cases h2
    · have hk : k < xs.length := by omega
      obtain ⟨h2, h3⟩ := h hk
      by_cases h4 : j = k
      · subst h4; rw [he] at h3; simp at h3
      · have h5 := hr k j (by omega) hj
        rw [he, h2] at h5; cases h5
end Go.Proofs.Ytgjnjfaohpmhkaa
