/-
  Several texts in one. No conditions.
-/
import Derived.Test.YtfglmghcgoembaaGreatDoorHx0
import Derived.PlainAid
namespace Go.Proofs.YtfglmghcgoembaaGreatDoor
open Go.RowKit

open Go.PlainAid
/-- the byte at k as a number -/
def letterB (s : ByteArray) (k : Nat) : Bool := inB (bt s k) 97 122
def nameC (s : ByteArray) (k : Nat) : Bool := inB (bt s k) 97 122 || (!decide (k = 0) && inB (bt s k) 48 57)
def nameB (s : ByteArray) : Bool := allB s.size (nameC s) && inB s.size 1 6
def wordB (m : Int) (s : ByteArray) : Bool := allB s.size (letterB s) && inB s.size 1 m
theorem inB_yes {n a b : Int} (h1 : a ≤ n) (h2 : n ≤ b) : inB n a b = true := inB_iff.2 ⟨h1, h2⟩
theorem inB_no {n a b : Int} (h : n < a ∨ b < n) : inB n a b = false := by
  cases e : inB n a b
  · rfl
  · have := inB_iff.1 e; omega
theorem nameB_no {s : ByteArray} {k : Nat} (hk : k < s.size) (h : nameC s k = false) : nameB s = false := by simp [nameB, allB_false hk h]
theorem nameB_all {s : ByteArray} (h : ∀ j, j < s.size → nameC s j = true) : nameB s = inB s.size 1 6 := by simp [nameB, allB_true h]
theorem nameB_size {s : ByteArray} (h : nameB s = true) : s.size ≤ 6 := by
  simp only [nameB, Bool.and_eq_true] at h; have := inB_iff.1 h.2; omega
theorem wordB_no {m : Int} {s : ByteArray} {k : Nat} (hk : k < s.size) (h : letterB s k = false) : wordB m s = false := by simp [wordB, allB_false hk h]
theorem wordB_all {m : Int} {s : ByteArray} (h : ∀ j, j < s.size → letterB s j = true) : wordB m s = inB s.size 1 m := by simp [wordB, allB_true h]
theorem wordB_size {m : Int} {s : ByteArray} (h : wordB m s = true) : (s.size : Int) ≤ m := by
  simp only [wordB, Bool.and_eq_true] at h; have := inB_iff.1 h.2; omega
theorem thing_word (s : ByteArray) : wordB 8 s = (decide (s.size ≤ 8) && wordB 10 s) := by
  unfold wordB
  by_cases h : s.size ≤ 8
  · rw [decide_eq_true h]; simp only [Bool.true_and]; congr 1
    by_cases h1 : 1 ≤ s.size
    · rw [inB_yes (by omega) (by omega), inB_yes (by omega) (by omega)]
    · rw [inB_no (.inl (by omega)), inB_no (.inl (by omega))]
  · rw [decide_eq_false h, inB_no (.inr (by omega)), Bool.and_false, Bool.false_and]
theorem bl_of_eq {w w' : World} (h : w' = w) : Below w.heap.size w w' := by rw [h]; exact bl_refl _
end Go.Proofs.YtfglmghcgoembaaGreatDoor

namespace Go.Proofs.YtfglmghcgoembaaGreatDoor
open Go.RowKit

structure Entry where
  Room : Int
  Number : Int
  Minute : Int
  Text : ByteArray
  deriving DecidableEq
instance : Inhabited Entry := ⟨⟨0, 0, 0, ByteArray.empty⟩⟩
instance : Flat Entry where
  sz := 4
  pos := by omega
  enc := fun x => [.int .i64 (x.Room), .int .i64 (x.Number), .int .i64 (x.Minute), .string (x.Text)]
  len := fun _ => rfl
  one := fun _ u h => by simp at h; rcases h with rfl | rfl | rfl | rfl <;> rfl
theorem Sl.entry {w : World} {A : Option Addr} {n : Nat} {xs : List Entry} (h : Sl w A n xs) {k : Nat} (hk : k < n) :
    ∃ b o, A = some ⟨b, o, none⟩ ∧ b < w.heap.size ∧ w.cell? ⟨b, o + k * 4, none⟩ = some (.int .i64 ((nth xs k).Room)) ∧ w.cell? ⟨b, o + k * 4 + 1, none⟩ = some (.int .i64 ((nth xs k).Number)) ∧ w.cell? ⟨b, o + k * 4 + 2, none⟩ = some (.int .i64 ((nth xs k).Minute)) ∧ w.cell? ⟨b, o + k * 4 + 3, none⟩ = some (.string ((nth xs k).Text)) := by
  obtain ⟨b, o, rfl, hc⟩ := h.flat hk
  exact ⟨b, o, rfl, h.lt hk, hc 0 _ rfl, hc 1 _ rfl, hc 2 _ rfl, hc 3 _ rfl⟩
theorem entry_eq {x y : Entry} : sameB x y = (sameB x.Room y.Room && sameB x.Number y.Number && sameB x.Minute y.Minute && sameB x.Text y.Text) := by
  cases x; cases y; simp [sameB, Bool.and_assoc]
end Go.Proofs.YtfglmghcgoembaaGreatDoor
