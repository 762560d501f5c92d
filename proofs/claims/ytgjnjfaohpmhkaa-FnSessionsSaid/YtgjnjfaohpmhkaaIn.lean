/-
  The range tests and small words on lists. No conditions.
-/
import Derived.Test.YtgjnjfaohpmhkaaProg
import Derived.Test.YtgjnjfaohpmhkaaMem
namespace Go.Proofs.Ytgjnjfaohpmhkaa
open Go.RowKit

/-- a ≤ n ≤ b, kept closed. -/
def inB (n a b : Int) : Bool := decide (a ≤ n) && decide (n ≤ b)
theorem inB_iff {n a b : Int} : inB n a b = true ↔ a ≤ n ∧ n ≤ b := by simp [inB]

def allB (n : Nat) (p : Nat → Bool) : Bool := (List.range n).all p
theorem allB_true {n : Nat} {p : Nat → Bool} (h : ∀ j, j < n → p j = true) : allB n p = true := by
  simp only [allB, List.all_eq_true, List.mem_range]; exact h
theorem allB_false {n k : Nat} {p : Nat → Bool} (hk : k < n) (h : p k = false) : allB n p = false := by
  simp only [allB, List.all_eq_false, List.mem_range]; exact ⟨k, hk, by simp [h]⟩
theorem allB_iff {n : Nat} {p : Nat → Bool} : allB n p = true ↔ ∀ j, j < n → p j = true := by
  simp only [allB, List.all_eq_true, List.mem_range]
theorem upto_succ {k : Nat} {p : Nat → Prop} (h : ∀ j, j < k → p j) (hk : p k) : ∀ j, j < k + 1 → p j := fun j hj => by
  rcases Nat.lt_or_ge j k with h1 | h1
  · exact h j h1
  · obtain rfl : j = k := by omega
    exact hk
theorem ret_bool {a b : Bool} (h : a = b) : Ending.returned (.bool a) = .returned (.bool b) := by rw [h]
theorem ret_i64 {a b : Int} (h : a = b) : Ending.returned (.int .i64 a) = .returned (.int .i64 b) := by rw [h]

/-- Are two values one? Kept closed. -/
def sameB {α : Type} [DecidableEq α] (x y : α) : Bool := decide (x = y)
theorem sameB_iff {α : Type} [DecidableEq α] {x y : α} : sameB x y = true ↔ x = y := by simp [sameB]
theorem sameB_no {α : Type} [DecidableEq α] {x y : α} : sameB x y = false ↔ x ≠ y := by simp [sameB]
theorem sameB_take {α : Type} [DecidableEq α] [Inhabited α] {xs ys : List α} {k : Nat} (hx : k < xs.length) (hy : k < ys.length) (h : xs.take k = ys.take k) (he : sameB (nth xs k) (nth ys k) = true) :
    xs.take (k + 1) = ys.take (k + 1) := by rw [take_succ hx, take_succ hy, h, sameB_iff.1 he]
theorem sameB_nth {α : Type} [DecidableEq α] [Inhabited α] {xs ys : List α} {k : Nat} (he : sameB (nth xs k) (nth ys k) = false) : sameB xs ys = false := by
  rw [sameB_no] at he ⊢; intro h; exact he (by rw [h])
theorem sameB_len {α : Type} [DecidableEq α] {xs ys : List α} (h : xs.length ≠ ys.length) : sameB xs ys = false := by
  rw [sameB_no]; intro e; exact h (by rw [e])
theorem sameB_all {α : Type} [DecidableEq α] {xs ys : List α} {n : Nat} (hx : xs.length = n) (hy : ys.length = n) (h : xs.take n = ys.take n) : sameB xs ys = true := by
  rw [sameB_iff]; rwa [List.take_of_length_le (by omega), List.take_of_length_le (by omega)] at h
/-- What is left of a size; -1 if there is none. -/
def szF (left n : Int) : Int := if left < n then -1 else left - n
theorem bytes_inj {a b : ByteArray} (h : a.toList = b.toList) : a = b := by
  rw [ByteArray.toList_eq, ByteArray.toList_eq] at h
  cases a; cases b; congr 1; exact Array.toList_inj.1 h
theorem bytes_beq {a b : ByteArray} : (a.toList == b.toList) = sameB a b := by
  cases h : sameB a b
  · rw [beq_eq_false_iff_ne]; intro e; rw [sameB_no] at h; exact h (bytes_inj e)
  · rw [sameB_iff] at h; rw [h]; simp
/-- What a size function of the laws answers: -1, or what is left, and then p holds. -/
def SzPost (w : World) (left : Int) (p : Prop) (e : Ending) (w' : World) : Prop :=
  ∃ r : Int, e = .returned (.int .i64 r) ∧ (r = -1 ∨ (0 ≤ r ∧ r ≤ left ∧ p)) ∧ Below w.heap.size w w'
theorem l1In_any (n a b : Int) (w : World) :
    Calls Try.prog 34 #[.int .i64 n, .int .i64 a, .int .i64 b] w fun e w' => e = .returned (.bool (inB n a b)) ∧ w' = w := by
  by_cases h1 : a ≤ n
  all_goals
    go_enter Try.func34, Try.ntmps34
    go_wp2
    go_ret
    exact ⟨ret_bool (by simp [inB]; omega), rfl⟩
theorem inside_any (n a b : Int) (w : World) :
    Calls Try.prog 41 #[.int .i64 n, .int .i64 a, .int .i64 b] w fun e w' => e = .returned (.bool (inB n a b)) ∧ w' = w := by
  by_cases h1 : a ≤ n
  all_goals
    go_enter Try.func41, Try.ntmps41
    go_wp2
    go_ret
    exact ⟨ret_bool (by simp [inB]; omega), rfl⟩
end Go.Proofs.Ytgjnjfaohpmhkaa
