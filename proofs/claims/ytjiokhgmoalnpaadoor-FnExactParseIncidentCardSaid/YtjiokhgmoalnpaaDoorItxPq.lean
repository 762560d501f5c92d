/-
  IncidentText: what it answers. No conditions.
-/
import Derived.Test.YtjiokhgmoalnpaaDoorIncA
import Derived.Test.YtjiokhgmoalnpaaDoorJnEq
namespace Go.Proofs.YtjiokhgmoalnpaaDoor
open Go.RowKit

def nmT (h : ByteArray) (xs : List ByteArray) : Nat → ByteArray
  | 0 => h
  | i + 1 => if 0 < i then nmT h xs i ++ ⟨#[44]⟩ ++ nth xs i else nmT h xs i ++ nth xs i
def hdT (number node : Int) (closed : Bool) : ByteArray := if closed then itB number ++ ⟨#[64]⟩ ++ itB node ++ ⟨#[33]⟩ ++ ⟨#[58]⟩ else itB number ++ ⟨#[64]⟩ ++ itB node ++ ⟨#[58]⟩
def incT (number node : Int) (closed : Bool) (xs : List ByteArray) : ByteArray := nmT (hdT number node closed) xs xs.length
def itxF (number node : Int) (closed : Bool) (xs : List ByteArray) : ByteArray × Bool := if incB number node closed xs then (incT number node closed xs, true) else (⟨#[]⟩, false)
theorem itxF_yes {number node : Int} {closed : Bool} {xs : List ByteArray} (h : incB number node closed xs = true) : itxF number node closed xs = (incT number node closed xs, true) := by unfold itxF; rw [if_pos h]
theorem itxF_no {number node : Int} {closed : Bool} {xs : List ByteArray} (h : incB number node closed xs = false) : itxF number node closed xs = (⟨#[]⟩, false) := by unfold itxF; rw [if_neg (by rw [h]; exact Bool.false_ne_true)]
theorem ret_itb {a b : ByteArray} {p : Bool} {r : ByteArray × Bool} (h : r = (a, p)) (h1 : a = b) : Ending.returned (.tuple #[.string b, .bool p]) = .returned (.tuple #[.string r.1, .bool r.2]) := by rw [h, h1]
theorem inc_bd {number node : Int} {closed : Bool} {xs : List ByteArray} (h : incB number node closed xs = true) : (1 ≤ number ∧ number ≤ 999) ∧ (0 ≤ node ∧ node ≤ 13) ∧ xs.length ≤ 12 ∧ ∀ k, k < xs.length → (nth xs k).size ≤ 6 := by
  have h1 := incB_num h
  have h2 := incB_len h
  have h3 := incB_names h
  unfold allNm at h3
  refine ⟨h1, ?_, h2, fun k hk => nameB_size (allB_iff.1 h3 k hk)⟩
  simp only [incB, baseB, Bool.and_eq_true] at h
  exact inB_iff.1 h.1.1.1.1.2
theorem hdT_len {number node : Int} (closed : Bool) (h0 : 1 ≤ number ∧ number ≤ 999) (h1 : 0 ≤ node ∧ node ≤ 13) : (hdT number node closed).size ≤ 8 := by
  have a := it_len (n := number) (by omega) 2 (by omega)
  have b := it_len (n := node) (by omega) 1 (by omega)
  have e : ∀ u : UInt8, (⟨#[u]⟩ : ByteArray).size = 1 := fun u => rfl
  unfold hdT
  split <;> simp only [ByteArray.size_append, e] <;> omega
theorem nmT_len {h : ByteArray} {xs : List ByteArray} (hh : h.size ≤ 8) (hx : ∀ k, k < xs.length → (nth xs k).size ≤ 6) : ∀ i, i ≤ xs.length → (nmT h xs i).size ≤ 8 + 7 * i
  | 0, _ => by show h.size ≤ _; omega
  | i + 1, hi => by
    have h1 := nmT_len hh hx i (by omega)
    have h2 := hx i (by omega)
    have e : (⟨#[44]⟩ : ByteArray).size = 1 := rfl
    unfold nmT
    split <;> simp only [ByteArray.size_append, e] <;> omega
theorem nmT_1 {h : ByteArray} {xs : List ByteArray} {i : Nat} (hi : 0 < i) : nmT h xs (i + 1) = nmT h xs i ++ ⟨#[44]⟩ ++ nth xs i := by rw [nmT, if_pos hi]
theorem nmT_0 {h : ByteArray} {xs : List ByteArray} {i : Nat} (hi : ¬ 0 < i) : nmT h xs (i + 1) = nmT h xs i ++ nth xs i := by rw [nmT, if_neg hi]

end Go.Proofs.YtjiokhgmoalnpaaDoor
