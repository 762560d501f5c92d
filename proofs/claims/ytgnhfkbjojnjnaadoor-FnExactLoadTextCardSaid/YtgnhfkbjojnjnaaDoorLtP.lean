/-
  LoadText: what it answers. No conditions.
-/
import Derived.Test.YtgnhfkbjojnjnaaDoorLoadA
import Derived.Test.YtgnhfkbjojnjnaaDoorItN
namespace Go.Proofs.YtgnhfkbjojnjnaaDoor
open Go.RowKit

def pieceB (t : Thing) : ByteArray := ⟨#[32]⟩ ++ t.Name ++ ⟨#[42]⟩ ++ itB t.Count ++ ⟨#[64]⟩ ++ itB t.Day
def loadTx (s : ByteArray) (xs : List Thing) : Nat → ByteArray
  | 0 => s ++ ⟨#[58]⟩
  | i + 1 => loadTx s xs i ++ pieceB (nth xs i)
def ltF (s : ByteArray) (xs : List Thing) : ByteArray × Bool := if loadB s xs then (loadTx s xs xs.length, true) else (ByteArray.empty, false)
theorem ltF_yes {s : ByteArray} {xs : List Thing} (h : loadB s xs = true) : ltF s xs = (loadTx s xs xs.length, true) := by unfold ltF; rw [if_pos h]
theorem ltF_no {s : ByteArray} {xs : List Thing} (h : loadB s xs = false) : ltF s xs = (ByteArray.empty, false) := by unfold ltF; rw [if_neg (by rw [h]; exact Bool.false_ne_true)]
theorem ret_sbl {a b : ByteArray} {p : Bool} {r : ByteArray × Bool} (h : r = (a, p)) (h1 : a = b) : Ending.returned (.tuple #[.string b, .bool p]) = .returned (.tuple #[.string r.1, .bool r.2]) := by rw [h, h1]
theorem thing_bd {xs : List Thing} (h : thingsB xs = true) {k : Nat} (hk : k < xs.length) : (nth xs k).Name.size ≤ 8 ∧ (1 ≤ (nth xs k).Count ∧ (nth xs k).Count ≤ 99) ∧ (0 ≤ (nth xs k).Day ∧ (nth xs k).Day ≤ 9999) := by
  have h1 := thingsB_at h hk
  simp only [okThing, Bool.and_eq_true] at h1
  exact ⟨by have := wordB_size h1.1.1.1; omega, inB_iff.1 h1.1.1.2, inB_iff.1 h1.1.2⟩
theorem piece_len {t : Thing} (h0 : t.Name.size ≤ 8) (h1 : 1 ≤ t.Count ∧ t.Count ≤ 99) (h2 : 0 ≤ t.Day ∧ t.Day ≤ 9999) : (pieceB t).size ≤ 17 := by
  have a := it_len (n := t.Count) (by omega) 1 (by omega)
  have b := it_len (n := t.Day) (by omega) 3 (by omega)
  have e : ∀ u : UInt8, (⟨#[u]⟩ : ByteArray).size = 1 := fun u => rfl
  simp only [pieceB, ByteArray.size_append, e]
  omega
theorem loadTx_len {s : ByteArray} {xs : List Thing} (hs : s.size ≤ 6) (h : thingsB xs = true) : ∀ i, i ≤ xs.length → (loadTx s xs i).size ≤ 7 + 17 * i
  | 0, _ => by
    have e : ∀ u : UInt8, (⟨#[u]⟩ : ByteArray).size = 1 := fun u => rfl
    simp only [loadTx, ByteArray.size_append, e]; omega
  | i + 1, hi => by
    have h1 := loadTx_len hs h i (by omega)
    obtain ⟨a, b, c⟩ := thing_bd h (by omega : i < xs.length)
    have h2 := piece_len a b c
    simp only [loadTx, ByteArray.size_append]; omega

end Go.Proofs.YtgnhfkbjojnjnaaDoor
