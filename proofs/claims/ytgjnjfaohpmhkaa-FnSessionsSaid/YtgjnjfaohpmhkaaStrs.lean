/-
  Lists of strings: the helpers of the laws over them. No conditions.
-/
import Derived.Test.YtgjnjfaohpmhkaaMarkT
namespace Go.Proofs.Ytgjnjfaohpmhkaa
open Go.RowKit

theorem Sl.str {w : World} {A : Option Addr} {n : Nat} {xs : List ByteArray} (h : Sl w A n xs) {k : Nat} (hk : k < n) :
    ∃ b o, A = some ⟨b, o, none⟩ ∧ b < w.heap.size ∧ w.cell? ⟨b, o + k, none⟩ = some (.string (nth xs k)) := by
  obtain ⟨b, o, rfl, hc⟩ := h.flat hk
  have h0 := hc 0 _ rfl
  have e : Flat.sz ByteArray = 1 := rfl
  rw [e, Nat.mul_one, Nat.add_zero] at h0
  exact ⟨b, o, rfl, h.lt hk, h0⟩
theorem Own.str {w : World} {base g n c : Nat} {E : TypeId} {xs : List ByteArray} (h : Own w base E (.slice (some ⟨g, 0, none⟩) n c) xs) {k : Nat} (hk : k < n) : w.cell? ⟨g, k, none⟩ = some (.string (nth xs k)) := by
  have h0 := h.cellAt hk 0 _ rfl
  have e : Flat.sz ByteArray = 1 := rfl
  rwa [e, Nat.mul_one, Nat.add_zero] at h0
theorem Own.putstr {w : World} {base g n c : Nat} {E : TypeId} {xs : List ByteArray} (h : Own w base E (.slice (some ⟨g, 0, none⟩) n c) xs) {k : Nat} (hk : k < n) (y : ByteArray) : Own (w.setCell ⟨g, k, none⟩ (.string (y))) base E (.slice (some ⟨g, 0, none⟩) n c) (xs.set k y) := by
  have h0 := h.put hk y
  have e : Flat.sz ByteArray = 1 := rfl
  rw [e, Nat.mul_one] at h0
  exact h0
theorem el_str : Elem Try.prog 47 9 (Flat.sz ByteArray) := elem_mk Try.underlying47 (by kernel_rfl)
end Go.Proofs.Ytgjnjfaohpmhkaa
