/-
  Lists of ints: the helpers of the laws over them. No conditions.
-/
import Derived.Test.YtjcjedolhejnaaaGreatDoorMark
namespace Go.Proofs.YtjcjedolhejnaaaGreatDoor
open Go.RowKit

theorem Sl.int {w : World} {A : Option Addr} {n : Nat} {xs : List Int} (h : Sl w A n xs) {k : Nat} (hk : k < n) :
    ∃ b o, A = some ⟨b, o, none⟩ ∧ b < w.heap.size ∧ w.cell? ⟨b, o + k, none⟩ = some (.int .i64 (nth xs k)) := by
  obtain ⟨b, o, rfl, hc⟩ := h.flat hk
  have h0 := hc 0 _ rfl
  have e : Flat.sz Int = 1 := rfl
  rw [e, Nat.mul_one, Nat.add_zero] at h0
  exact ⟨b, o, rfl, h.lt hk, h0⟩
theorem Own.int {w : World} {base g n c : Nat} {E : TypeId} {xs : List Int} (h : Own w base E (.slice (some ⟨g, 0, none⟩) n c) xs) {k : Nat} (hk : k < n) : w.cell? ⟨g, k, none⟩ = some (.int .i64 (nth xs k)) := by
  have h0 := h.cellAt hk 0 _ rfl
  have e : Flat.sz Int = 1 := rfl
  rwa [e, Nat.mul_one, Nat.add_zero] at h0
theorem Own.putint {w : World} {base g n c : Nat} {E : TypeId} {xs : List Int} (h : Own w base E (.slice (some ⟨g, 0, none⟩) n c) xs) {k : Nat} (hk : k < n) (y : Int) : Own (w.setCell ⟨g, k, none⟩ (.int .i64 (y))) base E (.slice (some ⟨g, 0, none⟩) n c) (xs.set k y) := by
  have h0 := h.put hk y
  have e : Flat.sz Int = 1 := rfl
  rw [e, Nat.mul_one] at h0
  exact h0
theorem el_int : Elem Tryz.prog 40 3 (Flat.sz Int) := elem_mk Tryz.underlying40 (by kernel_rfl)
theorem int_info : (Tryz.prog.info? 3).map (fun i => (i.zero, i.size, i.bytes)) = some (some (.int .i64 0), 1, 8) := by kernel_rfl
end Go.Proofs.YtjcjedolhejnaaaGreatDoor
