/-
  Diary: its reading, and the helpers of the laws over it. No conditions.
-/
import Derived.Test.YtenlbeghjabpkaaGreatDoorState
namespace Go.Proofs.YtenlbeghjabpkaaGreatDoor
open Go.RowKit

structure Diary where
  Safe : ByteArray
  Open : ByteArray
  deriving DecidableEq
instance : Inhabited Diary := ⟨⟨ByteArray.empty, ByteArray.empty⟩⟩
instance : Flat Diary where
  sz := 2
  pos := by omega
  enc := fun x => [.string (x.Safe), .string (x.Open)]
  len := fun _ => rfl
  one := fun _ u h => by simp at h; rcases h with rfl | rfl <;> rfl
theorem Sl.diary {w : World} {A : Option Addr} {n : Nat} {xs : List Diary} (h : Sl w A n xs) {k : Nat} (hk : k < n) :
    ∃ b o, A = some ⟨b, o, none⟩ ∧ b < w.heap.size ∧ w.cell? ⟨b, o + k * 2, none⟩ = some (.string ((nth xs k).Safe)) ∧ w.cell? ⟨b, o + k * 2 + 1, none⟩ = some (.string ((nth xs k).Open)) := by
  obtain ⟨b, o, rfl, hc⟩ := h.flat hk
  exact ⟨b, o, rfl, h.lt hk, hc 0 _ rfl, hc 1 _ rfl⟩
theorem diary_eq {x y : Diary} : sameB x y = (sameB x.Safe y.Safe && sameB x.Open y.Open) := by
  cases x; cases y; simp [sameB]
end Go.Proofs.YtenlbeghjabpkaaGreatDoor
