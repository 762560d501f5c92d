/-
  State: its reading, and the helpers of the laws over it. No conditions.
-/
import Derived.Test.YtocpddhlpkdikaaMarkT
namespace Go.Proofs.Ytocpddhlpkdikaa
open Go.RowKit

structure State where
  Name : ByteArray
  Value : Int
  deriving DecidableEq
instance : Inhabited State := ⟨⟨ByteArray.empty, 0⟩⟩
instance : Flat State where
  sz := 2
  pos := by omega
  enc := fun x => [.string (x.Name), .int .i64 (x.Value)]
  len := fun _ => rfl
  one := fun _ u h => by simp at h; rcases h with rfl | rfl <;> rfl
theorem Sl.state {w : World} {A : Option Addr} {n : Nat} {xs : List State} (h : Sl w A n xs) {k : Nat} (hk : k < n) :
    ∃ b o, A = some ⟨b, o, none⟩ ∧ b < w.heap.size ∧ w.cell? ⟨b, o + k * 2, none⟩ = some (.string ((nth xs k).Name)) ∧ w.cell? ⟨b, o + k * 2 + 1, none⟩ = some (.int .i64 ((nth xs k).Value)) := by
  obtain ⟨b, o, rfl, hc⟩ := h.flat hk
  exact ⟨b, o, rfl, h.lt hk, hc 0 _ rfl, hc 1 _ rfl⟩
theorem state_eq {x y : State} : sameB x y = (sameB x.Name y.Name && sameB x.Value y.Value) := by
  cases x; cases y; simp [sameB]
theorem szState_any (x : State) (left : Int) (w : World) (hx : x.Name.size ≤ maxLen) (h0 : 0 ≤ left) (h1 : left ≤ 1048576) :
    Calls Try.prog 9 #[.agg #[.string (x.Name), .int .i64 (x.Value)], .int .i64 left] w (SzPost w left ((x.Name.size : Int) ≤ left)) := by
  unfold maxLen at hx
  by_cases hlt : left < x.Name.size
  · go_enter Try.func9, Try.ntmps9
    go_wp2
    go_ret
    exact ⟨-1, rfl, .inl rfl, bl_alloc (bl_refl _) _⟩
  · go_enter Try.func9, Try.ntmps9
    go_wp2
    go_ret
    exact ⟨left - x.Name.size, rfl, .inr ⟨by omega, by omega, by first | omega | trivial⟩, bl_alloc (bl_refl _) _⟩

theorem toState_any (x : State) (w : World) :
    Calls Try.prog 11 #[.agg #[.string (x.Name), .int .i64 (x.Value)]] w fun e w' => e = .returned (.agg #[.string (x.Name), .int .i64 (x.Value)]) ∧ Below w.heap.size w w' := by
  go_enter Try.func11, Try.ntmps11
  go_wp2
  go_returns
  exact ⟨rfl, by repeat' (first | exact bl_refl _ | refine bl_alloc ?_ _ | refine bl_set ?_ ?_ _ | (simp; done) | (simp; omega))⟩

end Go.Proofs.Ytocpddhlpkdikaa
