/-
  Diary: its reading, and the helpers of the laws over it. No conditions.
-/
import Derived.Test.YtjnplafphocmiaaDoorState
namespace Go.Proofs.YtjnplafphocmiaaDoor
open Go.RowKit

structure Diary where
  Safe : ByteArray
  Open : ByteArray
  deriving DecidableEq
instance : Inhabited Diary := ⟨⟨ByteArray.empty, ByteArray.empty⟩⟩
instance : Flat Diary where
  sz := 2
  pos := by omega
  enc := fun x => [.string (x.Safe), .string (x.Open)]
  len := fun _ => rfl
  one := fun _ u h => by simp at h; rcases h with rfl | rfl <;> rfl
theorem Sl.diary {w : World} {A : Option Addr} {n : Nat} {xs : List Diary} (h : Sl w A n xs) {k : Nat} (hk : k < n) :
    ∃ b o, A = some ⟨b, o, none⟩ ∧ b < w.heap.size ∧ w.cell? ⟨b, o + k * 2, none⟩ = some (.string ((nth xs k).Safe)) ∧ w.cell? ⟨b, o + k * 2 + 1, none⟩ = some (.string ((nth xs k).Open)) := by
  obtain ⟨b, o, rfl, hc⟩ := h.flat hk
  exact ⟨b, o, rfl, h.lt hk, hc 0 _ rfl, hc 1 _ rfl⟩
theorem diary_eq {x y : Diary} : sameB x y = (sameB x.Safe y.Safe && sameB x.Open y.Open) := by
  cases x; cases y; simp [sameB]
theorem toDiary_any (x : Diary) (w : World) :
    Calls Tryd.prog 26 #[.agg #[.string (x.Safe), .string (x.Open)]] w fun e w' => e = .returned (.agg #[.string (x.Safe), .string (x.Open)]) ∧ Below w.heap.size w w' := by
  go_enter Tryd.func26, Tryd.ntmps26
  go_wp2
  go_returns
  exact ⟨rfl, by repeat' (first | exact bl_refl _ | refine bl_alloc ?_ _ | refine bl_set ?_ ?_ _ | (simp; done) | (simp; omega))⟩

set_option maxHeartbeats 1000000 in
theorem eqDiary_any (x y : Diary) (w : World) :
    Calls Tryd.prog 23 #[.agg #[.string (x.Safe), .string (x.Open)], .agg #[.string (y.Safe), .string (y.Open)]] w fun e w' => e = .returned (.bool (sameB x y)) ∧ Below w.heap.size w w' := by
  by_cases h0 : (x.Safe.toList == y.Safe.toList) = true
  rotate_left
  · have h0 : (x.Safe.toList == y.Safe.toList) = false := by simpa using h0
    have q : Hid (sameB x y = false) := by rw [Hid, sameB_no]; rintro rfl; simp at h0
    go_enter Tryd.func23, Tryd.ntmps23
    go_wp2
    go_returns
    exact ⟨ret_bool q.out.symm, by repeat' (first | exact bl_refl _ | refine bl_alloc ?_ _ | refine bl_set ?_ ?_ _ | (simp; done) | (simp; omega))⟩
  by_cases h1 : (x.Open.toList == y.Open.toList) = true
  rotate_left
  · have h1 : (x.Open.toList == y.Open.toList) = false := by simpa using h1
    have q : Hid (sameB x y = false) := by rw [Hid, sameB_no]; rintro rfl; simp at h1
    go_enter Tryd.func23, Tryd.ntmps23
    go_wp2
    go_returns
    exact ⟨ret_bool q.out.symm, by repeat' (first | exact bl_refl _ | refine bl_alloc ?_ _ | refine bl_set ?_ ?_ _ | (simp; done) | (simp; omega))⟩
  have q : Hid (sameB x y = true) := by
    have z0 : x.Safe = y.Safe := bytes_inj (by simpa using h0)
    have z1 : x.Open = y.Open := bytes_inj (by simpa using h1)
    rw [Hid, sameB_iff]; cases x; cases y; simp only at z0 z1; subst z0 z1; rfl
  go_enter Tryd.func23, Tryd.ntmps23
  go_wp2
  go_returns
  exact ⟨ret_bool q.out.symm, by repeat' (first | exact bl_refl _ | refine bl_alloc ?_ _ | refine bl_set ?_ ?_ _ | (simp; done) | (simp; omega))⟩

theorem szDiary_any (x : Diary) (left : Int) (w : World) (hx : x.Safe.size ≤ maxLen) (hy : x.Open.size ≤ maxLen) (h0 : 0 ≤ left) (h1 : left ≤ 1048576) :
    Calls Tryd.prog 24 #[.agg #[.string (x.Safe), .string (x.Open)], .int .i64 left] w (SzPost w left ((x.Safe.size : Int) + x.Open.size ≤ left)) := by
  unfold maxLen at hx hy
  by_cases hlt : left < x.Safe.size
  · go_enter Tryd.func24, Tryd.ntmps24
    go_wp2
    go_ret
    exact ⟨-1, rfl, .inl rfl, bl_alloc (bl_refl _) _⟩
  · by_cases hlt2 : left - x.Safe.size < x.Open.size
    · go_enter Tryd.func24, Tryd.ntmps24
      go_wp2
      go_ret
      exact ⟨-1, rfl, .inl rfl, bl_alloc (bl_refl _) _⟩
    · go_enter Tryd.func24, Tryd.ntmps24
      go_wp2
      go_ret
      exact ⟨left - x.Safe.size - x.Open.size, rfl, .inr ⟨by omega, by omega, by omega⟩, bl_alloc (bl_refl _) _⟩
end Go.Proofs.YtjnplafphocmiaaDoor
