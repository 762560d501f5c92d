/-
  Skill: its reading, and the helpers of the laws over it. No conditions.
-/
import Derived.Test.YtjcjedolhejnaaaGreatDoorMarkT
namespace Go.Proofs.YtjcjedolhejnaaaGreatDoor
open Go.RowKit

structure Skill where
  Person : ByteArray
  Kind : Int
  Until : Int
  deriving DecidableEq
instance : Inhabited Skill := ⟨⟨ByteArray.empty, 0, 0⟩⟩
instance : Flat Skill where
  sz := 3
  pos := by omega
  enc := fun x => [.string (x.Person), .int .i64 (x.Kind), .int .i64 (x.Until)]
  len := fun _ => rfl
  one := fun _ u h => by simp at h; rcases h with rfl | rfl | rfl <;> rfl
theorem Sl.skill {w : World} {A : Option Addr} {n : Nat} {xs : List Skill} (h : Sl w A n xs) {k : Nat} (hk : k < n) :
    ∃ b o, A = some ⟨b, o, none⟩ ∧ b < w.heap.size ∧ w.cell? ⟨b, o + k * 3, none⟩ = some (.string ((nth xs k).Person)) ∧ w.cell? ⟨b, o + k * 3 + 1, none⟩ = some (.int .i64 ((nth xs k).Kind)) ∧ w.cell? ⟨b, o + k * 3 + 2, none⟩ = some (.int .i64 ((nth xs k).Until)) := by
  obtain ⟨b, o, rfl, hc⟩ := h.flat hk
  exact ⟨b, o, rfl, h.lt hk, hc 0 _ rfl, hc 1 _ rfl, hc 2 _ rfl⟩
theorem skill_eq {x y : Skill} : sameB x y = (sameB x.Person y.Person && sameB x.Kind y.Kind && sameB x.Until y.Until) := by
  cases x; cases y; simp [sameB, Bool.and_assoc]
theorem skill_info : (Tryz.prog.info? 62).map (fun i => (i.zero, i.size, i.bytes)) = some (some (.agg #[.string ByteArray.empty, .int .i64 0, .int .i64 0]), 3, 32) := by kernel_rfl
def mkSkill (m : Int) : Skill := ⟨mkT m, (m + 1), (m + 1 + 1)⟩
end Go.Proofs.YtjcjedolhejnaaaGreatDoor
