/-
  SkillsText: what it answers. No conditions.
-/
import Derived.Test.YtjcjedolhejnaaaGreatDoorSkillB
import Derived.Test.YtjcjedolhejnaaaGreatDoorJnEq
namespace Go.Proofs.YtjcjedolhejnaaaGreatDoor
open Go.RowKit

def pieceK (x : Skill) : ByteArray := x.Person ++ ⟨#[47]⟩ ++ itB x.Kind ++ ⟨#[47]⟩ ++ itB x.Until ++ ⟨#[59]⟩
def skText (xs : List Skill) : Nat → ByteArray
  | 0 => ⟨#[]⟩
  | i + 1 => skText xs i ++ pieceK (nth xs i)
def stF (xs : List Skill) : ByteArray × Bool := if skillsB xs then (skText xs xs.length, true) else (⟨#[]⟩, false)
theorem stF_yes {xs : List Skill} (h : skillsB xs = true) : stF xs = (skText xs xs.length, true) := by unfold stF; rw [if_pos h]
theorem stF_no {xs : List Skill} (h : skillsB xs = false) : stF xs = (⟨#[]⟩, false) := by unfold stF; rw [if_neg (by rw [h]; exact Bool.false_ne_true)]
theorem ret_stb {a b : ByteArray} {p : Bool} {r : ByteArray × Bool} (h : r = (a, p)) (h1 : a = b) : Ending.returned (.tuple #[.string b, .bool p]) = .returned (.tuple #[.string r.1, .bool r.2]) := by rw [h, h1]
theorem skills_bd {xs : List Skill} (h : skillsB xs = true) : xs.length ≤ 24 ∧ ∀ k, k < xs.length → (nth xs k).Person.size ≤ 6 ∧ (0 ≤ (nth xs k).Kind ∧ (nth xs k).Kind ≤ 5) ∧ (0 ≤ (nth xs k).Until ∧ (nth xs k).Until ≤ 20000) := by
  unfold skillsB at h
  simp only [Bool.and_eq_true, decide_eq_true_eq] at h
  refine ⟨h.2, fun k hk => ?_⟩
  have h1 := allB_iff.1 h.1 k hk
  simp only [okSkill, skillB, Bool.and_eq_true] at h1
  exact ⟨nameB_size h1.1.1.1, inB_iff.1 h1.1.1.2, inB_iff.1 h1.1.2⟩
theorem pieceK_len {x : Skill} (h0 : x.Person.size ≤ 6) (h1 : 0 ≤ x.Kind ∧ x.Kind ≤ 5) (h2 : 0 ≤ x.Until ∧ x.Until ≤ 20000) : (pieceK x).size ≤ 15 := by
  have a := it_len (n := x.Kind) h1.1 0 (by omega)
  have b := it_len (n := x.Until) h2.1 4 (by omega)
  have e : ∀ u : UInt8, (⟨#[u]⟩ : ByteArray).size = 1 := fun u => rfl
  simp only [pieceK, ByteArray.size_append, e]
  omega
theorem skText_len {xs : List Skill} (h : skillsB xs = true) : ∀ i, i ≤ xs.length → (skText xs i).size ≤ 15 * i
  | 0, _ => Nat.le_refl _
  | i + 1, hi => by
    have h1 := skText_len h i (by omega)
    obtain ⟨a, b, c⟩ := (skills_bd h).2 i (by omega)
    have h2 := pieceK_len a b c
    simp only [skText, ByteArray.size_append]; omega
theorem pieceK_impl (x : Skill) : x.Person ++ ⟨#[47]⟩ ++ (itB x.Kind ++ ⟨#[47]⟩ ++ itB x.Until) ++ ⟨#[59]⟩ = pieceK x := by
  apply ba_ext; simp [pieceK]

end Go.Proofs.YtjcjedolhejnaaaGreatDoor
