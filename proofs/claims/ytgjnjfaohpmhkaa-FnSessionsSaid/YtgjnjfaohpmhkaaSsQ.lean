/-
  Places exchanged, in plain words. No conditions.
-/
import Derived.Test.YtgjnjfaohpmhkaaSsP
namespace Go.Proofs.Ytgjnjfaohpmhkaa
open Go.RowKit

def swapL (L : List Int) (i j : Nat) : List Int := (L.set i (nth L j)).set j (nth L i)
theorem swapL_len (L : List Int) (i j : Nat) : (swapL L i j).length = L.length := by simp [swapL]
theorem nth_setI {L : List Int} {i k : Nat} {x : Int} (h : k < L.length) : nth (L.set i x) k = if i = k then x else nth L k := by
  unfold nth
  rw [List.getD_eq_getElem?_getD, List.getD_eq_getElem?_getD, List.getElem?_set]
  split
  · rename_i e; subst e; rw [if_pos h]; rfl
  · rfl
theorem swapL_nth {L : List Int} {i j k : Nat} (h : k < L.length) (_hi : i < L.length) (_hj : j < L.length) : nth (swapL L i j) k = if k = i then nth L j else if k = j then nth L i else nth L k := by
  unfold swapL
  rw [nth_setI (by rw [List.length_set]; exact h), nth_setI h]
  by_cases e1 : j = k
  · subst e1
    rw [if_pos rfl]
    by_cases e2 : j = i
    · subst e2; rw [if_pos rfl]
    · rw [if_neg e2, if_pos rfl]
  · rw [if_neg e1]
    by_cases e2 : i = k
    · subst e2; rw [if_pos rfl, if_pos rfl]
    · rw [if_neg e2, if_neg (fun h => e2 h.symm), if_neg (fun h => e1 h.symm)]
def swR (L : List Int) (a b : Nat) : Nat → List Int
  | 0 => L
  | k + 1 => swapL (swR L a b k) (a + k) (b + k)
theorem swR_len (L : List Int) (a b : Nat) : ∀ k, (swR L a b k).length = L.length
  | 0 => rfl
  | k + 1 => by rw [swR, swapL_len, swR_len L a b k]
theorem swR_nth {L : List Int} {a b : Nat} : ∀ {m j : Nat}, a + m ≤ b → b + m ≤ L.length → j < L.length → nth (swR L a b m) j = if a ≤ j ∧ j < a + m then nth L (j - a + b) else if b ≤ j ∧ j < b + m then nth L (j - b + a) else nth L j
  | 0, j, _, _, _ => by rw [if_neg (by omega), if_neg (by omega)]; rfl
  | m + 1, j, h1, h2, h3 => by
    have hl := swR_len L a b m
    rw [swR, swapL_nth (by omega) (by omega) (by omega)]
    by_cases e1 : j = a + m
    · subst e1
      rw [if_pos rfl, if_pos (by omega), swR_nth (by omega) (by omega) (by omega), if_neg (by omega), if_neg (by omega)]
      congr 1; omega
    · rw [if_neg e1]
      by_cases e2 : j = b + m
      · subst e2
        rw [if_pos rfl, if_neg (by omega), if_pos (by omega), swR_nth (by omega) (by omega) (by omega), if_neg (by omega), if_neg (by omega)]
        congr 1; omega
      · rw [if_neg e2, swR_nth (by omega) (by omega) (by omega)]
        have hA : (a ≤ j ∧ j < a + m) ↔ (a ≤ j ∧ j < a + (m + 1)) := by omega
        have hB : (b ≤ j ∧ j < b + m) ↔ (b ≤ j ∧ j < b + (m + 1)) := by omega
        simp only [hA, hB]
theorem at2 {P X R : List Int} {j : Nat} (h1 : P.length ≤ j) (h2 : j < P.length + X.length) : nth (P ++ (X ++ R)) j = nth X (j - P.length) := by
  rw [nth_right h1, nth_left (by omega)]
theorem at3 {P X Y R : List Int} {j : Nat} (h1 : P.length + X.length ≤ j) (h2 : j < P.length + X.length + Y.length) : nth (P ++ (X ++ (Y ++ R))) j = nth Y (j - P.length - X.length) := by
  rw [nth_right (by omega), nth_right (by omega), nth_left (by omega)]
theorem at4 {P X Y Z R : List Int} {j : Nat} (h1 : P.length + X.length + Y.length ≤ j) (h2 : j < P.length + X.length + Y.length + Z.length) : nth (P ++ (X ++ (Y ++ (Z ++ R)))) j = nth Z (j - P.length - X.length - Y.length) := by
  rw [nth_right (by omega), nth_right (by omega), nth_right (by omega), nth_left (by omega)]
theorem at5 {P X Y Z Q : List Int} {j : Nat} (h1 : P.length + X.length + Y.length + Z.length ≤ j) : nth (P ++ (X ++ (Y ++ (Z ++ Q)))) j = nth Q (j - P.length - X.length - Y.length - Z.length) := by
  rw [nth_right (by omega), nth_right (by omega), nth_right (by omega), nth_right (by omega)]
/-- a piece of a list: what stands from a on, n of it -/
theorem swR_parts {P X Y Z Q : List Int} (h : X.length = Z.length) : swR (P ++ (X ++ (Y ++ (Z ++ Q)))) P.length (P.length + X.length + Y.length) X.length = P ++ (Z ++ (Y ++ (X ++ Q))) := by
  refine ext_nth (by rw [swR_len]; simp only [List.length_append]; omega) fun j hj => ?_
  rw [swR_len] at hj
  have hl : (P ++ (X ++ (Y ++ (Z ++ Q)))).length = P.length + X.length + Y.length + Z.length + Q.length := by simp only [List.length_append]; omega
  rw [hl] at hj
  rw [swR_nth (by omega) (by omega) (by omega)]
  by_cases c1 : j < P.length
  · rw [if_neg (by omega), if_neg (by omega), nth_left c1, nth_left c1]
  · by_cases c2 : j < P.length + X.length
    · rw [if_pos (by omega), at4 (by omega) (by omega), at2 (by omega) (by omega)]
      congr 1; omega
    · rw [if_neg (by omega)]
      by_cases c3 : j < P.length + X.length + Y.length
      · rw [if_neg (by omega), at3 (by omega) (by omega), at3 (by omega) (by omega)]
        congr 1; omega
      · by_cases c4 : j < P.length + X.length + Y.length + Z.length
        · rw [if_pos (by omega), at2 (by omega) (by omega), at4 (by omega) (by omega)]
          congr 1; omega
        · rw [if_neg (by omega), at5 (by omega), at5 (by omega)]
          congr 1; omega

end Go.Proofs.Ytgjnjfaohpmhkaa
