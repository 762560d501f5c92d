/-
  slices.rotateCmpFunc at int. No conditions.
-/
import Derived.Test.YtgjnjfaohpmhkaaSsW
namespace Go.Proofs.Ytgjnjfaohpmhkaa
open Go.RowKit

theorem swapRange_parts (base g n c : Nat) (P X Y Z Q L : List Int) (a b m : Nat) (cv : Value) (w : World) (ha : P.length = a) (hb : P.length + X.length + Y.length = b) (hm : X.length = m) (hz : Z.length = m) (hn : n ≤ 1000) (hL : L = P ++ (X ++ (Y ++ (Z ++ Q)))) (ho : Own w base 3 (.slice (some ⟨g, 0, none⟩) n c) L) :
    Calls Try.prog 95 #[.slice (some ⟨g, 0, none⟩) n c, .int .i64 (a : Int), .int .i64 (b : Int), .int .i64 (m : Int), cv] w fun e w' => e = .returned (.tuple #[]) ∧ Own w' base 3 (.slice (some ⟨g, 0, none⟩) n c) (P ++ (Z ++ (Y ++ (X ++ Q)))) ∧ OnlyF [g] w w' := by
  subst hL ha hb hm
  have hl := ho.sl.1
  simp only [List.length_append] at hl
  have h0 := swapRange_any base g n c P.length (P.length + X.length + Y.length) X.length _ cv w (by omega) (by omega) hn ho
  rw [swR_parts hz.symm] at h0
  exact h0
theorem split_at {Y : List Int} {k : Nat} (h : k ≤ Y.length) : ∃ A B, Y = A ++ B ∧ A.length = k := ⟨Y.take k, Y.drop k, (List.take_append_drop k Y).symm, by rw [List.length_take]; omega⟩
set_option maxRecDepth 100000 in
set_option maxHeartbeats 8000000 in
theorem rotate_any (base g n c : Nat) (P A B Q L0 : List Int) (a m b : Nat) (cv : Value) (w : World) (ha : P.length = a) (hm : P.length + A.length = m) (hb : P.length + A.length + B.length = b) (hA : 0 < A.length) (hB : 0 < B.length) (hn : n ≤ 1000) (hL : L0 = P ++ (A ++ (B ++ Q))) (ho : Own w base 3 (.slice (some ⟨g, 0, none⟩) n c) L0) :
    Calls Try.prog 94 #[.slice (some ⟨g, 0, none⟩) n c, .int .i64 (a : Int), .int .i64 (m : Int), .int .i64 (b : Int), cv] w fun e w' => e = .returned (.tuple #[]) ∧ Own w' base 3 (.slice (some ⟨g, 0, none⟩) n c) (P ++ (B ++ (A ++ Q))) ∧ OnlyF [g] w w' := by
  have hl := ho.sl.1
  rw [hL] at hl
  simp only [List.length_append] at hl
  obtain ⟨T, hT⟩ : ∃ T, P ++ (B ++ (A ++ Q)) = T := ⟨_, rfl⟩
  rw [hT]
  have w1 : IntKind.i64.wrap ((m : Int) - (a : Int)) = ((m - a : Nat) : Int) := by rw [IntWalk.i64_in _ (by omega)]; omega
  have w2 : IntKind.i64.wrap ((b : Int) - (m : Int)) = ((b - m : Nat) : Int) := by rw [IntWalk.i64_in _ (by omega)]; omega
  have start : ∃ (i j : Nat) (P' X Y Q' : List Int), m - a = i ∧ b - m = j ∧ 0 < i ∧ 0 < j ∧ i ≤ m ∧ m + j ≤ n ∧ (X.length = i ∧ Y.length = j ∧ P'.length + i = m ∧ P' ++ (Y ++ (X ++ Q')) = T ∧ L0 = P' ++ (X ++ (Y ++ Q'))) :=
    ⟨m - a, b - m, P, A, B, Q, rfl, rfl, by omega, by omega, by omega, by omega, by omega, by omega, by omega, hT, hL⟩
  obtain ⟨i0, j0, P0, X0, Y0, Q0, e1, e2, s1, s2, s3, s4, s5⟩ := start
  rw [e1] at w1
  rw [e2] at w2
  have S5 := Lib.hid s5
  clear hL hT hb hm ha hl e1 e2 hA hB s5
  go_enter Try.func94, Try.ntmps94
  go_wp2
  go_loopw [10, 11] (fun iv jv wr => ∃ (i j : Nat) (P' X Y Q' L : List Int), iv = .int .i64 i ∧ jv = .int .i64 j ∧ 0 < i ∧ 0 < j ∧ i ≤ m ∧ m + j ≤ n ∧ Hid (X.length = i ∧ Y.length = j ∧ P'.length + i = m ∧ P' ++ (Y ++ (X ++ Q')) = T ∧ L = P' ++ (X ++ (Y ++ Q'))) ∧ Own wr base 3 (.slice (some ⟨g, 0, none⟩) n c) L ∧ OnlyF [g] w wr) (fun iv jv _ => (intOf iv).toNat + (intOf jv).toNat)
  case atStart => exact ⟨i0, j0, P0, X0, Y0, Q0, _, rfl, rfl, s1, s2, s3, s4, S5, ho, OnlyF.refl _ _⟩
  case round =>
    obtain ⟨i, j, P', X, Y, Q', L, rfl, rfl, hi, hj, him, hjn, HH, hor, hfr⟩ := hrel
    clear ho s1 s2 s3 s4 S5 w1 w2
    have v1 : IntKind.i64.wrap ((m : Int) - (i : Int)) = ((m - i : Nat) : Int) := by rw [IntWalk.i64_in _ (by omega)]; omega
    by_cases hij : i = j
    · subst hij
      have hsw := Lib.hid (swapRange_parts base g n c P' X [] Y Q' L (m - i) m i cv wr (by have := HH.out; omega) (by have := HH.out; simp; omega) HH.out.1 HH.out.2.1 hn (by rw [HH.out.2.2.2.2]; rfl) hor)
      have hT2 : Hid (P' ++ (Y ++ ([] ++ (X ++ Q'))) = T) := by rw [Hid, ← HH.out.2.2.2.1]; rfl
      clear HH hor
      go_wp2_with fail
      refine hsw.out.mono ?_
      rintro e V1 ⟨rfl, ho1, hf1⟩
      rw [hT2.out] at ho1
      go_wp2
      go_end0
      exact ⟨rfl, ho1, hfr.trans hf1⟩
    · have hq : ((i : Int) != (j : Int)) = true := by simp; omega
      by_cases hgt : j < i
      · have hd : decide (j < i) = true := decide_eq_true hgt
        have v2 : IntKind.i64.wrap ((i : Int) - (j : Int)) = ((i - j : Nat) : Int) := by rw [IntWalk.i64_in _ (by omega)]; omega
        obtain ⟨X1, X2, hX, hX1⟩ := split_at (Y := X) (k := j) (by have := HH.out; omega)
        have hX2 : X1.length + X2.length = i := by have := HH.out.1; rw [hX, List.length_append] at this; exact this
        have hsw := Lib.hid (swapRange_parts base g n c P' X1 X2 Y Q' L (m - i) m j cv wr (by have := HH.out; omega) (by have := HH.out; omega) hX1 HH.out.2.1 hn (by rw [HH.out.2.2.2.2, hX]; simp only [List.append_assoc]) hor)
        have HN : Hid (X2.length = i - j ∧ X1.length = j ∧ (P' ++ Y).length + (i - j) = m ∧ (P' ++ Y) ++ (X1 ++ (X2 ++ Q')) = T ∧ P' ++ (Y ++ (X2 ++ (X1 ++ Q'))) = (P' ++ Y) ++ (X2 ++ (X1 ++ Q'))) := by
          obtain ⟨q1, q2, q3, q4, q5⟩ := HH.out
          refine ⟨by omega, hX1, by rw [List.length_append]; omega, ?_, by simp only [List.append_assoc]⟩
          rw [← q4, hX]; simp only [List.append_assoc]
        clear HH hor hX hX1 hX2
        go_wp2_with fail
        refine hsw.out.mono ?_
        rintro e V1 ⟨rfl, ho1, hf1⟩
        go_wp2
        go_roundw
        case rel => exact ⟨i - j, j, _, _, _, _, _, rfl, rfl, by omega, hj, by omega, hjn, HN, ho1, hfr.trans hf1⟩
        case measure => simp only [intOf]; omega
      · have hd : decide (j < i) = false := decide_eq_false hgt
        have v2 : IntKind.i64.wrap ((j : Int) - (i : Int)) = ((j - i : Nat) : Int) := by rw [IntWalk.i64_in _ (by omega)]; omega
        obtain ⟨q, hq'⟩ : ∃ q : Nat, m + j = q := ⟨_, rfl⟩
        have v3 : IntKind.i64.wrap ((m : Int) + (j : Int)) = (q : Int) := by rw [IntWalk.i64_in _ (by omega)]; omega
        have v4 : IntKind.i64.wrap ((q : Int) - (i : Int)) = ((q - i : Nat) : Int) := by rw [IntWalk.i64_in _ (by omega)]; omega
        obtain ⟨Y1, Y2, hY, hY1⟩ := split_at (Y := Y) (k := j - i) (by have := HH.out; omega)
        have hY2 : Y1.length + Y2.length = j := by have := HH.out.2.1; rw [hY, List.length_append] at this; exact this
        have hsw := Lib.hid (swapRange_parts base g n c P' X Y1 Y2 Q' L (m - i) (q - i) i cv wr (by have := HH.out; omega) (by have := HH.out; omega) HH.out.1 (by omega) hn (by rw [HH.out.2.2.2.2, hY]; simp only [List.append_assoc]) hor)
        have HN : Hid (Y2.length = i ∧ Y1.length = j - i ∧ P'.length + i = m ∧ P' ++ (Y1 ++ (Y2 ++ (X ++ Q'))) = T ) := by
          obtain ⟨q1, q2, q3, q4, q5⟩ := HH.out
          refine ⟨by omega, hY1, q3, ?_⟩
          rw [← q4, hY]; simp only [List.append_assoc]
        clear HH hor hY hY1 hY2 hq'
        go_wp2_with fail
        refine hsw.out.mono ?_
        rintro e V1 ⟨rfl, ho1, hf1⟩
        go_wp2
        go_roundw
        case rel => exact ⟨i, j - i, _, _, _, _, _, rfl, rfl, hi, by omega, him, by omega, ⟨HN.out.1, HN.out.2.1, HN.out.2.2.1, HN.out.2.2.2, rfl⟩, ho1, hfr.trans hf1⟩
        case measure => simp only [intOf]; omega
end Go.Proofs.Ytgjnjfaohpmhkaa
