/-
  SessionsFor: how long an answer is. No conditions.
-/
import Derived.Test.YtgjnjfaohpmhkaaSsT
import Derived.Test.YtgjnjfaohpmhkaaIss
namespace Go.Proofs.Ytgjnjfaohpmhkaa
open Go.RowKit

theorem sumInts_flat (xs : List (List Int)) : sumInts xs = xs.flatten.length := by
  unfold sumInts; rw [List.length_flatten]
theorem len_flatMap_le {f : Nat → List Int} {m : Nat} (h : ∀ j, (f j).length ≤ m) : ∀ k, ((List.range k).flatMap f).length ≤ k * m
  | 0 => by simp
  | k + 1 => by
    have h1 := len_flatMap_le h k
    have h2 := h k
    rw [List.range_succ, List.flatMap_append, List.length_append, Nat.succ_mul]
    simp only [List.flatMap_cons, List.flatMap_nil, List.append_nil]
    omega
theorem ssF_len (xs : List Skill) (day ahead seats : Int) : (ssF xs day ahead seats).1.length ≤ 1048576 ∧ ((ssF xs day ahead seats).1.length : Int) + sumInts (ssF xs day ahead seats).1 ≤ 1048576 := by
  unfold ssF; split
  · rename_i h
    unfold ssB at h
    simp only [Bool.and_eq_true] at h
    have h1 := (askB_parts h.1).1
    obtain ⟨s0, s1⟩ := inB_iff.1 h.2
    have hm : 0 < seats.toNat := by omega
    have hd : (dueS xs day ahead).length ≤ 24 := by rw [dueS_len]; have := dueU_len xs day ahead xs.length; omega
    have h2 := ssU_len xs day ahead hm 6
    have h3 : sumInts (ssU xs day ahead seats.toNat 6) ≤ 6 * (dueS xs day ahead).length := by
      rw [sumInts_flat, ss_flat xs day ahead hm]
      exact len_flatMap_le (fun j => List.length_filter_le _ _) 6
    simp only
    omega
  · simp [sumInts]

end Go.Proofs.Ytgjnjfaohpmhkaa
