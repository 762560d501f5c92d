/-
  Incidents: how great the answers are. No conditions.
-/
import Derived.Test.YtnaadihbkiakeaaCuI
namespace Go.Proofs.Ytnaadihbkiakeaa
open Go.RowKit

theorem sm_nil : SmI [] := fun x hx => by cases hx
theorem sm_incs {xs : List Incident} (h : incsB xs = true) : xs.length ≤ 8 ∧ SmI xs := incs_small h
theorem cm_any {xs C : List Incident} {number : Int} {s : ByteArray} {ok : Bool} (h : cmF xs number s = (C, ok)) : C.length ≤ 8 ∧ SmI C := by
  cases ok with
  | true => exact sm_incs (commit_law h).2.2.2.1
  | false =>
    unfold cmF at h
    split at h
    · cases h
    · injection h with h1 _; subst h1; exact ⟨by simp, sm_nil⟩
theorem jo_any {xs C : List Incident} {number other : Int} {ok : Bool} (h : joF xs number other = (C, ok)) : C.length ≤ 8 ∧ SmI C := by
  cases ok with
  | true => exact sm_incs (join_law h).2.2.2.1
  | false =>
    unfold joF at h
    split at h
    · cases h
    · injection h with h1 _; subst h1; exact ⟨by simp, sm_nil⟩
theorem tr_any {xs C : List Incident} {number : Int} {s : ByteArray} {ok : Bool} (h : trF xs s number = (C, ok)) : C.length ≤ 8 ∧ SmI C := by
  cases ok with
  | true =>
    obtain ⟨frm, h1, h2, _⟩ := transfer_law h
    refine sm_incs ?_
    cases hi : incsB C with
    | true => rfl
    | false => rw [ctF_no (by rw [hi]; simp)] at h2; cases h2
  | false =>
    unfold trF at h
    split at h
    · cases h
    · injection h with h1 _; subst h1; exact ⟨by simp, sm_nil⟩
theorem rl_any {xs C : List Incident} {number : Int} {s : ByteArray} {ok : Bool} (h : rlF xs number s = (C, ok)) : C.length ≤ 8 ∧ SmI C := by
  unfold rlF at h
  split at h
  · rename_i hc
    injection h with h1 _
    subst h1
    simp only [Bool.and_eq_true, decide_eq_true_eq] at hc
    obtain ⟨⟨⟨h1, h2⟩, h3⟩, h4⟩ := hc
    obtain ⟨h5, h6⟩ := incs_small h1
    refine ⟨by rw [List.length_set]; exact h5, fun x hx => ?_⟩
    rcases List.mem_or_eq_of_mem_set hx with hx | rfl
    · exact h6 x hx
    · obtain ⟨k, hk⟩ := Int.eq_ofNat_of_zero_le h3
      have hkl := (open_at hk).1
      have h7 := h6 _ (nth_mem hkl)
      have e : (openI xs number).toNat = k := by rw [hk]; rfl
      rw [e]
      exact ⟨Nat.le_trans (List.length_filter_le _ _) h7.1, fun y hy => h7.2 y (dropS_mem.1 hy).1⟩
  · injection h with h1 _; subst h1; exact ⟨by simp, sm_nil⟩
theorem any_yesI {L : List Int} {v : Int} (h : v ∈ L) : L.any (fun x => x == v) = true := List.any_eq_true.2 ⟨v, h, by simp⟩
theorem any_noI {L : List Int} {v : Int} (h : v ∉ L) : L.any (fun x => x == v) = false := by
  cases e : L.any (fun x => x == v) with
  | false => rfl
  | true => obtain ⟨x, h1, h2⟩ := List.any_eq_true.1 e; exact absurd (by have := eq_of_beq h2; subst this; exact h1) h
end Go.Proofs.Ytnaadihbkiakeaa
