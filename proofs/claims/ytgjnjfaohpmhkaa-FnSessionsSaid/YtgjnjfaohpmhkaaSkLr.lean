/-
  Skills: what is renewed. No conditions.
-/
import Derived.Test.YtgjnjfaohpmhkaaRenP
namespace Go.Proofs.Ytgjnjfaohpmhkaa
open Go.RowKit

theorem placeK_spec (l : List Skill) (x : Skill) : placeK l x ≤ l.length ∧ (∀ j, j < placeK l x → skLess (nth l j) x = true) ∧ (placeK l x < l.length → skLess (nth l (placeK l x)) x = false) := by
  obtain ⟨h1, h2⟩ := indexF_range (fun y => !skLess y x) l
  unfold placeK
  by_cases h : indexF (fun y => !skLess y x) l = -1
  · rw [if_pos h]
    have h3 := indexF_all h
    exact ⟨Nat.le_refl _, fun j hj => by simpa using h3 j hj, fun hj => absurd hj (Nat.lt_irrefl _)⟩
  · rw [if_neg h]
    obtain ⟨k, hk⟩ : ∃ k : Nat, indexF (fun y => !skLess y x) l = (k : Int) := ⟨(indexF (fun y => !skLess y x) l).toNat, by omega⟩
    rw [hk]
    have e : ((k : Int)).toNat = k := by omega
    rw [e]
    exact ⟨by omega, fun j hj => by simpa using indexF_before hk j hj, fun _ => by simpa using (indexF_at hk).2⟩
theorem sk_irr {x y : Skill} (h : x.Person.toList = y.Person.toList) (h' : x.Kind = y.Kind) : skLess x y = false := by
  unfold skLess; rw [h, h', bl_irr]; simp
theorem sk_left {x y z : Skill} (h : x.Person = y.Person) (h' : x.Kind = y.Kind) : skLess x z = skLess y z := by
  unfold skLess; rw [h, h']
/-- the renewed skills -/
theorem renew_ok {l r : List Skill} {x : Skill} (h : renF l x = (r, true)) : skillsB r = true ∧ skillB x = true ∧ ∃ k, k < r.length ∧ nth r k = x := by
  obtain ⟨p1, p2, p3⟩ := placeK_spec l x
  unfold renF at h
  generalize placeK l x = k at h p1 p2 p3
  have hput : ∀ k', k ≤ k' → nth (l.take k ++ [x] ++ l.drop k') k = x := fun k' _ => by rw [nth_put p1, if_neg (Nat.lt_irrefl _), if_pos rfl]
  have hlen : ∀ k', (l.take k ++ [x] ++ l.drop k').length = k + 1 + (l.length - k') := fun k' => by
    simp only [List.length_append, List.length_take, List.length_drop, List.length_cons, List.length_nil]; omega
  split at h
  · rename_i hc
    simp only [Bool.and_eq_true] at hc
    obtain ⟨hs, hx⟩ := hc
    have h24 := skillsB_len hs
    split at h
    · rename_i hd
      simp only [Bool.and_eq_true, decide_eq_true_eq, Bool.not_eq_true'] at hd
      obtain ⟨e1, e2⟩ := sk_same (p3 hd.1) hd.2
      split at h
      · cases h
      · injection h with h1 _
        subst h1
        have hok := put_ok (k' := k + 1) hs hx p1 p2 (by omega) (by omega) (fun h2 => by rw [sk_left e1.symm e2.symm]; exact skills_srt hs _ _ (by omega) h2)
        rw [hlen, decide_eq_true (by omega)] at hok
        exact ⟨hok, hx, k, by rw [hlen]; omega, hput _ (by omega)⟩
    · rename_i hd
      split at h
      · cases h
      · injection h with h1 _
        subst h1
        have hok := put_ok (k' := k) hs hx p1 p2 (by omega) (by omega) (fun h2 => by
          cases e : skLess x (nth l k) with
          | true => rfl
          | false => exact absurd (by simp [h2, e]) hd)
        rw [hlen, decide_eq_true (by omega)] at hok
        exact ⟨hok, hx, k, by rw [hlen]; omega, hput _ (by omega)⟩
  · cases h
theorem renew_small {l r : List Skill} {x : Skill} (h : renF l x = (r, true)) : r.length ≤ 24 ∧ ∀ y, y ∈ r → y.Person.size ≤ 7 := by
  have h1 := (renew_ok h).1
  refine ⟨skillsB_len h1, fun y hy => ?_⟩
  obtain ⟨k, hk, rfl⟩ := List.getElem_of_mem hy
  have h2 := skill_at h1 hk
  rw [nth_get (List.getElem?_eq_getElem hk)] at h2
  simp only [skillB, Bool.and_eq_true] at h2
  have := nameB_size h2.1.1
  omega

end Go.Proofs.Ytgjnjfaohpmhkaa
