/-
  UnknownNames: what it answers. No conditions.
-/
import Derived.Test.YtkgjbijkjlmomaaUnS
import Derived.Test.YtkgjbijkjlmomaaApplB
import Derived.Test.YtkgjbijkjlmomaaIcLen
namespace Go.Proofs.Ytkgjbijkjlmomaa
open Go.RowKit

def apF (fs : List Appliance) (s : ByteArray) : Int := indexF (fun a => a.Name.toList == s.toList) fs
def isU (fs : List Appliance) (s : ByteArray) : Bool := decide (apF fs s < 0)
/-- the unknown names of the first k incidents, and of the first j names of the next one -/
def unU (xs : List Incident) (fs : List Appliance) (k j : Nat) : List ByteArray := ((xs.take k).flatMap (·.Names) ++ (nth xs k).Names.take j).filter (isU fs)
def unkL (xs : List Incident) (fs : List Appliance) : List ByteArray := (xs.flatMap (·.Names)).filter (isU fs)
theorem unU_0 (xs : List Incident) (fs : List Appliance) (k : Nat) : unU xs fs k 0 = ((xs.take k).flatMap (·.Names)).filter (isU fs) := by simp [unU]
theorem unU_start (xs : List Incident) (fs : List Appliance) : unU xs fs 0 0 = [] := by simp [unU]
theorem unU_next {xs : List Incident} {fs : List Appliance} {k : Nat} (hk : k < xs.length) : unU xs fs k (nth xs k).Names.length = unU xs fs (k + 1) 0 := by
  rw [unU_0]; unfold unU
  rw [List.take_length, take_succ hk, List.flatMap_append]
  simp
theorem unU_end {xs : List Incident} {fs : List Appliance} {k : Nat} (hk : xs.length ≤ k) : unU xs fs k 0 = unkL xs fs := by rw [unU_0, List.take_of_length_le hk]; rfl
theorem unU_yes {xs : List Incident} {fs : List Appliance} {k j : Nat} (hj : j < (nth xs k).Names.length) (h : apF fs (nth (nth xs k).Names j) < 0) : unU xs fs k (j + 1) = unU xs fs k j ++ [nth (nth xs k).Names j] := by
  unfold unU
  rw [take_succ hj, ← List.append_assoc, List.filter_append]
  simp [isU, h]
theorem unU_no {xs : List Incident} {fs : List Appliance} {k j : Nat} (hj : j < (nth xs k).Names.length) (h : ¬ apF fs (nth (nth xs k).Names j) < 0) : unU xs fs k (j + 1) = unU xs fs k j := by
  unfold unU
  rw [take_succ hj, ← List.append_assoc, List.filter_append]
  simp [isU, h]
theorem flat_mem {xs : List Incident} {k : Nat} (hk : k ≤ xs.length) {t : ByteArray} : t ∈ (xs.take k).flatMap (·.Names) ↔ ∃ i, i < k ∧ t ∈ (nth xs i).Names := by
  rw [List.mem_flatMap]
  constructor
  · rintro ⟨x, hx, ht⟩
    obtain ⟨i, hi, rfl⟩ := List.getElem_of_mem hx
    rw [List.length_take] at hi
    refine ⟨i, by omega, ?_⟩
    rwa [List.getElem_take, nth_ge (by omega : i < xs.length)] at ht
  · rintro ⟨i, hi, ht⟩
    refine ⟨nth xs i, ?_, ht⟩
    rw [List.mem_iff_getElem?]
    exact ⟨i, by rw [List.getElem?_take, if_pos hi]; exact get_nth (by omega)⟩
theorem flat_nodup {xs : List Incident} (hv : Vi xs) : ∀ k, k ≤ xs.length → ((xs.take k).flatMap (·.Names)).Nodup
  | 0, _ => by simp
  | k + 1, hk => by
    have ih := flat_nodup hv k (by omega)
    rw [take_succ (by omega : k < xs.length), List.flatMap_append, List.nodup_append]
    refine ⟨ih, ?_, fun a ha b hb e => ?_⟩
    · simpa using sort_nodup (incB_split (hv.one k (by omega))).2.2.2.1
    · subst e
      obtain ⟨i, hi, hm⟩ := (flat_mem (by omega)).1 ha
      exact hv.dis i k a hi (by omega) hm (by simpa using hb)
theorem unU_nodup {xs : List Incident} {fs : List Appliance} {k j : Nat} (hv : Vi xs) (hk : k < xs.length) : (unU xs fs k j).Nodup := by
  unfold unU
  have h0 : ((xs.take k).flatMap (·.Names) ++ (nth xs k).Names.take j).Nodup := ?_
  · exact List.Pairwise.filter _ h0
  rw [List.nodup_append]
  refine ⟨flat_nodup hv k (by omega), (sort_nodup (incB_split (hv.one k hk)).2.2.2.1).sublist (List.take_sublist _ _), fun a ha b hb e => ?_⟩
  subst e
  obtain ⟨i, hi, hm⟩ := (flat_mem (by omega)).1 ha
  exact hv.dis i k a hi hk hm (List.mem_of_mem_take hb)
theorem unU_fresh {xs : List Incident} {fs : List Appliance} {k j : Nat} (hv : Vi xs) (hk : k < xs.length) (hj : j < (nth xs k).Names.length) : nth (nth xs k).Names j ∉ unU xs fs k j := fun hm => by
  have hm' := (List.mem_filter.1 hm).1
  rcases List.mem_append.1 hm' with h | h
  · obtain ⟨i, hi, hm2⟩ := (flat_mem (by omega)).1 h
    exact hv.dis i k _ hi hk hm2 (nth_mem hj)
  · have hn := sort_nodup (incB_split (hv.one k hk)).2.2.2.1
    rw [← List.take_append_drop j (nth xs k).Names, List.nodup_append] at hn
    refine hn.2.2 _ h _ ?_ rfl
    rw [List.drop_eq_getElem_cons hj, nth_ge hj]
    exact List.mem_cons_self
theorem flat_len {xs : List Incident} (hv : Vi xs) : ∀ k, k ≤ xs.length → ((xs.take k).flatMap (·.Names)).length ≤ 12 * k
  | 0, _ => by simp
  | k + 1, hk => by
    have ih := flat_len hv k (by omega)
    have h := vi_names hv _ (nth_mem (by omega : k < xs.length))
    rw [take_succ (by omega : k < xs.length), List.flatMap_append, List.length_append]
    simp only [List.flatMap_cons, List.flatMap_nil, List.append_nil]
    omega
theorem unU_len {xs : List Incident} {fs : List Appliance} {k j : Nat} (hv : Vi xs) (hk : k < xs.length) : (unU xs fs k j).length ≤ 200 := by
  have h1 := flat_len hv k (by omega)
  have h2 := vi_names hv _ (nth_mem hk)
  have h3 := hv.len
  unfold unU
  refine Nat.le_trans (List.length_filter_le _ _) ?_
  rw [List.length_append, List.length_take]; omega
theorem unk_props {xs : List Incident} {fs : List Appliance} (hv : Vi xs) : (unkL xs fs).Nodup ∧ (unkL xs fs).length ≤ 200 := by
  have h1 := flat_nodup hv xs.length (Nat.le_refl _)
  have h2 := flat_len hv xs.length (Nat.le_refl _)
  have h3 := hv.len
  rw [List.take_length] at h1 h2
  exact ⟨h1.filter _, Nat.le_trans (List.length_filter_le _ _) (by omega)⟩
theorem adL_len {l : List ByteArray} (hn : l.Nodup) : (adL [] l).length = l.length ∧ ∀ t, t ∈ adL [] l ↔ t ∈ l := by
  obtain ⟨_, h2, h3⟩ := adL_props l [] rfl hn (fun s _ => by simp)
  exact ⟨by rw [h2]; simp, fun t => by rw [h3]; simp⟩
theorem adL_snoc (l : List ByteArray) (s : ByteArray) : adL [] (l ++ [s]) = insQ (adL [] l) (posS (adL [] l) s) s := by unfold adL; rw [List.foldl_append]; rfl
def unF (xs : List Incident) (fs : List Appliance) : List ByteArray × Bool := if incsB xs && fleetB fs then (adL [] (unkL xs fs), true) else ([], false)
theorem unF_no {xs : List Incident} {fs : List Appliance} (h : (incsB xs && fleetB fs) = false) : unF xs fs = ([], false) := by unfold unF; rw [if_neg (by rw [h]; exact Bool.false_ne_true)]
theorem unF_yes {xs : List Incident} {fs : List Appliance} (h : incsB xs = true) (h' : fleetB fs = true) : unF xs fs = (adL [] (unkL xs fs), true) := by unfold unF; rw [h, h']; rfl
theorem unF_len (xs : List Incident) (fs : List Appliance) : (unF xs fs).1.length ≤ 1048576 := by
  cases h : (incsB xs && fleetB fs) with
  | false => rw [unF_no h]; simp
  | true =>
    simp only [Bool.and_eq_true] at h
    obtain ⟨h1, h2⟩ := unk_props (fs := fs) (incs_iff.1 h.1)
    rw [unF_yes h.1 h.2]
    show (adL [] (unkL xs fs)).length ≤ _
    rw [(adL_len h1).1]; omega

end Go.Proofs.Ytkgjbijkjlmomaa
