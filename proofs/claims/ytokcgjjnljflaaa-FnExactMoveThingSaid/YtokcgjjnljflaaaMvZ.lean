/-
  A region that draws its order, by an invariant: each operation is shown once. No conditions.
-/
import Derived.Test.YtokcgjjnljflaaaMem12
namespace Go.Proofs.Ytokcgjjnljflaaa
open Go.RowKit

theorem count_set {l : List Bool} {i : Nat} (h : l[i]? = some false) : (l.set i true).count false + 1 = l.count false := by
  induction l generalizing i with
  | nil => simp at h
  | cons b l ih =>
    cases i with
    | zero => simp at h; subst h; simp
    | succ i => simp at h; have := ih h; simp [List.count_cons]; omega
theorem wpAny_inv {P : Program} {md : Region.Mode} {ops : Array Oper} {Q : Exit → Act → World → Prop} (I : Array Bool → Act → World → Prop)
    (hstep : ∀ listed a w i, I listed a w → i ∈ Region.ready md ops listed → wpOp P ops Q i (fun a' w' => I (listed.setIfInBounds i true) a' w') a w)
    (hend : ∀ listed a w, I listed a w → Region.ready md ops listed = [] → Q .normal a w) :
    ∀ fuel listed a w, listed.toList.count false ≤ fuel → I listed a w → wpAny P md ops Q fuel listed a w
  | 0, listed, a, w, hc, hI => by
    have h0 : Region.ready md ops listed = [] := by
      refine List.eq_nil_iff_forall_not_mem.2 (fun j hj => ?_)
      have h1 := (mem_ready.1 hj).1
      have h2 : listed.toList[j]? = some false := by
        rw [Array.getD_eq_getD_getElem?] at h1
        rw [Array.getElem?_toList]
        cases h3 : listed[j]? with
        | none => rw [h3] at h1; cases h1
        | some b => rw [h3] at h1; simp at h1; rw [h1]
      have h3 := count_set h2
      omega
    exact ⟨h0, hend _ _ _ hI h0⟩
  | fuel + 1, listed, a, w, hc, hI => by
    refine ⟨fun h0 => hend _ _ _ hI h0, fun i hi => ?_⟩
    have h1 := (mem_ready.1 hi).1
    have h2 : listed.toList[i]? = some false := by
      rw [Array.getD_eq_getD_getElem?] at h1
      rw [Array.getElem?_toList]
      cases h3 : listed[i]? with
      | none => rw [h3] at h1; cases h1
      | some b => rw [h3] at h1; simp at h1; rw [h1]
    have h3 := count_set h2
    refine wpOp_mono ?_ (hstep listed a w i hI hi)
    intro a' w' hI'
    refine wpAny_inv I hstep hend fuel _ a' w' ?_ hI'
    rw [Array.toList_setIfInBounds]
    omega
end Go.Proofs.Ytokcgjjnljflaaa
