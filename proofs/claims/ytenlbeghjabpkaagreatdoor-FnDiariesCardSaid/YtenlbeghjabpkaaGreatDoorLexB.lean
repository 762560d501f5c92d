/-
  A region may be walked in the order of its text: a test that the kernel runs fast. No conditions.
-/
import Derived.Test.YtenlbeghjabpkaaGreatDoorMem
namespace Go.Proofs.YtenlbeghjabpkaaGreatDoor
open Go.RowKit

/-- What of an operation decides whether its region may be walked in the order of the text. -/
structure Sk where
  dst : Option Nat
  looks : List Nat
  after : List Nat
def Sk.of (ops : Array Oper) (o : Oper) : Sk := ⟨o.dst, o.looksAt ops, (o.after.toList.filter (Region.binds .any)).map (·.on)⟩
def Sk.ok (k : Nat) (x y : Sk) : Bool :=
  y.after.contains k || ((match x.dst with | some d => !y.looks.contains d && y.dst != some d | none => true) && (match y.dst with | some d => !x.looks.contains d | none => true))
def Sk.run : Nat → List Sk → Bool
  | _, [] => true
  | k, x :: rest => x.after.all (fun i => decide (i < k)) && rest.all (Sk.ok k x) && Sk.run (k + 1) rest
theorem Sk.ok_spec {ops : Array Oper} {k : Nat} {x y : Oper} (h : Sk.ok k (Sk.of ops x) (Sk.of ops y) = true) : (∃ e, e ∈ y.after ∧ Region.binds .any e = true ∧ e.on = k) ∨ x.apart ops y = true := by
  unfold Sk.ok at h
  rw [Bool.or_eq_true] at h
  rcases h with h | h
  · left
    have h1 := List.contains_iff_mem.1 h
    simp only [Sk.of, List.mem_map, List.mem_filter] at h1
    obtain ⟨e, ⟨h2, h3⟩, h4⟩ := h1
    exact ⟨e, Array.mem_toList_iff.1 h2, h3, h4⟩
  · right; exact h
theorem Sk.run_spec {ops : Array Oper} : ∀ (l : List Oper) (k : Nat), Sk.run k (l.map (Sk.of ops)) = true →
    (∀ i o, l[i]? = some o → ∀ e, e ∈ o.after → Region.binds .any e = true → e.on < k + i) ∧ (∀ i j x y, i < j → l[i]? = some x → l[j]? = some y → (∃ e, e ∈ y.after ∧ Region.binds .any e = true ∧ e.on = k + i) ∨ x.apart ops y = true)
  | [], k, _ => ⟨fun i o h => by simp at h, fun i j x y _ h => by simp at h⟩
  | a :: l, k, h => by
    simp only [List.map_cons, Sk.run, Bool.and_eq_true] at h
    obtain ⟨⟨h1, h2⟩, h3⟩ := h
    obtain ⟨ih1, ih2⟩ := Sk.run_spec l (k + 1) h3
    refine ⟨fun i o ho e he hb => ?_, fun i j x y hij hx hy => ?_⟩
    · cases i with
      | zero =>
        simp only [List.getElem?_cons_zero, Option.some.injEq] at ho
        subst ho
        have := List.all_eq_true.1 h1 e.on (by
          simp only [Sk.of, List.mem_map, List.mem_filter]
          exact ⟨e, ⟨Array.mem_toList_iff.2 he, hb⟩, rfl⟩)
        simpa using this
      | succ i =>
        simp only [List.getElem?_cons_succ] at ho
        have := ih1 i o ho e he hb
        omega
    · cases j with
      | zero => omega
      | succ j =>
        simp only [List.getElem?_cons_succ] at hy
        cases i with
        | zero =>
          simp only [List.getElem?_cons_zero, Option.some.injEq] at hx
          subst hx
          exact Sk.ok_spec (List.all_eq_true.1 h2 _ (List.mem_map.2 ⟨y, List.mem_of_getElem? hy, rfl⟩))
        | succ i =>
          simp only [List.getElem?_cons_succ] at hx
          rcases ih2 i j x y (by omega) hx hy with ⟨e, h4, h5, h6⟩ | h4
          · exact .inl ⟨e, h4, h5, by omega⟩
          · exact .inr h4
theorem lexFrom_of {ops : Array Oper} (hA : ∀ i o, ops[i]? = some o → ∀ e, e ∈ o.after → Region.binds .any e = true → e.on < i)
    (hB : ∀ i j x y, i < j → ops[i]? = some x → ops[j]? = some y → (∃ e, e ∈ y.after ∧ Region.binds .any e = true ∧ e.on = i) ∨ x.apart ops y = true) :
    ∀ (m k : Nat) (listed : Array Bool), k + m = ops.size → (∀ j, listed[j]? = if j < ops.size then some (decide (j < k)) else none) → Region.lexFrom .any ops m k listed = true
  | 0, k, listed, hk, hL => by
    unfold Region.lexFrom
    rw [List.isEmpty_iff, List.eq_nil_iff_forall_not_mem]
    intro j hj
    obtain ⟨h1, o, ho, _⟩ := mem_ready.1 hj
    have hlt : j < ops.size := (Array.getElem?_eq_some_iff.1 ho).1
    rw [Array.getD_eq_getD_getElem?, hL, if_pos hlt] at h1
    simp at h1; omega
  | m + 1, k, listed, hk, hL => by
    have hks : k < ops.size := by omega
    obtain ⟨o, ho⟩ : ∃ o, ops[k]? = some o := ⟨ops[k], Array.getElem?_eq_getElem hks⟩
    unfold Region.lexFrom
    simp only [Bool.and_eq_true]
    refine ⟨⟨?_, ?_⟩, ?_⟩
    · rw [List.contains_iff_mem]
      refine mem_ready.2 ⟨?_, o, ho, fun e he hb => ?_⟩
      · rw [Array.getD_eq_getD_getElem?, hL, if_pos hks]; simp
      · have h1 := hA k o ho e he hb
        rw [Array.getD_eq_getD_getElem?, hL, if_pos (by omega)]; simp; omega
    · unfold Region.free
      rw [ho]
      simp only [List.all_eq_true, List.mem_range]
      intro j hj
      obtain ⟨y, hy⟩ : ∃ y, ops[j]? = some y := ⟨ops[j], Array.getElem?_eq_getElem hj⟩
      rw [hy, Array.getD_eq_getD_getElem?, hL, if_pos hj]
      rcases Nat.lt_trichotomy j k with h | h | h
      · simp [h]
      · simp [h]
      · rcases hB k j o y h ho hy with ⟨e, h1, h2, h3⟩ | h1
        · have : y.after.any (fun e => Region.binds .any e && e.on == k) = true := Array.any_eq_true'.2 ⟨e, h1, by simp [h2, h3]⟩
          simp [this]
        · simp [h1]
    · refine lexFrom_of hA hB m (k + 1) _ (by omega) fun j => ?_
      rw [Array.getElem?_setIfInBounds, hL]
      have hls : k < listed.size := by
        have h := hL k
        rw [if_pos hks] at h
        exact (Array.getElem?_eq_some_iff.1 h).1
      by_cases hj : j < ops.size
      · simp only [if_pos hj]
        by_cases hkj : k = j
        · subst hkj; simp [hls]
        · simp only [hkj, if_false]
          congr 1
          simp only [decide_eq_decide]; omega
      · simp only [if_neg hj]
        have : k ≠ j := by omega
        simp [this]
theorem lexB_of {l : List Oper} (hs : Region.noSelect l.toArray = true) (h : Sk.run 0 (l.map (Sk.of l.toArray)) = true) : Region.lexB .any l.toArray = true := by
  obtain ⟨h1, h2⟩ := Sk.run_spec l 0 h
  unfold Region.lexB
  rw [Bool.and_eq_true]
  refine ⟨hs, lexFrom_of (fun i o ho e he hb => ?_) (fun i j x y hij hx hy => ?_) _ 0 _ (by simp) fun j => ?_⟩
  · have := h1 i o (by simpa using ho) e he hb; omega
  · rcases h2 i j x y hij (by simpa using hx) (by simpa using hy) with ⟨e, a, b, c⟩ | a
    · exact .inl ⟨e, a, b, by omega⟩
    · exact .inr a
  · simp [Array.getElem?_replicate]
/-- as wp_region_grow, for a great region -/
theorem wp_region_grow_big {P : Program} {id : Nat} {Q : Exit → Act → World → Prop} {a : Act} {w : World} {l : List Oper} (hm : P.follows .mixedOrders = true) (hs : Region.noSelect l.toArray = true) (hB : Sk.run 0 (l.map (Sk.of l.toArray)) = true)
    (h : ∀ W, W = w → wpQuiet P l.toArray (fun w' => ∃ g : Gw W, w' = g.val) (fun a' => ∀ w', (∃ g : Gw W, w' = g.val) → Q .normal a' w') l a) : (Code.region id l.toArray true).wp P Q a w :=
  wp_region_grow hm (lexB_of hs hB) h
end Go.Proofs.YtenlbeghjabpkaaGreatDoor
