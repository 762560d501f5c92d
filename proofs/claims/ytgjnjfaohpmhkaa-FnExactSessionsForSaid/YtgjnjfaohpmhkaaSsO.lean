/-
  spec's SessionsFor: the helpers. No conditions.
-/
import Derived.Test.YtgjnjfaohpmhkaaSsN
import Derived.Test.YtgjnjfaohpmhkaaLibS
namespace Go.Proofs.Ytgjnjfaohpmhkaa
open Go.RowKit

def leastI (a b : Int) : Int := if a < b then a else b
theorem l1LeastI_any (a b : Int) (w : World) : Calls Try.prog 37 #[.int .i64 a, .int .i64 b] w fun e w' => e = .returned (.int .i64 (leastI a b)) ∧ w' = w := by
  by_cases h : a < b
  · have q : Hid (leastI a b = a) := by rw [Hid, leastI, if_pos h]
    have hd : decide (a < b) = true := decide_eq_true h
    go_enter Try.func37, Try.ntmps37
    go_wp2
    go_ret
    exact ⟨ret_i64 q.out.symm, rfl⟩
  · have q : Hid (leastI a b = b) := by rw [Hid, leastI, if_neg h]
    have hd : decide (a < b) = false := decide_eq_false h
    go_enter Try.func37, Try.ntmps37
    go_wp2
    go_ret
    exact ⟨ret_i64 q.out.symm, rfl⟩
theorem leastI_nat (m q : Nat) : leastI (m : Int) (q : Int) = ((min m q : Nat) : Int) := by
  unfold leastI; split
  · rw [Nat.min_eq_left (by omega)]
  · rw [Nat.min_eq_right (by omega)]
set_option maxHeartbeats 1000000 in
theorem l1Own_any (A : Option Addr) (n c : Nat) (xs : List Int) (w : World) (hn : n ≤ 1048576) (hs : Sl w A n xs) :
    Calls Try.prog 36 #[.slice A n c] w (RetOwn w 3 xs) := by
  have HL := Lib.hid hs.1
  go_enter Try.func36, Try.ntmps36
  go_wp2_with ((at_builtin; refine wpList_appN rfl (.tmp 3) (.tmp 4) _ _ rfl el_int rfl (Own.built w _ (Nat.le_refl _)) (bl_alloc (bl_refl _) _) rfl (hs.below (bl_alloc (bl_refl _) _)) (by omega) ?_; intro A2 c2 w2 ho2 hb2 hg2))
  go_ret
  exact retOwn_mk HL.out (by simpa using ho2) hb2
theorem sl_int1 {w : World} {b o : Nat} {s : Int} (h : w.cell? ⟨b, o, none⟩ = some (.int .i64 s)) : Sl w (some ⟨b, o, none⟩) 1 [s] :=
  ⟨rfl, fun k x hx => by
    have hk : k = 0 := by have := (List.getElem?_eq_some_iff.1 hx).1; simpa using this
    subst hk
    injection hx with hx
    subst hx
    refine ⟨b, o, _, rfl, rfl, fun j v hv => ?_⟩
    have hj : j = 0 := by
      have := (List.getElem?_eq_some_iff.1 hv).1
      have e : (Flat.enc s).length = 1 := rfl
      omega
    subst hj
    injection hv with hv
    subst hv
    simpa using h⟩
/-- the sorted list of a kind, so far -/
def SoFar (xs : List Skill) (day ahead : Int) (n k j : Nat) (L : List Int) : Prop := L.Perm (((dueU xs day ahead n).take j).filter (kindK xs (k : Int))) ∧ SrtK (keyU xs) L
theorem take_filterD {p : Int → Bool} {l : List Int} {j : Nat} (hj : j < l.length) : (l.take (j + 1)).filter p = (l.take j).filter p ++ (if p (nth l j) then [nth l j] else []) := by
  rw [take_succ hj, List.filter_append]
  congr 1
  by_cases h : p (nth l j) = true
  · rw [if_pos h]; simp [h]
  · rw [if_neg h]; simp [h]
theorem SoFar.no {xs : List Skill} {day ahead : Int} {n k j : Nat} {L : List Int} (h : SoFar xs day ahead n k j L) (hj : j < (dueU xs day ahead n).length) (hp : kindK xs (k : Int) (nth (dueU xs day ahead n) j) = false) : SoFar xs day ahead n k (j + 1) L := by
  refine ⟨?_, h.2⟩
  rw [take_filterD hj, hp]
  simpa using h.1
theorem SoFar.ins {xs : List Skill} {day ahead : Int} {n k j : Nat} {L : List Int} (h : SoFar xs day ahead n k j L) (hj : j < (dueU xs day ahead n).length) (hp : kindK xs (k : Int) (nth (dueU xs day ahead n) j) = true) {p : Nat} (hpl : p ≤ L.length)
    (h1 : p = 0 ∨ keyU xs (nth L (p - 1)) ≤ keyU xs (nth (dueU xs day ahead n) j)) (h2 : ∀ q, p ≤ q → q < L.length → keyU xs (nth (dueU xs day ahead n) j) < keyU xs (nth L q)) : SoFar xs day ahead n k (j + 1) (L.take p ++ [nth (dueU xs day ahead n) j] ++ L.drop p) := by
  have hL := (List.take_append_drop p L).symm
  have hs : SrtK (keyU xs) (L.take p ++ L.drop p) := by rw [← hL]; exact h.2
  have hc : Cross (keyU xs) (L.take p ++ L.drop p) [nth (dueU xs day ahead n) j] := by
    rw [← hL]
    intro u hu v hv e
    obtain rfl := List.mem_singleton.1 hv
    have hu2 := (List.mem_filter.1 (h.1.mem_iff.1 hu)).1
    obtain ⟨i, hi, rfl⟩ := mem_nth hu2
    rw [List.length_take] at hi
    rw [nth_take (by omega)]
    have := List.pairwise_iff_getElem.1 (dueU_up xs day ahead n) i j (by omega) hj (by omega)
    rwa [← nth_get (List.getElem?_eq_getElem (by omega : i < (dueU xs day ahead n).length)), ← nth_get (List.getElem?_eq_getElem hj)] at this
  obtain ⟨p1, p2⟩ := put_right hs hc (fun x hx => by
      obtain ⟨i, hi, rfl⟩ := mem_nth hx
      rw [List.length_take] at hi
      rw [nth_take (by omega)]
      rcases h1 with h1 | h1
      · omega
      · have := srt_key h.2 (i := i) (j := p - 1) (by omega) (by omega)
        omega) (fun x hx => by
      obtain ⟨i, hi, rfl⟩ := mem_nth hx
      rw [List.length_drop] at hi
      rw [nth_dropK]
      exact h2 (p + i) (by omega) (by omega))
  rw [List.append_assoc]
  refine ⟨?_, p2⟩
  rw [take_filterD hj, hp, if_pos rfl]
  refine p1.trans ?_
  rw [← hL]
  exact h.1.append_right _
theorem SoFar.done {xs : List Skill} {day ahead : Int} {n k : Nat} {L : List Int} (hn : xs.length = n) (h : SoFar xs day ahead n k (dueU xs day ahead n).length L) : L = (dueS xs day ahead).filter (kindK xs (k : Int)) := by
  subst hn
  have h1 := h.1
  rw [List.take_length] at h1
  rw [dueS, sortK_filter (dueU_nodup _ _ _ _)]
  exact sortK_is ((dueU_nodup _ _ _ _).sublist List.filter_sublist) h.2 h1
theorem SoFar.mem {xs : List Skill} {day ahead : Int} {n k j : Nat} {L : List Int} (h : SoFar xs day ahead n k j L) {p : Nat} (hp : p < L.length) : ∃ i : Nat, i < n ∧ (i : Int) = nth L p := by
  have h1 : nth L p ∈ L := nth_mem hp
  have h2 := List.mem_of_mem_take (List.mem_filter.1 (h.1.mem_iff.1 h1)).1
  obtain ⟨i, hi, -, e⟩ := dueU_mem.1 h2
  exact ⟨i, hi, e⟩
theorem SoFar.len {xs : List Skill} {day ahead : Int} {n k j : Nat} {L : List Int} (h : SoFar xs day ahead n k j L) : L.length ≤ j := by
  rw [h.1.length_eq]
  have h1 := List.length_filter_le (kindK xs (k : Int)) ((dueU xs day ahead n).take j)
  rw [List.length_take] at h1
  omega
end Go.Proofs.Ytgjnjfaohpmhkaa
