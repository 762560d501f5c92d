/-
  ShortenDiary: what it answers. No conditions.
-/
import Derived.Test.YtjnplafphocmiaaDoorJnKn
namespace Go.Proofs.YtjnplafphocmiaaDoor
open Go.RowKit

theorem rd_ok (f : Nat) : ∀ (num : Int) (l : List UInt8) (x : State), x ∈ (rd f num l).1 → stateB x = true := by
  induction f with
  | zero => intro num l x h; simp [rd] at h
  | succ f ih =>
    intro num l x h
    cases hn : nlAt l with
    | none => rw [rd_stop hn] at h; simp at h
    | some n =>
      cases hp : parseB ⟨(l.take (n + 1)).toArray⟩ with
      | none => rw [rd_bad hn (fun p e => by rw [hp] at e; cases e)] at h; simp at h
      | some p =>
        by_cases hnum : p.1 = num
        · rw [rd_good hn (x := p.2) (by rw [hp, ← hnum])] at h
          simp only [List.mem_cons] at h
          rcases h with rfl | h
          · have h1 := (parseB_some hp).1
            simp only [okL, Bool.and_eq_true] at h1
            exact h1.2
          · exact ih _ _ _ h
        · rw [rd_bad hn (fun q e => by rw [hp] at e; injection e with e; rw [← e]; exact hnum)] at h; simp at h
theorem upd_mem {xs : List State} {s x : State} (h : x ∈ updS xs s) : x ∈ xs ∨ x = s := by
  unfold updS at h
  simp only [List.mem_append, List.mem_singleton] at h
  rcases h with (h | h) | h
  · exact .inl (List.mem_of_mem_take h)
  · exact .inr h
  · exact .inl (List.mem_of_mem_drop h)
theorem known_mem {l : List State} {x : State} (h : x ∈ knownL l) : x ∈ l := by
  have key : ∀ (l acc : List State), x ∈ l.foldl updS acc → x ∈ acc ∨ x ∈ l := by
    intro l
    induction l with
    | nil => intro acc h; exact .inl h
    | cons a l ih =>
      intro acc h
      rcases ih _ h with h | h
      · rcases upd_mem h with h | h
        · exact .inl h
        · exact .inr (by rw [h]; exact List.mem_cons_self)
      · exact .inr (List.mem_cons_of_mem _ h)
  rcases key l [] h with h | h
  · cases h
  · exact h
theorem known_ok {d : Diary} {i : Nat} (h : i < (knownL (statesB d.Safe d.Open)).length) : okL (i : Int) (nth (knownL (statesB d.Safe d.Open)) i) = true := by
  have h1 : stateB (nth (knownL (statesB d.Safe d.Open)) i) = true := rd_ok _ _ _ _ (known_mem (nth_mem h))
  have h2 := known_len (statesB d.Safe d.Open)
  have h3 := states_len d.Safe d.Open
  rw [okL, h1, inB_yes (by omega) (by omega)]; rfl
noncomputable def catN (l : List State) : Nat → ByteArray
  | 0 => ByteArray.empty
  | i + 1 => catN l i ++ lineB (i : Int) (nth l i)
theorem cat_len {l : List State} (h : ∀ i, i < l.length → okL (i : Int) (nth l i) = true) : ∀ i, i ≤ l.length → (catN l i).size ≤ 21 * i
  | 0, _ => Nat.le_refl 0
  | i + 1, hi => by
    have h1 := cat_len h i (by omega)
    have h2 := line_len (h i (by omega))
    rw [catN, ba_size_app]; omega
noncomputable def shF (d : Diary) : Diary × Bool := if openB d.Safe d.Open then (⟨catN (knownL (statesB d.Safe d.Open)) (knownL (statesB d.Safe d.Open)).length, ByteArray.empty⟩, true) else (⟨ByteArray.empty, ByteArray.empty⟩, false)
theorem shF_yes {d : Diary} (h : openB d.Safe d.Open = true) : shF d = (⟨catN (knownL (statesB d.Safe d.Open)) (knownL (statesB d.Safe d.Open)).length, ByteArray.empty⟩, true) := by unfold shF; rw [if_pos h]
theorem shF_no {d : Diary} (h : openB d.Safe d.Open = false) : shF d = (⟨ByteArray.empty, ByteArray.empty⟩, false) := by unfold shF; rw [if_neg (by rw [h]; exact Bool.false_ne_true)]
theorem shF_safe (d : Diary) : (shF d).1.Safe.size ≤ 840 := by
  unfold shF; split
  · have h1 := cat_len (l := knownL (statesB d.Safe d.Open)) (fun i hi => known_ok hi) _ (Nat.le_refl _)
    have h2 := known_len (statesB d.Safe d.Open)
    have h3 := states_len d.Safe d.Open
    simp only []; omega
  · exact Nat.zero_le _
theorem shF_open (d : Diary) : (shF d).1.Open.size ≤ 840 := by
  unfold shF; split <;> exact Nat.zero_le _

end Go.Proofs.YtjnplafphocmiaaDoor
