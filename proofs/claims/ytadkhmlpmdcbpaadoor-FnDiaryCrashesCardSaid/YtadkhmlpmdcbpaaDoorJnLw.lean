/-
  Journals: what is safe survives. No conditions.
-/
import Derived.Test.YtadkhmlpmdcbpaaDoorJnLo
namespace Go.Proofs.YtadkhmlpmdcbpaaDoor
open Go.RowKit

/-- what was read is read again from just those bytes -/
theorem rd_self (f : Nat) : ∀ (num : Int) (l : List UInt8), rd f num (l.take (rd f num l).2) = rd f num l := by
  induction f with
  | zero => intro num l; rfl
  | succ f ih =>
    intro num l
    cases hn : nlAt l with
    | none => rw [rd_stop hn]; exact rd_stop rfl
    | some n =>
      have h1 := (nlAt_some hn).1
      by_cases hp : ∃ x, parseB ⟨(l.take (n + 1)).toArray⟩ = some (num, x)
      · obtain ⟨x, hx⟩ := hp
        rw [rd_good hn hx]
        have e1 : l.take (n + 1 + (rd f (num + 1) (l.drop (n + 1))).2) = l.take (n + 1) ++ (l.drop (n + 1)).take (rd f (num + 1) (l.drop (n + 1))).2 := by rw [List.take_add]
        have hl : (l.take (n + 1)).length = n + 1 := by rw [List.length_take]; omega
        have hn' : nlAt (l.take (n + 1)) = some n := by
          obtain ⟨_, h2, h3⟩ := nlAt_some hn
          refine nlAt_mk (by rw [List.getElem?_take_of_lt (by omega)]; exact h2) fun k hk => by rw [List.getElem?_take_of_lt (by omega)]; exact h3 k hk
        rw [e1, rd_good (nlAt_app _ hn') (by rw [List.take_append_of_le_length (by omega), List.take_of_length_le (by omega)]; exact hx), List.drop_append_of_le_length (by omega), List.drop_eq_nil_of_le (by omega), List.nil_append, ih]
      · rw [rd_bad hn (fun p hq e => hp ⟨p.2, by rw [hq, ← e]⟩)]; exact rd_stop rfl
theorem ba_take (s : ByteArray) (m : Nat) : (s.extract 0 m).data.toList = s.data.toList.take m := by
  simp
theorem rd_nil (f : Nat) (num : Int) : rd f num [] = ([], 0) := rd_stop rfl
theorem open_nil {s : ByteArray} (h : (rd 40 0 s.data.toList).2 = s.size) : openB s ByteArray.empty = true := by
  unfold openB
  have e : ByteArray.empty.data.toList = [] := rfl
  rw [e, rd_nil]
  simp [h]
theorem states_nil (s : ByteArray) : statesB s ByteArray.empty = (rd 40 0 s.data.toList).1 := by
  unfold statesB
  rw [ByteArray.append_empty]
theorem open_size {s o : ByteArray} (h : openB s o = true) : (rd 40 0 s.data.toList).2 = s.size ∧ (rd 40 0 (s ++ o).data.toList).2 = s.size + o.size := by
  unfold openB at h
  simp only [Bool.and_eq_true, decide_eq_true_eq] at h
  refine ⟨h.1, ?_⟩
  rw [open_all h.1, h.2]
/-- the recovered diary -/
theorem rec_open (s : ByteArray) : openB (s.extract 0 (rd 40 0 s.data.toList).2) ByteArray.empty = true := by
  refine open_nil ?_
  rw [ba_take, rd_self, ByteArray.size_extract]
  have := (rd_le 40 0 s.data.toList).2.1
  rw [ba_len] at this
  omega
theorem rec_states (s : ByteArray) : statesB (s.extract 0 (rd 40 0 s.data.toList).2) ByteArray.empty = (rd 40 0 s.data.toList).1 := by
  rw [states_nil, ba_take, rd_self]
theorem flush_open {s o : ByteArray} (h : openB s o = true) : openB (s ++ o) ByteArray.empty = true := open_nil (by rw [(open_size h).2, ByteArray.size_append])
theorem flush_states (s o : ByteArray) : statesB (s ++ o) ByteArray.empty = statesB s o := by rw [states_nil]; rfl
/-- what a crash leaves -/
theorem kept_take {d : Diary} {k : Int} : (rd 40 0 (d.Safe ++ d.Open.extract 0 k.toNat).data.toList).1 = (statesB d.Safe d.Open).take (keptN d k) := by
  have e : (d.Safe ++ d.Open.extract 0 k.toNat).data.toList = (d.Safe ++ d.Open).data.toList.take (d.Safe.size + k.toNat) := by
    rw [ba_app, ba_app, ba_take, ← ba_len d.Safe, List.take_length_add_append]
  have h := rd_take 40 0 (d.Safe ++ d.Open).data.toList (d.Safe.size + k.toNat)
  rw [← e] at h
  unfold keptN statesB
  exact (List.prefix_iff_eq_take.1 h)
theorem crash_safe {d : Diary} {k : Int} (h : openB d.Safe d.Open = true) : d.Safe.size ≤ (rd 40 0 (d.Safe ++ d.Open.extract 0 k.toNat).data.toList).2 := by
  rw [open_all (open_size h).1]
  exact Nat.le_add_right _ _
theorem crash_all {d : Diary} {k : Int} (hk : k = d.Open.size) : (statesB d.Safe d.Open).drop (keptN d k) = [] := by
  have e : d.Open.extract 0 k.toNat = d.Open := by subst hk; simp
  unfold keptN
  rw [e]
  exact List.drop_eq_nil_of_le (Nat.le_refl _)
end Go.Proofs.YtadkhmlpmdcbpaaDoor
