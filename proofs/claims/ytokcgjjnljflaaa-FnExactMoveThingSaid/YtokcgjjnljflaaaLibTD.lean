/-
  slices.Delete of one thing. No conditions.
-/
import Derived.Test.YtokcgjjnljflaaaLibTI
import Derived.Test.YtokcgjjnljflaaaMem12
namespace Go.Proofs.Ytokcgjjnljflaaa
open Go.RowKit

/-- A call hands back the first cells of the slice that it was given. -/
def RetDel (w : World) (base g n c : Nat) (ys : List Thing) (e : Ending) (w' : World) : Prop :=
  e = .returned (.slice (some ⟨g, 0, none⟩) n c) ∧ Own w' base 59 (.slice (some ⟨g, 0, none⟩) n c) ys ∧ w.grownBy w' (some g)
set_option maxRecDepth 100000 in
set_option maxHeartbeats 4000000 in
theorem delete_thing (xs : List Thing) (g n c base k m : Nat) (w : World) (hn : n ≤ 1048576) (ho : Own w base 59 (.slice (some ⟨g, 0, none⟩) n c) xs) (hm : k + m + 1 = n) :
    Calls Try.prog 58 #[.slice (some ⟨g, 0, none⟩) n c, .int .i64 k, .int .i64 ((k : Int) + 1)] w (RetDel w base g (k + m) c (xs.take k ++ xs.drop (k + 1))) := by
  obtain ⟨hcap, hcm⟩ := ho.cap
  unfold maxLen at hcm
  have HL := ho.sl.1
  have hdr : ∀ B, (m = 0 ∨ B = some ⟨g, (k + 1) * 3, none⟩) → Sl w.drew B m (xs.drop (k + 1)) := fun B hB => by
    rcases hB with h0 | rfl
    · subst h0
      have e : xs.drop (k + 1) = [] := List.eq_nil_of_length_eq_zero (by rw [List.length_drop]; omega)
      rw [e]; exact Sl.nil _ _
    · have h := (ho.below (bl_drew (bl_refl w))).sl.dropK (i := k + 1)
      have e2 : n - (k + 1) = m := by omega
      rw [e2] at h
      have e3 : 0 + (k + 1) * Flat.sz Thing = (k + 1) * 3 := by
        have : Flat.sz Thing = 3 := rfl
        rw [this]; omega
      rw [e3] at h; exact h
  have HO := Lib.hid (ho.below (bl_drew (bl_refl w)))
  have HD := Lib.hid hdr
  have hk1 : ((k : Int) == (k : Int) + 1) = false := by simp; omega
  have w2 : ((k : Int) + 1).toNat = k + 1 := by omega
  have hsub : n - (k + 1) = m := by omega
  have g1 : (0 : Int) ≤ (k : Int) + 1 := by omega
  have g2 : (k : Int) + 1 ≤ (n : Int) := by omega
  have g3 : (k : Int) ≤ (k : Int) + 1 := by omega
  have g4 : (n : Int) ≤ (c : Int) := by omega
  have g5 : (k : Int) ≤ (n : Int) := by omega
  have g6 : (k : Int) ≤ (c : Int) := by omega
  have g7 : (k : Int) + 1 ≤ (c : Int) := by omega
  have fin : ∀ w1 : World, w.drew.grownBy w1 (some g) → Own w1 base 59 (.slice (some ⟨g, 0, none⟩) n c) (xs.take k ++ xs.drop (k + 1) ++ xs.drop (k + m)) → ∃ w3, (∀ ty, (Builtin.clear_ #[26] ty #[.slice (some ⟨g, (k + m) * 3, none⟩) (n - (k + m)) (c - (k + m))]).run Try.prog w1 = .ok (.tuple #[]) w3) ∧ Own w3 base 59 (.slice (some ⟨g, 0, none⟩) (k + m) c) (xs.take k ++ xs.drop (k + 1)) ∧ w.grownBy w3 (some g) := fun w1 hg1 ho1 => by
    obtain ⟨w3, hrun, ho3, hg3⟩ := run_clear_own 26 59 ez_thing (i := k + m) ho1 (by omega)
    refine ⟨w3, hrun, ?_, by obtain ⟨a1, a2, a3, a4, a5⟩ := hg1.trans hg3; exact ⟨a1, a2, a3, a4, a5⟩⟩
    have e : (xs.take k ++ xs.drop (k + 1) ++ xs.drop (k + m)).take (k + m) = xs.take k ++ xs.drop (k + 1) := List.take_left' (by simp only [List.length_append, List.length_take, List.length_drop]; omega)
    rw [e] at ho3
    exact ho3
  have HF := Lib.hid fin
  have hcm2 : ¬ c = k + m := by omega
  have hkm : k + m ≤ c := by omega
  have hkI : ((k + m : Nat) : Int) ≤ n := by omega
  clear fin hdr ho
  by_cases hc0 : c = k + 1
  · obtain rfl : m = 0 := by omega
    obtain rfl : n = k + 1 := by omega
    subst hc0
    obtain ⟨w3, hr3, ho3, hg3⟩ := run_clear_own 26 59 ez_thing (i := k) HO.out (by omega)
    have e1 : k + 1 - k = 1 := by omega
    rw [e1] at hr3
    have hr3 : ∀ ty, (Builtin.clear_ #[26] ty #[.slice (some ⟨g, k * 3, none⟩) 1 1]).run Try.prog w.drew = .ok (.tuple #[]) w3 := hr3
    have e : xs.drop (k + 1) = [] := List.eq_nil_of_length_eq_zero (by rw [List.length_drop]; omega)
    rw [e, List.append_nil, Nat.add_zero]
    clear HF HD e1 e hm hk1 w2 hsub g1 g2 g3 g4 g5 g6 g7 hcm2 hkm hkI hcap HL
    have hk1 : ((k : Int) == (k : Int) + 1) = false := by simp; omega
    go_enter Try.func58, Try.ntmps58
    go_wp2_with fail
    have h1 : (0 : Int) ≤ (k : Int) + 1 := by omega
    have h2 : (k : Int) ≤ (k : Int) + 1 := by omega
    go_region_held3 (fun _ => True) (trivial) (first | fail)
    all_goals go_wp2
    all_goals go_ret
    all_goals exact ⟨rfl, ho3, by obtain ⟨a1, a2, a3, a4, a5⟩ := hg3; exact ⟨a1, a2, a3, a4, a5⟩⟩
  · go_enter Try.func58, Try.ntmps58
    go_wp2_with fail
    obtain ⟨w1, hr1, ho1, hg1⟩ := run_delete 26 26 59 el_thing (d := c - (k + 1)) HO.out hm (HD.out (some ⟨g, (k + 1) * 3, none⟩) (.inr rfl))
    obtain ⟨w3, hr3, ho3, hg3⟩ := HF.out w1 hg1 ho1
    clear HF HD HO ho1 hg1
    go_region_held3 (fun _ => True) (trivial) (first | (refine step_app_run rfl (.tmp 22) (.tmp 25) _ rfl rfl rfl hr1 ?_))
    go_wp2
    go_ret
    exact ⟨rfl, ho3, hg3⟩

end Go.Proofs.Ytokcgjjnljflaaa
