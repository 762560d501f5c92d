/-
  RenewSkill: the program's text. No conditions.
-/
import Derived.Test.YticgenojelblnaaRenP
import Derived.Test.YticgenojelblnaaLibKI
import Derived.Test.YticgenojelblnaaLibKb
import Derived.Test.YticgenojelblnaaMem2
namespace Go.Proofs.Yticgenojelblnaa
open Go.RowKit

theorem enters_cmpSk : Enters Try.prog 19 := enters_of Try.func19 (by kernel_rfl) (by kernel_rfl)
theorem not_sk {x y : Skill} (h : 0 ≤ cmpSk x y) : skLess x y = false := by
  cases h2 : skLess x y with
  | false => rfl
  | true => have := (cmpSk_lt x y).2 h2; omega
theorem nzero_sk {x y : Skill} (h : 0 ≤ cmpSk x y) (hz : ¬ cmpSk x y = 0) : skLess y x = true := by
  cases h2 : skLess y x with
  | true => rfl
  | false => obtain ⟨e1, e2⟩ := sk_same (not_sk h) h2; exact absurd (cmpSk_self e1 e2) hz
theorem ins_eq {α : Type} (xs : List α) (k : Nat) (y : α) : insAt xs k y = xs.take k ++ [y] ++ xs.drop k := by unfold insAt; rw [List.append_assoc]; rfl
theorem set_eq {α : Type} {xs : List α} {k : Nat} (y : α) (h : k < xs.length) : xs.set k y = xs.take k ++ [y] ++ xs.drop (k + 1) := by rw [List.set_eq_take_append_cons_drop, if_pos h, List.append_assoc]; rfl
set_option maxRecDepth 100000 in
set_option maxHeartbeats 8000000 in
theorem implRenewSkill_any (xs : List Skill) (y : Skill) (A : Option Addr) (n c : Nat) (w : World) (hz : y.Person.size ≤ maxLen) (hn : (n : Int) ≤ 9223372036854775807) (hs : Sl w A n xs) (hv : ∀ x, x ∈ xs → x.Person.size ≤ maxLen) :
    Calls Try.prog 7 #[.slice A n c, .string y.Person, .int .i64 y.Kind, .int .i64 y.Until] w (RetOwn2 w 34 (renF xs y)) := by
  have HV := Lib.hid hv
  have HL := Lib.hid hs.1
  clear hv
  go_enter Try.func7, Try.ntmps7
  go_wp2_with fail
  refine (areSkills_any xs _ _ _ _ hn hs HV.out).mono ?_
  rintro e V1 ⟨rfl, hb1⟩
  cases h0 : skillsB xs
  · have Hz := Lib.hid (renF_no (l := xs) (x := y) (by rw [h0]; rfl))
    clear h0
    go_wp2
    go_ret2
    exact retOwn2_mk Hz.out (Own.nil _ _ _) hb1
  have H0 := Lib.hid h0
  clear h0
  go_wp2_with fail
  refine (isSkill_any y _ hz).mono ?_
  rintro e V2 ⟨rfl, hb2⟩
  have hk2 := bl_trans hb1 hb2
  clear hb1 hb2
  cases h1 : skillB y
  · have Hz := Lib.hid (renF_no (l := xs) (x := y) (by rw [h1, Bool.and_false]))
    clear h1
    go_wp2
    go_ret2
    exact retOwn2_mk Hz.out (Own.nil _ _ _) hk2
  have H1 := Lib.hid h1
  clear h1
  have hn2 : n ≤ 24 := by have := skillsB_len H0.out; have := HL.out; omega
  go_wp2_with fail
  refine (searchFunc_skill xs A n c y _ #[] (fun x => cmpSk x y) _ (by omega) (hs.below hk2) enters_cmpSk (skills_mono H0.out y HL.out) (fun x _ W => compareSkills_any x y W)).mono ?_
  rintro e V3 ⟨k, rfl, hkq, hg, hb3⟩
  have hk3 := bl_trans hk2 hb3
  clear hb3
  have hg1 : Hid (∀ j, j < k → skLess (nth xs j) y = true) := fun j hj => (cmpSk_lt _ _).1 (hg.1 j hj)
  have hg2 : Hid (k < n → skLess (nth xs k) y = false) := fun h => not_sk (hg.2 k (Nat.le_refl _) h)
  go_wp2_with fail
  refine (clone_skill xs _ _ _ _ (by omega) (hs.below hk3)).mono ?_
  rintro e V4 ⟨A4, c4, rfl, ho4, hb4⟩
  have hl4 := HL.out
  rw [hl4] at ho4 ⊢
  have hk4 := bl_trans hk3 hb4
  have ho := ho4.mono hk3.size
  clear ho4 hb4 hs
  by_cases hin2 : k < n ∧ cmpSk (nth xs k) y = 0
  · obtain ⟨hkn, hcz⟩ := hin2
    obtain ⟨q1, q2⟩ := cmpSk_zero hcz
    obtain ⟨e1, e2⟩ := sk_same q1 q2
    have Q1 := Lib.hid q1
    have Q2 := Lib.hid q2
    have hfd : (decide (k < n) && decide (cmpSk (nth xs k) y = 0)) = true := by simp [hkn, hcz]
    rw [hfd]
    clear hcz hfd hg q1 q2
    obtain ⟨g, rfl⟩ := ho.form (by omega)
    have d2 : V4.cell? ⟨g, k * 3 + 2, none⟩ = some (.int .i64 (nth xs k).Until) := ho.cellAt hkn 2 _ rfl
    have f2 := ho.frozenAt (k * 3 + 2)
    have hgb : w.heap.size ≤ g := (ho.lt g rfl).1
    by_cases hlate : y.Until < (nth xs k).Until
    · have Hz := Lib.hid (renF_late H0.out H1.out hl4 hkn hg1.out Q1.out Q2.out hlate)
      have hd : decide ((nth xs k).Until > y.Until) = true := by simpa using hlate
      clear ho
      go_wp2
      go_ret2
      exact retOwn2_mk Hz.out (Own.nil _ _ _) hk4
    · have Hz : Hid (renF xs y = (xs.set k y, true)) := by rw [Hid, renF_same H0.out H1.out hl4 hkn hg1.out Q1.out Q2.out hlate, set_eq y (by omega)]
      have hd : decide ((nth xs k).Until > y.Until) = false := by simpa using hlate
      have HO : Hid (Own (V4.setCell ⟨g, k * 3 + 2, none⟩ (.int .i64 y.Until)) w.heap.size 34 (.slice (some ⟨g, 0, none⟩) n c4) (xs.set k y)) := by
        refine ho.put1 hkn 2 (by decide) ?_
        show [Value.string y.Person, Value.int .i64 y.Kind, Value.int .i64 y.Until] = _
        rw [← e1, ← e2]; rfl
      clear ho e1 e2
      go_wp2
      go_ret2
      exact retOwn2_mk Hz.out HO.out (bl_set hk4 hgb _)
  · have hg3 : Hid (k < n → skLess y (nth xs k) = true) := fun h => nzero_sk (hg.2 k (Nat.le_refl _) h) (fun hz => hin2 ⟨h, hz⟩)
    have hfd : (decide (k < n) && decide (cmpSk (nth xs k) y = 0)) = false := by
      rw [Bool.and_eq_false_iff, decide_eq_false_iff_not, decide_eq_false_iff_not]
      by_cases h : k < n
      · exact .inr (fun hz => hin2 ⟨h, hz⟩)
      · exact .inl h
    rw [hfd]
    clear hfd hg hin2
    by_cases h24 : n = 24
    · have Hz := Lib.hid (renF_full H0.out H1.out hl4 hkq hg1.out hg2.out hg3.out h24)
      have hd : ((n : Int) == 24) = true := by simp [h24]
      clear h24
      go_wp2
      go_ret2
      exact retOwn2_mk Hz.out (Own.nil _ _ _) hk4
    · have Hz : Hid (renF xs y = (insAt xs k y, true)) := by rw [Hid, renF_new H0.out H1.out hl4 hkq hg1.out hg2.out hg3.out h24, ins_eq]
      have hd : ((n : Int) == 24) = false := by simp; omega
      go_wp2_with fail
      refine (insert_skill xs A4 n c4 k w.heap.size _ _ y _ (by omega) hkq (ho.alloc _) (by have := hk4.size; simp only [World.size_alloc]; omega) (by simp only [World.alloc, Array.getElem?_push_size]; rfl) (fun g hgA hgv => ?_)).mono ?_
      focus (have := (ho.lt g (by rw [hgA]; rfl)).2; omega)
      rintro e V5 ⟨A5, c5, rfl, ho5, hg5⟩
      have hk5 := bl_grown (bl_alloc hk4 _) hg5 (fun k hk => (ho.lt k hk).1)
      clear hg5 ho
      go_wp2
      go_ret2
      exact retOwn2_mk Hz.out ho5 hk5

end Go.Proofs.Yticgenojelblnaa
