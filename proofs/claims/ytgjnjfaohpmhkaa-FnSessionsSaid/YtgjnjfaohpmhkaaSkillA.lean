/-
  Skills: the tests of one, and their order. No conditions.
-/
import Derived.Test.YtgjnjfaohpmhkaaSkill
import Derived.Test.YtgjnjfaohpmhkaaNamesD
import Derived.Test.YtgjnjfaohpmhkaaCmp
import Derived.Test.YtgjnjfaohpmhkaaMem7
namespace Go.Proofs.Ytgjnjfaohpmhkaa
open Go.RowKit

def skillB (x : Skill) : Bool := nameB x.Person && inB x.Kind 0 5 && inB x.Until 0 20000
theorem drDay_any (n : Int) (w : World) :
    Calls Try.prog 63 #[.int .i64 n] w fun e w' => e = .returned (.bool (inB n 0 20000)) ∧ w' = w := by
  go_enter Try.func63, Try.ntmps63
  go_wp2_with (go_at_call 34; refine (l1In_any _ _ _ _).mono ?_; rintro e V ⟨rfl, rfl⟩)
  go_ret
  exact ⟨rfl, rfl⟩
theorem drKind_any (n : Int) (w : World) :
    Calls Try.prog 68 #[.int .i64 n] w fun e w' => e = .returned (.bool (inB n 0 5)) ∧ w' = w := by
  go_enter Try.func68, Try.ntmps68
  go_wp2_with (go_at_call 34; refine (l1In_any _ _ _ _).mono ?_; rintro e V ⟨rfl, rfl⟩)
  go_ret
  exact ⟨rfl, rfl⟩
theorem isKind_any (n : Int) (w : World) :
    Calls Try.prog 56 #[.int .i64 n] w fun e w' => e = .returned (.bool (inB n 0 5)) ∧ w' = w := by
  go_enter Try.func56, Try.ntmps56
  go_wp2_with (go_at_call 41; refine (inside_any _ _ _ _).mono ?_; rintro e V ⟨rfl, rfl⟩)
  go_ret
  exact ⟨rfl, rfl⟩
theorem isDay_any (n : Int) (w : World) :
    Calls Try.prog 40 #[.int .i64 n] w fun e w' => e = .returned (.bool (inB n 0 20000)) ∧ w' = w := by
  go_enter Try.func40, Try.ntmps40
  go_wp2_with (go_at_call 41; refine (inside_any _ _ _ _).mono ?_; rintro e V ⟨rfl, rfl⟩)
  go_ret
  exact ⟨rfl, rfl⟩
set_option maxHeartbeats 1000000 in
theorem drOne_any (x : Skill) (w : World) (hx : x.Person.size ≤ maxLen) :
    Calls Try.prog 83 #[.agg #[.string x.Person, .int .i64 x.Kind, .int .i64 x.Until]] w fun e w' => e = .returned (.bool (skillB x)) ∧ Below w.heap.size w w' := by
  go_enter Try.func83, Try.ntmps83
  have hk0 := bl_refl w
  go_wp2_with fail
  refine (apName_any x.Person _ hx).mono ?_
  rintro e V1 ⟨rfl, hb1⟩
  have hB1 := bl_trans (a := w) (by repeat' (first | exact bl_refl _ | refine bl_alloc ?_ _ | refine bl_drew ?_ | refine bl_drewN ?_ _ | refine bl_set ?_ ?_ _ | (simp; done) | (simp; omega))) hb1
  have hk1 := bl_trans hk0 hB1
  have z1 : Hid (w.heap.size + 1 ≤ V1.heap.size) := by have := hb1.size; simp only [World.size_alloc] at this; exact (by omega : _)
  have ba_0_1 : V1.cell? ⟨w.heap.size, 0, none⟩ = some (.string x.Person) := cell_later hb1 (by go_simp)
  have ba_1_1 : V1.cell? ⟨w.heap.size, 1, none⟩ = some (.int .i64 x.Kind) := cell_later hb1 (by go_simp)
  have ba_2_1 : V1.cell? ⟨w.heap.size, 2, none⟩ = some (.int .i64 x.Until) := cell_later hb1 (by go_simp)
  have la_1 : w.heap.size < V1.heap.size := World.block_lt_of_cell? _ _ ba_0_1
  cases h0 : nameB x.Person
  · have q : Hid (skillB x = false) := by rw [Hid, skillB, h0]; simp
    clear h0
    go_wp2
    go_ret
    exact ⟨ret_bool q.out.symm, hk1⟩
  have H0 := Lib.hid h0
  go_wp2_with fail
  refine (drKind_any _ _).mono ?_
  rintro _ V1 ⟨rfl, rfl⟩
  cases h1 : inB x.Kind 0 5
  · have q : Hid (skillB x = false) := by rw [Hid, skillB, h0, h1]; simp
    clear h1
    go_wp2
    go_ret
    exact ⟨ret_bool q.out.symm, hk1⟩
  have H1 := Lib.hid h1
  go_wp2_with fail
  refine (drDay_any _ _).mono ?_
  rintro _ V1 ⟨rfl, rfl⟩
  have q : Hid (skillB x = inB x.Until 0 20000) := by rw [Hid, skillB, h0, h1]; simp
  clear h0 h1
  go_wp2
  go_ret
  exact ⟨ret_bool q.out.symm, hk1⟩
set_option maxHeartbeats 1000000 in
theorem isSkill_any (x : Skill) (w : World) (hx : x.Person.size ≤ maxLen) :
    Calls Try.prog 73 #[.agg #[.string x.Person, .int .i64 x.Kind, .int .i64 x.Until]] w fun e w' => e = .returned (.bool (skillB x)) ∧ Below w.heap.size w w' := by
  go_enter Try.func73, Try.ntmps73
  have hk0 := bl_refl w
  go_wp2_with fail
  refine (isName_any x.Person _ hx).mono ?_
  rintro e V1 ⟨rfl, hb1⟩
  have hB1 := bl_trans (a := w) (by repeat' (first | exact bl_refl _ | refine bl_alloc ?_ _ | refine bl_drew ?_ | refine bl_drewN ?_ _ | refine bl_set ?_ ?_ _ | (simp; done) | (simp; omega))) hb1
  have hk1 := bl_trans hk0 hB1
  have z1 : Hid (w.heap.size + 1 ≤ V1.heap.size) := by have := hb1.size; simp only [World.size_alloc] at this; exact (by omega : _)
  have ba_0_1 : V1.cell? ⟨w.heap.size, 0, none⟩ = some (.string x.Person) := cell_later hb1 (by go_simp)
  have ba_1_1 : V1.cell? ⟨w.heap.size, 1, none⟩ = some (.int .i64 x.Kind) := cell_later hb1 (by go_simp)
  have ba_2_1 : V1.cell? ⟨w.heap.size, 2, none⟩ = some (.int .i64 x.Until) := cell_later hb1 (by go_simp)
  have la_1 : w.heap.size < V1.heap.size := World.block_lt_of_cell? _ _ ba_0_1
  cases h0 : nameB x.Person
  · have q : Hid (skillB x = false) := by rw [Hid, skillB, h0]; simp
    clear h0
    go_wp2
    go_ret
    exact ⟨ret_bool q.out.symm, hk1⟩
  have H0 := Lib.hid h0
  go_wp2_with fail
  refine (isKind_any _ _).mono ?_
  rintro _ V1 ⟨rfl, rfl⟩
  cases h1 : inB x.Kind 0 5
  · have q : Hid (skillB x = false) := by rw [Hid, skillB, h0, h1]; simp
    clear h1
    go_wp2
    go_ret
    exact ⟨ret_bool q.out.symm, hk1⟩
  have H1 := Lib.hid h1
  go_wp2_with fail
  refine (isDay_any _ _).mono ?_
  rintro _ V1 ⟨rfl, rfl⟩
  have q : Hid (skillB x = inB x.Until 0 20000) := by rw [Hid, skillB, h0, h1]; simp
  clear h0 h1
  go_wp2
  go_ret
  exact ⟨ret_bool q.out.symm, hk1⟩
def skLess (x y : Skill) : Bool := Op.bytesLess x.Person.toList y.Person.toList || (x.Person.toList == y.Person.toList && decide (x.Kind < y.Kind))
set_option maxHeartbeats 1000000 in
theorem drBefore_any (x y : Skill) (w : World) :
    Calls Try.prog 84 #[.agg #[.string x.Person, .int .i64 x.Kind, .int .i64 x.Until], .agg #[.string y.Person, .int .i64 y.Kind, .int .i64 y.Until]] w fun e w' => e = .returned (.bool (skLess x y)) ∧ Below w.heap.size w w' := by
  cases h1 : Op.bytesLess x.Person.toList y.Person.toList
  · cases h2 : x.Person.toList == y.Person.toList
    · have q : Hid (skLess x y = false) := by rw [Hid, skLess, h1, h2]; rfl
      go_enter Try.func84, Try.ntmps84
      go_wp2
      go_ret
      exact ⟨ret_bool q.out.symm, bl_alloc (bl_alloc (bl_refl _) _) _⟩
    · by_cases h3 : x.Kind < y.Kind
      · have q : Hid (skLess x y = true) := by rw [Hid, skLess, h1, h2, decide_eq_true h3]; rfl
        go_enter Try.func84, Try.ntmps84
        go_wp2
        go_ret
        exact ⟨ret_bool q.out.symm, bl_alloc (bl_alloc (bl_refl _) _) _⟩
      · have q : Hid (skLess x y = false) := by rw [Hid, skLess, h1, h2, decide_eq_false h3]; rfl
        go_enter Try.func84, Try.ntmps84
        go_wp2
        go_ret
        exact ⟨ret_bool q.out.symm, bl_alloc (bl_alloc (bl_refl _) _) _⟩
  · have q : Hid (skLess x y = true) := by rw [Hid, skLess, h1]; rfl
    go_enter Try.func84, Try.ntmps84
    go_wp2
    go_ret
    exact ⟨ret_bool q.out.symm, bl_alloc (bl_alloc (bl_refl _) _) _⟩
def cmpSk (x y : Skill) : Int := or2 (cmpS x.Person y.Person) (cmpI x.Kind y.Kind)
theorem cmpSk_less (x y : Skill) : decide (cmpSk x y ≥ 0) = !skLess x y := by
  unfold cmpSk skLess or2 cmpS cmpI
  cases h1 : Op.bytesLess x.Person.toList y.Person.toList
  · cases h2 : Op.bytesLess y.Person.toList x.Person.toList
    · have e := bl_tot h1 h2
      rw [e]
      by_cases h3 : x.Kind < y.Kind
      · simp [h3]
      · by_cases h4 : y.Kind < x.Kind <;> simp [h3, h4]
    · have e : (x.Person.toList == y.Person.toList) = false := by
        cases h : (x.Person.toList == y.Person.toList) with
        | false => rfl
        | true => have h := eq_of_beq h; rw [h, bl_irr] at h2; cases h2
      simp [e]
  · simp
set_option maxHeartbeats 2000000 in
theorem compareSkills_any (x y : Skill) (w : World) :
    Calls Try.prog 74 #[.agg #[.string x.Person, .int .i64 x.Kind, .int .i64 x.Until], .agg #[.string y.Person, .int .i64 y.Kind, .int .i64 y.Until]] w fun e w' => e = .returned (.int .i64 (cmpSk x y)) ∧ Below w.heap.size w w' := by
  go_enter Try.func74, Try.ntmps74
  go_wp2_with fail
  obtain ⟨W, hW⟩ : ∃ W, W = (w.alloc (.cells #[.string x.Person, .int .i64 x.Kind, .int .i64 x.Until] 44)).alloc (.cells #[.string y.Person, .int .i64 y.Kind, .int .i64 y.Until] 44) := ⟨_, rfl⟩
  rw [← hW]
  have hk : Below w.heap.size w W := by rw [hW]; exact bl_alloc (bl_alloc (bl_refl _) _) _
  have x0 : W.cell? ⟨w.heap.size, 0, none⟩ = some (.string x.Person) := by rw [hW]; go_simp
  have x1 : W.cell? ⟨w.heap.size, 1, none⟩ = some (.int .i64 x.Kind) := by rw [hW]; go_simp
  have y0 : W.cell? ⟨w.heap.size + 1, 0, none⟩ = some (.string y.Person) := by rw [hW]; go_simp
  have y1 : W.cell? ⟨w.heap.size + 1, 1, none⟩ = some (.int .i64 y.Kind) := by rw [hW]; go_simp
  have HW := Lib.hid hW
  clear hW
  go_region_held3 (fun w' => w'.cell? ⟨w.heap.size, 0, none⟩ = some (.string x.Person) ∧ w'.cell? ⟨w.heap.size, 1, none⟩ = some (.int .i64 x.Kind) ∧ w'.cell? ⟨w.heap.size + 1, 0, none⟩ = some (.string y.Person) ∧ w'.cell? ⟨w.heap.size + 1, 1, none⟩ = some (.int .i64 y.Kind)) (go_keep)
    (first | (go_at_call 88; refine (cmpS_any _ _ _).mono ?_; rintro e V ⟨rfl, rfl⟩) | (go_at_call 45; refine (cmpI_any _ _ _).mono ?_; rintro e V ⟨rfl, rfl⟩) | (go_at_call 87; refine (or2_any (cmpS x.Person y.Person) (cmpI x.Kind y.Kind) _ _ (by go_simp) (by go_simp)).mono ?_; rintro e V ⟨rfl, rfl⟩))
  all_goals
    go_wp2
    go_ret
    exact ⟨rfl, bl_trans hk (by repeat' (first | exact bl_refl _ | refine bl_alloc ?_ _ | refine bl_drew ?_))⟩

end Go.Proofs.Ytgjnjfaohpmhkaa
