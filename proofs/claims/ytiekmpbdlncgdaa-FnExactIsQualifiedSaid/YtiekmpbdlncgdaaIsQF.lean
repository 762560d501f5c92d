/-
  IsQualified: both texts answer qualF. No conditions.
-/
import Derived.Test.YtiekmpbdlncgdaaQualF
namespace Go.Proofs.Ytiekmpbdlncgdaa
open Go.RowKit

theorem ret_bb {a a' b b' : Bool} (h : a = a') (h' : b = b') : Ending.returned (.tuple #[.bool a, .bool b]) = .returned (.tuple #[.bool a', .bool b']) := by rw [h, h']
theorem ret_ib {a a' : Int} {b b' : Bool} (h : a = a') (h' : b = b') : Ending.returned (.tuple #[.int .i64 a, .bool b]) = .returned (.tuple #[.int .i64 a', .bool b']) := by rw [h, h']
def qualF (xs : List Skill) (person : ByteArray) (kind day : Int) : Bool × Bool := if skillsB xs && nameB person && inB kind 0 5 && inB day 0 20000 then (hasB xs person kind day, true) else (false, false)
theorem qualF_yes {xs : List Skill} {person : ByteArray} {kind day : Int} (h : (skillsB xs && nameB person && inB kind 0 5 && inB day 0 20000) = true) : qualF xs person kind day = (hasB xs person kind day, true) := by unfold qualF; rw [if_pos h]
theorem qualF_no {xs : List Skill} {person : ByteArray} {kind day : Int} (h : (skillsB xs && nameB person && inB kind 0 5 && inB day 0 20000) = false) : qualF xs person kind day = (false, false) := by unfold qualF; rw [if_neg (by rw [h]; exact Bool.false_ne_true)]
set_option maxHeartbeats 4000000 in
theorem specIsQualified_any (xs : List Skill) (person : ByteArray) (kind day : Int) (A : Option Addr) (n c : Nat) (w : World) (hz : person.size ≤ maxLen) (hn : (n : Int) ≤ 9223372036854775807) (hs : Sl w A n xs) (hv : ∀ x, x ∈ xs → x.Person.size ≤ maxLen) :
    Calls Try.prog 18 #[.slice A n c, .string person, .int .i64 kind, .int .i64 day] w fun e w' => e = .returned (.tuple #[.bool (qualF xs person kind day).1, .bool (qualF xs person kind day).2]) ∧ Below w.heap.size w w' := by
  have HV := Lib.hid hv
  have HL := Lib.hid hs.1
  clear hv
  go_enter Try.func18, Try.ntmps18
  have hk0 := bl_refl w
  go_wp2_with fail
  refine (drGood_any xs _ _ _ _ hn hs HV.out).mono ?_
  rintro e V1 ⟨rfl, hb1⟩
  have hB1 := bl_trans (a := w) (bl_refl _) hb1
  have hk1 := bl_trans hk0 hB1
  have z1 := Lib.hid hB1.size
  cases h0 : skillsB xs
  · have Hz := Lib.hid (qualF_no (xs := xs) (person := person) (kind := kind) (day := day) (by rw [h0]; simp))
    clear h0
    go_wp2
    go_ret2
    exact ⟨ret_bb (by rw [Hz.out]) (by rw [Hz.out]), hk1⟩
  have H0 := Lib.hid h0
  clear h0
  go_wp2_with fail
  refine (apName_any person _ hz).mono ?_
  rintro e V2 ⟨rfl, hb2⟩
  have hB2 := bl_trans (a := V1) (bl_refl _) hb2
  have hk2 := bl_trans hk1 hB2
  have z2 := Lib.hid hB2.size
  clear hk1
  cases h1 : nameB person
  · have Hz := Lib.hid (qualF_no (xs := xs) (person := person) (kind := kind) (day := day) (by rw [h1]; simp))
    clear h1
    go_wp2
    go_ret2
    exact ⟨ret_bb (by rw [Hz.out]) (by rw [Hz.out]), hk2⟩
  have H1 := Lib.hid h1
  clear h1
  go_wp2_with fail
  refine (drKind_any kind _).mono ?_
  rintro _ V2 ⟨rfl, rfl⟩
  cases h2 : inB kind 0 5
  · have Hz := Lib.hid (qualF_no (xs := xs) (person := person) (kind := kind) (day := day) (by rw [h2]; simp))
    clear h2
    go_wp2
    go_ret2
    exact ⟨ret_bb (by rw [Hz.out]) (by rw [Hz.out]), hk2⟩
  have H2 := Lib.hid h2
  clear h2
  go_wp2_with fail
  refine (drDay_any day _).mono ?_
  rintro _ V2 ⟨rfl, rfl⟩
  cases h3 : inB day 0 20000
  · have Hz := Lib.hid (qualF_no (xs := xs) (person := person) (kind := kind) (day := day) (by rw [h3]; simp))
    clear h3
    go_wp2
    go_ret2
    exact ⟨ret_bb (by rw [Hz.out]) (by rw [Hz.out]), hk2⟩
  have H3 := Lib.hid h3
  clear h3
  have Hz := Lib.hid (qualF_yes (xs := xs) (person := person) (kind := kind) (day := day) (by rw [H0.out, H1.out, H2.out, H3.out]; rfl))
  go_wp2_with fail
  refine (drHas_any xs person kind day _ _ _ _ hn (hs.below hk2)).mono ?_
  rintro e V3 ⟨rfl, hb3⟩
  have hB3 := bl_trans (a := V2) (bl_refl _) hb3
  have hk3 := bl_trans hk2 hB3
  have z3 := Lib.hid hB3.size
  clear hk2
  go_wp2
  go_ret2
  exact ⟨ret_bb (by rw [Hz.out]) (by rw [Hz.out]), hk3⟩
set_option maxHeartbeats 4000000 in
theorem implIsQualified_any (xs : List Skill) (person : ByteArray) (kind day : Int) (A : Option Addr) (n c : Nat) (w : World) (hz : person.size ≤ maxLen) (hn : (n : Int) ≤ 9223372036854775807) (hs : Sl w A n xs) (hv : ∀ x, x ∈ xs → x.Person.size ≤ maxLen) :
    Calls Try.prog 19 #[.slice A n c, .string person, .int .i64 kind, .int .i64 day] w fun e w' => e = .returned (.tuple #[.bool (qualF xs person kind day).1, .bool (qualF xs person kind day).2]) ∧ Below w.heap.size w w' := by
  have HV := Lib.hid hv
  have HL := Lib.hid hs.1
  clear hv
  go_enter Try.func19, Try.ntmps19
  have hk0 := bl_refl w
  go_wp2_with fail
  refine (areSkills_any xs _ _ _ _ hn hs HV.out).mono ?_
  rintro e V1 ⟨rfl, hb1⟩
  have hB1 := bl_trans (a := w) (bl_refl _) hb1
  have hk1 := bl_trans hk0 hB1
  have z1 := Lib.hid hB1.size
  cases h0 : skillsB xs
  · have Hz := Lib.hid (qualF_no (xs := xs) (person := person) (kind := kind) (day := day) (by rw [h0]; simp))
    clear h0
    go_wp2
    go_ret2
    exact ⟨ret_bb (by rw [Hz.out]) (by rw [Hz.out]), hk1⟩
  have H0 := Lib.hid h0
  clear h0
  go_wp2_with fail
  refine (isName_any person _ hz).mono ?_
  rintro e V2 ⟨rfl, hb2⟩
  have hB2 := bl_trans (a := V1) (bl_refl _) hb2
  have hk2 := bl_trans hk1 hB2
  have z2 := Lib.hid hB2.size
  clear hk1
  cases h1 : nameB person
  · have Hz := Lib.hid (qualF_no (xs := xs) (person := person) (kind := kind) (day := day) (by rw [h1]; simp))
    clear h1
    go_wp2
    go_ret2
    exact ⟨ret_bb (by rw [Hz.out]) (by rw [Hz.out]), hk2⟩
  have H1 := Lib.hid h1
  clear h1
  go_wp2_with fail
  refine (isKind_any kind _).mono ?_
  rintro _ V2 ⟨rfl, rfl⟩
  cases h2 : inB kind 0 5
  · have Hz := Lib.hid (qualF_no (xs := xs) (person := person) (kind := kind) (day := day) (by rw [h2]; simp))
    clear h2
    go_wp2
    go_ret2
    exact ⟨ret_bb (by rw [Hz.out]) (by rw [Hz.out]), hk2⟩
  have H2 := Lib.hid h2
  clear h2
  go_wp2_with fail
  refine (isDay_any day _).mono ?_
  rintro _ V2 ⟨rfl, rfl⟩
  cases h3 : inB day 0 20000
  · have Hz := Lib.hid (qualF_no (xs := xs) (person := person) (kind := kind) (day := day) (by rw [h3]; simp))
    clear h3
    go_wp2
    go_ret2
    exact ⟨ret_bb (by rw [Hz.out]) (by rw [Hz.out]), hk2⟩
  have H3 := Lib.hid h3
  clear h3
  have Hz := Lib.hid (qualF_yes (xs := xs) (person := person) (kind := kind) (day := day) (by rw [H0.out, H1.out, H2.out, H3.out]; rfl))
  go_wp2_with fail
  refine (isQualified_any xs person kind day _ _ _ _ hn (hs.below hk2)).mono ?_
  rintro e V3 ⟨rfl, hb3⟩
  have hB3 := bl_trans (a := V2) (bl_refl _) hb3
  have hk3 := bl_trans hk2 hB3
  have z3 := Lib.hid hB3.size
  clear hk2
  go_wp2
  go_ret2
  exact ⟨ret_bb (by rw [Hz.out]) (by rw [Hz.out]), hk3⟩

end Go.Proofs.Ytiekmpbdlncgdaa
