/-
  The comparisons of cmp at strings and at int. No conditions.
-/
import Derived.Test.YtgjnjfaohpmhkaaBytes
import Derived.Test.YtgjnjfaohpmhkaaIn
namespace Go.Proofs.Ytgjnjfaohpmhkaa
open Go.RowKit

theorem bl_tot : ∀ {x y : List UInt8}, Op.bytesLess x y = false → Op.bytesLess y x = false → x = y
  | [], [], _, _ => rfl
  | [], _ :: _, h, _ => by simp [Op.bytesLess] at h
  | _ :: _, [], _, h => by simp [Op.bytesLess] at h
  | a :: x, b :: y, h1, h2 => by
    simp only [Op.bytesLess] at h1 h2
    have e1 : ∀ u v : UInt8, (u < v) ↔ u.toNat < v.toNat := fun u v => Iff.rfl
    have e2 : ∀ u v : UInt8, (u = v) ↔ u.toNat = v.toNat := fun u v => UInt8.toNat_inj.symm
    have ih := @bl_tot x y
    by_cases q1 : a = b
    · subst q1
      simp at h1 h2
      rw [ih h1 h2]
    · have hne : ¬ a.toNat = b.toNat := fun e => q1 ((e2 a b).2 e)
      have p : a < b ∨ b < a := by simp only [e1]; omega
      rcases p with p | p
      · simp [p] at h1
      · simp [p] at h2
theorem bl_asym {x y : List UInt8} (h : Op.bytesLess x y = true) : Op.bytesLess y x = false := by
  cases h2 : Op.bytesLess y x with
  | false => rfl
  | true => have := bl_tr h h2; rw [bl_irr] at this; cases this
def cmpS (a b : ByteArray) : Int := if Op.bytesLess a.toList b.toList then -1 else if Op.bytesLess b.toList a.toList then 1 else 0
def cmpI (a b : Int) : Int := if a < b then -1 else if b < a then 1 else 0
theorem nanS_any (a : ByteArray) (w : World) : Calls Try.prog 93 #[.string a] w fun e w' => e = .returned (.bool false) ∧ w' = w := by
  go_enter Try.func93, Try.ntmps93
  go_wp2
  go_ret
  exact ⟨rfl, rfl⟩
theorem nanI_any (a : Int) (w : World) : Calls Try.prog 76 #[.int .i64 a] w fun e w' => e = .returned (.bool false) ∧ w' = w := by
  have h : (a != a) = false := by simp
  go_enter Try.func76, Try.ntmps76
  go_wp2
  go_ret
  exact ⟨rfl, rfl⟩
theorem cmpS_any (a b : ByteArray) (w : World) : Calls Try.prog 88 #[.string a, .string b] w fun e w' => e = .returned (.int .i64 (cmpS a b)) ∧ w' = w := by
  cases h1 : Op.bytesLess a.toList b.toList
  · cases h2 : Op.bytesLess b.toList a.toList
    · have q : Hid (cmpS a b = 0) := by rw [Hid, cmpS, h1, h2]; rfl
      have e : (a.toList == b.toList) = true := by rw [bl_tot h1 h2]; simp
      go_enter Try.func88, Try.ntmps88
      go_wp2_with (go_at_call 93; refine (nanS_any _ _).mono ?_; rintro e V ⟨rfl, rfl⟩)
      go_ret
      exact ⟨ret_i64 q.out.symm, rfl⟩
    · have q : Hid (cmpS a b = 1) := by rw [Hid, cmpS, h1, h2]; rfl
      have e : (a.toList == b.toList) = false := by
        cases h : (a.toList == b.toList) with
        | false => rfl
        | true => have h := eq_of_beq h; rw [h, bl_irr] at h2; cases h2
      go_enter Try.func88, Try.ntmps88
      go_wp2_with (go_at_call 93; refine (nanS_any _ _).mono ?_; rintro e V ⟨rfl, rfl⟩)
      go_ret
      exact ⟨ret_i64 q.out.symm, rfl⟩
  · have q : Hid (cmpS a b = -1) := by rw [Hid, cmpS, h1]; rfl
    go_enter Try.func88, Try.ntmps88
    go_wp2_with (go_at_call 93; refine (nanS_any _ _).mono ?_; rintro e V ⟨rfl, rfl⟩)
    go_ret
    exact ⟨ret_i64 q.out.symm, rfl⟩
theorem cmpI_any (a b : Int) (w : World) : Calls Try.prog 45 #[.int .i64 a, .int .i64 b] w fun e w' => e = .returned (.int .i64 (cmpI a b)) ∧ w' = w := by
  by_cases h1 : a < b
  · have q : Hid (cmpI a b = -1) := by rw [Hid, cmpI, if_pos h1]
    go_enter Try.func45, Try.ntmps45
    go_wp2_with (go_at_call 76; refine (nanI_any _ _).mono ?_; rintro e V ⟨rfl, rfl⟩)
    go_ret
    exact ⟨ret_i64 q.out.symm, rfl⟩
  · by_cases h2 : b < a
    · have q : Hid (cmpI a b = 1) := by rw [Hid, cmpI, if_neg h1, if_pos h2]
      have h3 : decide (a > b) = true := by simpa using h2
      go_enter Try.func45, Try.ntmps45
      go_wp2_with (go_at_call 76; refine (nanI_any _ _).mono ?_; rintro e V ⟨rfl, rfl⟩)
      go_ret
      exact ⟨ret_i64 q.out.symm, rfl⟩
    · have q : Hid (cmpI a b = 0) := by rw [Hid, cmpI, if_neg h1, if_neg h2]
      have h3 : decide (a > b) = false := by simpa using h2
      go_enter Try.func45, Try.ntmps45
      go_wp2_with (go_at_call 76; refine (nanI_any _ _).mono ?_; rintro e V ⟨rfl, rfl⟩)
      go_ret
      exact ⟨ret_i64 q.out.symm, rfl⟩
def or2 (a b : Int) : Int := if a = 0 then b else a
theorem or2_any (a b : Int) (B : Nat) (w : World) (h0 : w.cell? ⟨B, 0, none⟩ = some (.int .i64 a)) (h1 : w.cell? ⟨B, 1, none⟩ = some (.int .i64 b)) :
    Calls Try.prog 87 #[.slice (some ⟨B, 0, none⟩) 2 2] w fun e w' => e = .returned (.int .i64 (or2 a b)) ∧ w' = w := by
  by_cases ha : a = 0
  · have q : Hid (or2 a b = b) := by rw [Hid, or2, if_pos ha]
    have ha' : (a != 0) = false := by simp [ha]
    clear ha
    by_cases hb : b = 0
    · have hb' : (b != 0) = false := by simp [hb]
      have Hb := Lib.hid hb
      clear hb
      go_enter Try.func87, Try.ntmps87
      go_wp2
      go_rounds 3
      go_ret
      exact ⟨ret_i64 (by rw [q.out, Hb.out]), rfl⟩
    · have hb' : (b != 0) = true := by simpa using hb
      go_enter Try.func87, Try.ntmps87
      go_wp2
      go_rounds 3
      go_ret
      exact ⟨ret_i64 q.out.symm, rfl⟩
  · have q : Hid (or2 a b = a) := by rw [Hid, or2, if_neg ha]
    have ha' : (a != 0) = true := by simpa using ha
    go_enter Try.func87, Try.ntmps87
    go_wp2
    go_rounds 3
    go_ret
    exact ⟨ret_i64 q.out.symm, rfl⟩

end Go.Proofs.Ytgjnjfaohpmhkaa
