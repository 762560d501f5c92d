/-
  RarestKind: both texts answer rareF. No conditions.
-/
import Derived.Test.YtiekmpbdlncgdaaCntK
namespace Go.Proofs.Ytiekmpbdlncgdaa
open Go.RowKit

/-- where the first least one of the first k numbers stands -/
def best (L : List Int) : Nat → Nat
  | 0 => 0
  | k + 1 => if nth L k < nth L (best L k) then k else best L k
theorem best_one (L : List Int) : best L 1 = 0 := by simp [best]
theorem best_lt {L : List Int} {k : Nat} (hk : 0 < k) : best L k < k := by
  induction k with
  | zero => omega
  | succ k ih =>
    rw [best]
    split
    · omega
    · by_cases h : 0 < k
      · have := ih h; omega
      · obtain rfl : k = 0 := by omega
        simp [best]
theorem best_le (L : List Int) (k : Nat) : best L k ≤ k := by
  by_cases h : 0 < k
  · exact Nat.le_of_lt (best_lt h)
  · obtain rfl : k = 0 := by omega
    simp [best]
theorem best_min {L : List Int} : ∀ {k : Nat}, 0 < k → (∀ j, j < k → nth L (best L k) ≤ nth L j) ∧ (∀ j, j < best L k → nth L (best L k) < nth L j)
  | 0, h => absurd h (by omega)
  | k + 1, _ => by
    by_cases h0 : 0 < k
    · obtain ⟨h1, h2⟩ := best_min (L := L) h0
      rw [best]
      split
      · rename_i hlt
        refine ⟨fun j hj => ?_, fun j hj => ?_⟩
        · by_cases e : j = k
          · subst e; exact Int.le_refl _
          · have := h1 j (by omega); omega
        · have := h1 j hj; omega
      · rename_i hlt
        refine ⟨fun j hj => ?_, h2⟩
        by_cases e : j = k
        · subst e; omega
        · exact h1 j (by omega)
    · obtain rfl : k = 0 := by omega
      have e : best L (0 + 1) = 0 := best_one L
      rw [e]
      exact ⟨fun j hj => by obtain rfl : j = 0 := by omega
                            exact Int.le_refl _, fun j hj => absurd hj (by omega)⟩
theorem best_index {L : List Int} {k : Nat} (hL : L.length = k) (hk : 0 < k) : indexF (fun x => x == nth L (best L k)) L = best L k := by
  obtain ⟨_, h2⟩ := best_min (L := L) hk
  refine indexF_hit (by rw [hL]; exact best_lt hk) (by simp) fun j hj => ?_
  have := h2 j hj
  simp; omega
theorem best_hit {L : List Int} {k : Nat} (h : nth L k < nth L (best L k)) : best L (k + 1) = k := by rw [best, if_pos h]
theorem best_miss {L : List Int} {k : Nat} (h : ¬ nth L k < nth L (best L k)) : best L (k + 1) = best L k := by rw [best, if_neg h]
set_option maxHeartbeats 1000000 in
theorem min_any (L : List Int) (A : Option Addr) (n c : Nat) (w : World) (hn0 : 0 < n) (hn : (n : Int) ≤ 9223372036854775807) (hs : Sl w A n L) :
    Calls Try.prog 66 #[.slice A n c] w fun e w' => e = .returned (.int .i64 (nth L (best L n))) ∧ w' = w := by
  obtain ⟨b, o, rfl, hbz, c0⟩ := hs.int hn0
  have hd : decide ((n : Int) < 1) = false := by simp; omega
  have hd2 : (0 : Int) < n := by omega
  have c00 : w.cell? ⟨b, o, none⟩ = some (.int .i64 (nth L 0)) := c0
  clear c0
  go_enter Try.func66, Try.ntmps66
  go_wp2
  go_loop [3, 4] (fun u i => ∃ k : Nat, 0 < k ∧ k ≤ n ∧ i = .int .i64 k ∧ u = .int .i64 (nth L (best L k))) (fun _ i => n - (intOf i).toNat)
  case atStart => exact ⟨1, by omega, by omega, rfl, by rw [best_one]⟩
  case round =>
    obtain ⟨k, hk0, hk, rfl, rfl⟩ := hrel
    clear c00
    by_cases hlt : k < n
    · have c0 := hs.int hlt
      obtain ⟨b', o', e, _, c0⟩ := c0
      injection e with e
      injection e with e1 e2
      subst e1 e2
      clear hs
      by_cases h : nth L k < nth L (best L k)
      · have hp := Lib.hid (best_hit h)
        have h2 : min (nth L (best L k)) (nth L k) = nth L k := by omega
        go_wp2
        go_round
        case rel => exact ⟨k + 1, by omega, by omega, by go_num, by rw [hp.out]⟩
        case measure => simp [intOf]; omega
      · have hp := Lib.hid (best_miss h)
        have h2 : min (nth L (best L k)) (nth L k) = nth L (best L k) := by omega
        go_wp2
        go_round
        case rel => exact ⟨k + 1, by omega, by omega, by go_num, by rw [hp.out]⟩
        case measure => simp [intOf]; omega
    · obtain rfl : k = n := by omega
      go_wp2
      go_ret
      exact ⟨rfl, rfl⟩
set_option maxHeartbeats 1000000 in
theorem index_any (L : List Int) (v : Int) (A : Option Addr) (n c : Nat) (w : World) (hn : (n : Int) ≤ 9223372036854775807) (hs : Sl w A n L) :
    Calls Try.prog 67 #[.slice A n c, .int .i64 v] w fun e w' => e = .returned (.int .i64 (indexF (fun x => x == v) L)) ∧ w' = w := by
  have HL := Lib.hid hs.1
  go_enter Try.func67, Try.ntmps67
  go_wp2
  go_loop [8] (fun i => ∃ k : Nat, k ≤ n ∧ i = .int .i64 k ∧ Hid (∀ j, j < k → (nth L j == v) = false)) (fun i => n - (intOf i).toNat)
  case atStart => exact ⟨0, Nat.zero_le _, rfl, fun j hj => absurd hj (by omega)⟩
  case round =>
    obtain ⟨k, hk, rfl, hg⟩ := hrel
    by_cases hlt : k < n
    · obtain ⟨b, o, rfl, _, c0⟩ := hs.int hlt
      clear hs
      cases hp : nth L k == v
      · have hp' := Lib.hid hp
        have hp2 : (v == nth L k) = false := by rw [BEq.comm]; exact hp
        clear hp
        go_wp2
        go_round
        case rel => exact ⟨k + 1, by omega, by go_num, upto_succ hg hp'.out⟩
        case measure => simp [intOf]; omega
      · have hp' := Lib.hid hp
        have hp2 : (v == nth L k) = true := by rw [BEq.comm]; exact hp
        clear hp
        go_wp2
        go_ret
        exact ⟨ret_i64 (indexF_hit (p := fun x => x == v) (by rw [HL.out]; exact hlt) hp'.out hg.out).symm, rfl⟩
    · obtain rfl : k = n := by omega
      go_wp2
      go_ret
      exact ⟨ret_i64 (indexF_none (p := fun x => x == v) (by rw [HL.out]; exact hg.out)).symm, rfl⟩
theorem ret_iib {a a' c c' : Int} {b b' : Bool} (h : a = a') (h1 : c = c') (h' : b = b') : Ending.returned (.tuple #[.int .i64 a, .int .i64 c, .bool b]) = .returned (.tuple #[.int .i64 a', .int .i64 c', .bool b']) := by rw [h, h1, h']
def rareF (xs : List Skill) (day : Int) : Int × Int × Bool := if skillsB xs && inB day 0 20000 then (((best (cntL xs day) 6 : Nat) : Int), nth (cntL xs day) (best (cntL xs day) 6), true) else (0, 0, false)
theorem rareF_yes {xs : List Skill} {day : Int} (h : (skillsB xs && inB day 0 20000) = true) : rareF xs day = (((best (cntL xs day) 6 : Nat) : Int), nth (cntL xs day) (best (cntL xs day) 6), true) := by unfold rareF; rw [if_pos h]
theorem rareF_no {xs : List Skill} {day : Int} (h : (skillsB xs && inB day 0 20000) = false) : rareF xs day = (0, 0, false) := by unfold rareF; rw [if_neg (by rw [h]; exact Bool.false_ne_true)]
set_option maxHeartbeats 4000000 in
theorem specRarestKind_any (xs : List Skill) (day : Int) (A : Option Addr) (n c : Nat) (w : World) (hn : (n : Int) ≤ 9223372036854775807) (hs : Sl w A n xs) (hv : ∀ x, x ∈ xs → x.Person.size ≤ maxLen) :
    Calls Try.prog 22 #[.slice A n c, .int .i64 day] w fun e w' => e = .returned (.tuple #[.int .i64 (rareF xs day).1, .int .i64 (rareF xs day).2.1, .bool (rareF xs day).2.2]) ∧ Below w.heap.size w w' := by
  have HV := Lib.hid hv
  have HL := Lib.hid hs.1
  clear hv
  go_enter Try.func22, Try.ntmps22
  have hk0 := bl_refl w
  go_wp2_with fail
  refine (drGood_any xs _ _ _ _ hn hs HV.out).mono ?_
  rintro e V1 ⟨rfl, hb1⟩
  have hB1 := bl_trans (a := w) (bl_refl _) hb1
  have hk1 := bl_trans hk0 hB1
  have z1 := Lib.hid hB1.size
  cases h0 : skillsB xs
  · have Hz := Lib.hid (rareF_no (xs := xs) (day := day) (by rw [h0]; first | done | simp))
    clear h0
    go_wp2
    go_ret3
    exact ⟨ret_iib (by rw [Hz.out]) (by rw [Hz.out]) (by rw [Hz.out]), hk1⟩
  have H0 := Lib.hid h0
  clear h0
  go_wp2_with fail
  refine (drDay_any day _).mono ?_
  rintro _ V1 ⟨rfl, rfl⟩
  cases h1 : inB day 0 20000
  · have Hz := Lib.hid (rareF_no (xs := xs) (day := day) (by rw [h1]; first | done | simp))
    clear h1
    go_wp2
    go_ret3
    exact ⟨ret_iib (by rw [Hz.out]) (by rw [Hz.out]) (by rw [Hz.out]), hk1⟩
  have H1 := Lib.hid h1
  clear h1
  have Hz := Lib.hid (rareF_yes (xs := xs) (day := day) (by rw [H0.out, H1.out]; rfl))
  have hn2 : n ≤ 24 := by have := skillsB_len H0.out; have := HL.out; omega
  go_wp2_with fail
  refine (drCounts_any xs day _ _ _ _ (by omega) (hs.below hk1)).mono ?_
  rintro e V2 ⟨A_r, c_r, rfl, ho_r, hb2⟩
  have hB2 := bl_trans (a := V1) (bl_refl _) hb2
  have hk2 := bl_trans hk1 hB2
  have z2 := Lib.hid hB2.size
  clear hk1
  have hl6 := cntL_len xs day
  rw [hl6] at ho_r ⊢
  obtain ⟨L, hL⟩ : ∃ L, L = cntL xs day := ⟨_, rfl⟩
  rw [← hL] at ho_r hl6
  have HLL := Lib.hid hL
  have HL6 := Lib.hid hl6
  clear hL hl6 hs
  have hsl := ho_r.sl
  obtain ⟨g, rfl⟩ := ho_r.form (by omega)
  clear hsl
  go_wp2
  go_loop [8, 24] (fun u i => ∃ k : Nat, k ≤ 6 ∧ i = .int .i64 k ∧ u = .int .i64 (best L k : Nat)) (fun _ i => 6 - (intOf i).toNat)
  case atStart => exact ⟨0, Nat.zero_le _, rfl, rfl⟩
  case round =>
    obtain ⟨k, hk, rfl, rfl⟩ := hrel
    by_cases hlt : k < 6
    · have c0 := ho_r.int (k := k) hlt
      have hj : best L k < 6 := by have := best_le L k; omega
      obtain ⟨j, hj2⟩ : ∃ j, j = best L k := ⟨_, rfl⟩
      rw [← hj2] at hj ⊢
      have d0 := ho_r.int hj
      have HJ := Lib.hid hj2
      have hd : decide ((k : Int) < 6) = true := by simp; omega
      clear ho_r hj2
      by_cases h : nth L k < nth L j
      · have hp : Hid (best L (k + 1) = k) := best_hit (by rw [← HJ.out]; exact h)
        go_wp2
        go_round
        case rel => exact ⟨k + 1, by omega, by go_num, by rw [hp.out]⟩
        case measure => simp [intOf]; omega
      · have hp : Hid (best L (k + 1) = j) := (best_miss (by rw [← HJ.out]; exact h)).trans HJ.out.symm
        go_wp2
        go_round
        case rel => exact ⟨k + 1, by omega, by go_num, by rw [hp.out]⟩
        case measure => simp [intOf]; omega
    · obtain rfl : k = 6 := by omega
      have hj : best L 6 < 6 := best_lt (by omega)
      obtain ⟨j, hj2⟩ : ∃ j, j = best L 6 := ⟨_, rfl⟩
      rw [← hj2] at hj ⊢
      have d0 := ho_r.int hj
      have HJ := Lib.hid hj2
      clear ho_r hj2
      go_wp2_with fail
      go_quiet (fail)
      go_wp2
      go_ret3
      exact ⟨ret_iib (by rw [Hz.out, ← HLL.out, HJ.out]) (by rw [Hz.out, ← HLL.out, HJ.out]) (by rw [Hz.out]), bl_drewN hk2 _⟩
set_option maxHeartbeats 4000000 in
theorem implRarestKind_any (xs : List Skill) (day : Int) (A : Option Addr) (n c : Nat) (w : World) (hn : (n : Int) ≤ 9223372036854775807) (hs : Sl w A n xs) (hv : ∀ x, x ∈ xs → x.Person.size ≤ maxLen) :
    Calls Try.prog 23 #[.slice A n c, .int .i64 day] w fun e w' => e = .returned (.tuple #[.int .i64 (rareF xs day).1, .int .i64 (rareF xs day).2.1, .bool (rareF xs day).2.2]) ∧ Below w.heap.size w w' := by
  have HV := Lib.hid hv
  have HL := Lib.hid hs.1
  clear hv
  go_enter Try.func23, Try.ntmps23
  have hk0 := bl_refl w
  go_wp2_with fail
  refine (areSkills_any xs _ _ _ _ hn hs HV.out).mono ?_
  rintro e V1 ⟨rfl, hb1⟩
  have hB1 := bl_trans (a := w) (bl_refl _) hb1
  have hk1 := bl_trans hk0 hB1
  have z1 := Lib.hid hB1.size
  cases h0 : skillsB xs
  · have Hz := Lib.hid (rareF_no (xs := xs) (day := day) (by rw [h0]; first | done | simp))
    clear h0
    go_wp2
    go_ret3
    exact ⟨ret_iib (by rw [Hz.out]) (by rw [Hz.out]) (by rw [Hz.out]), hk1⟩
  have H0 := Lib.hid h0
  clear h0
  go_wp2_with fail
  refine (isDay_any day _).mono ?_
  rintro _ V1 ⟨rfl, rfl⟩
  cases h1 : inB day 0 20000
  · have Hz := Lib.hid (rareF_no (xs := xs) (day := day) (by rw [h1]; first | done | simp))
    clear h1
    go_wp2
    go_ret3
    exact ⟨ret_iib (by rw [Hz.out]) (by rw [Hz.out]) (by rw [Hz.out]), hk1⟩
  have H1 := Lib.hid h1
  clear h1
  have Hz := Lib.hid (rareF_yes (xs := xs) (day := day) (by rw [H0.out, H1.out]; rfl))
  have hn2 : n ≤ 24 := by have := skillsB_len H0.out; have := HL.out; omega
  go_wp2_with fail
  refine (countsOn_any xs day _ _ _ _ (by omega) (hs.below hk1) H0.out).mono ?_
  rintro e V2 ⟨A_r, c_r, rfl, ho_r, hb2⟩
  have hB2 := bl_trans (a := V1) (bl_refl _) hb2
  have hk2 := bl_trans hk1 hB2
  have z2 := Lib.hid hB2.size
  clear hk1
  have hl6 := cntL_len xs day
  rw [hl6] at ho_r ⊢
  obtain ⟨L, hL⟩ : ∃ L, L = cntL xs day := ⟨_, rfl⟩
  rw [← hL] at ho_r hl6
  have HLL := Lib.hid hL
  have HL6 := Lib.hid hl6
  clear hL hl6 hs
  have hsl := ho_r.sl
  go_wp2_with fail
  refine (min_any L _ _ _ _ (by omega) (by omega) hsl).mono ?_
  rintro e V2 ⟨rfl, rfl⟩
  go_wp2_with fail
  refine (index_any L _ _ _ _ _ (by omega) hsl).mono ?_
  rintro e V2 ⟨rfl, rfl⟩
  have hbi := best_index HL6.out (by omega)
  rw [hbi]
  clear hbi hsl ho_r
  go_wp2
  go_ret3
  exact ⟨ret_iib (by rw [Hz.out, ← HLL.out]) (by rw [Hz.out, ← HLL.out]) (by rw [Hz.out]), hk2⟩

end Go.Proofs.Ytiekmpbdlncgdaa
