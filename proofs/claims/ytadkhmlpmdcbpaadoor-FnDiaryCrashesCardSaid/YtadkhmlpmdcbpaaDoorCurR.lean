/-
  The drawing of inputs: texts to recover. No conditions.
-/
import Derived.Test.YtadkhmlpmdcbpaaDoorCurC
namespace Go.Proofs.YtadkhmlpmdcbpaaDoor
open Go.RowKit

set_option maxRecDepth 100000 in
set_option maxHeartbeats 8000000 in
theorem drawRecover_any (A : Option Addr) (n c : Nat) (cs : List Byt) (w : World) (hcode : CodeIs w A n cs) :
    Calls Tryd.prog 11 #[.slice A n c] w fun e w' => ∃ s : ByteArray, e = .returned (.string s) ∧ s.size ≤ 4000 ∧ Below w.heap.size w w' := by
  go_enter Tryd.func11, Tryd.ntmps11
  go_wp2_with fail
  refine (diary_any w.heap.size 0 _ (hcode.cur (by simp)) (by omega)).mono ?_
  rintro e V1 ⟨d, rfl, hsz, hc1, hf1⟩
  have lg1 := hc1.lt
  have hk1 : Below w.heap.size w V1 := below_only (bl_alloc (bl_refl _) _) hf1 (lies1 w.heap.size) (Nat.le_refl _)
  have a1 : ¬ (9223372036854775807 < d.Safe.size + d.Open.size) := by omega
  go_wp2_with fail
  refine (pick_any w.heap.size _ 6 _ (hc1.below (by repeat' (first | exact bl_refl _ | refine bl_alloc ?_ _ | refine bl_drew ?_))) (by omega) (by omega)).mono ?_
  rintro e V2 ⟨q, rfl, hq, hc2, hf2⟩
  have hk2 : Below w.heap.size w V2 := below_only (bl_trans hk1 (by repeat' (first | exact bl_refl _ | refine bl_alloc ?_ _ | refine bl_drew ?_))) hf2 (lies1 w.heap.size) (Nat.le_refl _)
  have hS : (d.Safe ++ d.Open).size ≤ 1200 := by rw [ByteArray.size_append]; exact hsz
  obtain ⟨S, hSS⟩ : ∃ S, S = d.Safe ++ d.Open := ⟨_, rfl⟩
  rw [← hSS] at hS
  rw [← hSS]
  clear hSS a1 hsz
  by_cases h0 : q = 0
  · subst h0
    go_wp2_with fail
    refine (spoilt_any w.heap.size _ S ⟨#[61, 112, 49, 57, 10]⟩ _ hc2 (by omega) (by omega) (by decide) (by decide)).mono ?_
    rintro e V3 ⟨t, rfl, ht, hc3, hf3⟩
    go_wp2
    go_ret
    exact ⟨t, rfl, by omega, below_only hk2 hf3 (lies1 w.heap.size) (Nat.le_refl _)⟩
  by_cases h1 : q = 1
  · subst h1
    go_wp2_with fail
    refine (spoilt_any w.heap.size _ S ⟨#[61, 112, 49, 57, 10]⟩ _ hc2 (by omega) (by omega) (by decide) (by decide)).mono ?_
    rintro e V3 ⟨t, rfl, ht, hc3, hf3⟩
    go_wp2
    go_ret
    exact ⟨t, rfl, by omega, below_only hk2 hf3 (lies1 w.heap.size) (Nat.le_refl _)⟩
  by_cases h2 : q = 2
  · subst h2
    have hw1 : IntKind.i64.wrap ((S.size : Int) + 1) = (S.size : Int) + 1 := wrapi (by omega) (by omega)
    go_wp2_with fail
    refine (pick_any w.heap.size _ ((S.size : Int) + 1) _ hc2 (by omega) (by omega)).mono ?_
    rintro e V3 ⟨p, rfl, hp, hc3, hf3⟩
    obtain ⟨k, rfl⟩ := Int.eq_ofNat_of_zero_le hp.1
    have hk := hp.2 (by omega)
    have hkS : k ≤ S.size := by omega
    have hkd : (k : Int) ≤ S.size := by omega
    go_wp2
    go_ret
    refine ⟨_, rfl, ?_, below_only hk2 hf3 (lies1 w.heap.size) (Nat.le_refl _)⟩
    rw [ByteArray.size_extract]; omega
  by_cases h3 : q = 3
  · subst h3
    go_wp2_with fail
    refine (pick_any w.heap.size _ 2 _ hc2 (by omega) (by omega)).mono ?_
    rintro e V3 ⟨p, rfl, hp, hc3, hf3⟩
    have hp2 := hp.2 (by omega)
    have hp0 := hp.1
    have hk3 : Below w.heap.size w V3 := below_only hk2 hf3 (lies1 w.heap.size) (Nat.le_refl _)
    have hw1 : IntKind.i64.wrap (3000 + p) = 3000 + p := wrapi (by omega) (by omega)
    clear hp
    go_wp2
    go_loop [5] (fun s => ∃ u : ByteArray, s = .string u ∧ u.size ≤ 3001) (fun s => 4000 - (match s with | .string u => u.size | _ => 0))
    case atStart => exact ⟨S, rfl, by omega⟩
    case round =>
      obtain ⟨u, rfl, hu⟩ := hrel
      have a2 : ¬ (9223372036854775807 < u.size + (⟨#[120]⟩ : ByteArray).size) := by have : (⟨#[120]⟩ : ByteArray).size = 1 := rfl; omega
      by_cases hlt : (u.size : Int) < 3000 + p
      · have hd : decide ((u.size : Int) < 3000 + p) = true := by simpa using hlt
        go_wp2
        go_round
        case rel => exact ⟨_, rfl, by rw [ByteArray.size_append]; have : (⟨#[120]⟩ : ByteArray).size = 1 := rfl; omega⟩
        case measure => simp [ByteArray.size_append]; have : (⟨#[120]⟩ : ByteArray).size = 1 := rfl; omega
      · have hd : decide ((u.size : Int) < 3000 + p) = false := by simpa using hlt
        go_wp2
        go_ret
        exact ⟨u, rfl, by omega, hk3⟩
  go_wp2
  go_ret
  exact ⟨S, rfl, by omega, hk2⟩
end Go.Proofs.YtadkhmlpmdcbpaaDoor
