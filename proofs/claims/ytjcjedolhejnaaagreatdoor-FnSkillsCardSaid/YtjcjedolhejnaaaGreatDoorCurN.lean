/-
  Skills' texts drawn for the laws. No conditions.
-/
import Derived.Test.YtjcjedolhejnaaaGreatDoorCurL
import Derived.Test.YtjcjedolhejnaaaGreatDoorCurS
import Derived.Test.YtjcjedolhejnaaaGreatDoorStSq
namespace Go.Proofs.YtjcjedolhejnaaaGreatDoor
open Go.RowKit

set_option maxRecDepth 100000 in
set_option maxHeartbeats 8000000 in
theorem drawParse_any (A : Option Addr) (n c : Nat) (cs : List Byt) (w : World) (hcode : CodeIs w A n cs) :
    Calls Tryz.prog 26 #[.slice A n c] w fun e w' => ∃ s : ByteArray, e = .returned (.string s) ∧ s.size ≤ 500 ∧ Below w.heap.size w w' := by
  go_enter Tryz.func26, Tryz.ntmps26
  go_wp2_with fail
  refine (skills_any w.heap.size 0 _ (hcode.cur (by simp)) (by omega)).mono ?_
  rintro e V1 ⟨l, A', c', rfl, hl, hlp, ho1, hc1, hf1⟩
  have lg1 := hc1.lt
  have hk1 : Below w.heap.size w V1 := below_only (by repeat' (first | exact bl_refl _ | refine bl_alloc ?_ _ | refine bl_drew ?_)) hf1 (lies1 w.heap.size) (Nat.le_refl _)
  have hgd : ∀ W, Sl W A' l.length l → Calls Tryz.prog 39 #[.slice A' l.length c'] W fun e w' => e = .returned (.bool (skillsB l)) ∧ Below W.heap.size W w' := fun W hs => drGood_any l A' _ c' W (by omega) hs (fun x hx => by have := hlp x hx; unfold maxLen; omega)
  obtain ⟨gb, hgb⟩ : ∃ b, skillsB l = b := ⟨_, rfl⟩
  rw [hgb] at hgd
  have Hgd := Lib.hid hgd
  have Hgb := Lib.hid hgb
  clear hgd hgb
  go_wp2_with fail
  refine (Hgd.out _ ho1.sl).mono ?_
  rintro e V2 ⟨rfl, hb2⟩
  go_upto_if 12 with fail
  go_cut [5] (fun s wx => ∃ t : ByteArray, s = .string t ∧ t.size ≤ 400 ∧ Below V2.heap.size V2 wx)
  case first =>
    cases gb
    · go_wp2_with fail
      go_meet
      exact ⟨_, rfl, by decide, bl_refl _⟩
    · go_wp2_with fail
      refine (drText_any l A' _ c' _ (ho1.sl.below hb2) Hgb.out).mono ?_
      rintro e V3 ⟨rfl, hb3⟩
      have hts := skText_len Hgb.out l.length (Nat.le_refl _)
      have h24 := skillsB_len Hgb.out
      go_wp2_with fail
      go_meet
      exact ⟨_, rfl, by omega, hb3⟩
  case rest =>
    obtain ⟨S, rfl, hS, hbc⟩ := hcut
    have hbx := bl_trans hb2 hbc
    have hkx := bl_trans hk1 hbx
    have hcx := hc1.below hbx
    go_wp2_with fail
    refine (pick_any w.heap.size _ 6 _ hcx (by omega) (by omega)).mono ?_
    rintro e V5 ⟨q, rfl, hq, hc5, hf5⟩
    clear hq
    have hk5 : Below w.heap.size w V5 := below_only hkx hf5 (lies1 w.heap.size) (Nat.le_refl _)
    by_cases h0 : q = 0
    · subst h0
      go_wp2_with fail
      refine (spoilt_any w.heap.size _ S ⟨#[97, 110, 47, 59, 48, 49]⟩ _ hc5 (by omega) (by omega) (by decide) (by decide)).mono ?_
      rintro e V6 ⟨t, rfl, ht, hc6, hf6⟩
      go_wp2
      go_ret
      exact ⟨t, rfl, by omega, below_only hk5 hf6 (lies1 w.heap.size) (Nat.le_refl _)⟩
    by_cases h1 : q = 1
    · subst h1
      go_wp2_with fail
      refine (spoilt_any w.heap.size _ S ⟨#[97, 110, 47, 59, 48, 49]⟩ _ hc5 (by omega) (by omega) (by decide) (by decide)).mono ?_
      rintro e V6 ⟨t, rfl, ht, hc6, hf6⟩
      go_wp2
      go_ret
      exact ⟨t, rfl, by omega, below_only hk5 hf6 (lies1 w.heap.size) (Nat.le_refl _)⟩
    by_cases h2 : q = 2
    · subst h2
      go_wp2_with fail
      refine (of_any w.heap.size _ _ _ _ [⟨#[]⟩, ⟨#[59]⟩, ⟨#[97, 110, 110, 47, 48, 47, 49, 48, 48]⟩, ⟨#[97, 110, 110, 47, 48, 59]⟩, ⟨#[97, 110, 110, 47, 54, 47, 49, 48, 48, 59]⟩, ⟨#[97, 110, 110, 47, 48, 47, 48, 49, 48, 48, 59]⟩, ⟨#[98, 111, 98, 47, 48, 47, 49, 59, 97, 110, 110, 47, 48, 47, 49, 59]⟩, ⟨#[97, 110, 110, 47, 49, 47, 53, 59, 97, 110, 110, 47, 48, 47, 53, 59]⟩, ⟨#[97, 110, 110, 47, 48, 47, 50, 48, 48, 48, 49, 59]⟩] _ (hc5.below (by repeat' (first | exact bl_refl _ | refine bl_alloc ?_ _ | refine bl_drew ?_))) (by omega) (by exact sl_lit' (by simp) rfl rfl) (by omega) (by omega) (by rintro b o h _; injection h with h; injection h with h1; (try simp at h1); have := hc5.lt; omega)).mono ?_
      rintro e V6 ⟨t, rfl, ht, hc6, hf6⟩
      have hts : t.size ≤ 100 := by simp only [List.mem_cons, List.not_mem_nil, or_false] at ht; rcases ht with rfl | rfl | rfl | rfl | rfl | rfl | rfl | rfl | rfl <;> decide
      go_wp2
      go_ret
      exact ⟨t, rfl, by omega, below_only (bl_trans hk5 (by repeat' (first | exact bl_refl _ | refine bl_alloc ?_ _ | refine bl_drew ?_))) hf6 (lies1 w.heap.size) (Nat.le_refl _)⟩
    go_wp2
    go_ret
    exact ⟨S, rfl, by omega, hk5⟩

end Go.Proofs.YtjcjedolhejnaaaGreatDoor
