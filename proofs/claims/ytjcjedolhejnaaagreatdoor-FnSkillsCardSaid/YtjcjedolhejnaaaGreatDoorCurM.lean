/-
  Skills drawn for the laws. No conditions.
-/
import Derived.Test.YtjcjedolhejnaaaGreatDoorCurL
namespace Go.Proofs.YtjcjedolhejnaaaGreatDoor
open Go.RowKit

set_option maxRecDepth 100000 in
set_option maxHeartbeats 8000000 in
theorem drawRenew_any (A : Option Addr) (n c : Nat) (cs : List Byt) (w : World) (hcode : CodeIs w A n cs) :
    Calls Tryz.prog 5 #[.slice A n c] w fun e w' => ∃ (l : List Skill) (A' : Option Addr) (c' : Nat) (p : ByteArray) (k u : Int), e = .returned (.tuple #[.slice A' l.length c', .string p, .int .i64 k, .int .i64 u]) ∧ l.length ≤ 26 ∧ (∀ x, x ∈ l → x.Person.size ≤ 7) ∧ p.size ≤ 7 ∧ (-1 ≤ k ∧ k ≤ 6) ∧ (-1 ≤ u ∧ u ≤ 20001) ∧ Own w' w.heap.size 62 (.slice A' l.length c') l ∧ Below w.heap.size w w' := by
  go_enter Tryz.func5, Tryz.ntmps5
  go_wp2_with fail
  refine (skills_any w.heap.size 0 _ (hcode.cur (by simp)) (by omega)).mono ?_
  rintro e V1 ⟨l, A', c', rfl, hl, hlp, ho1, hc1, hf1⟩
  have lg1 := hc1.lt
  have hk1 : Below w.heap.size w V1 := below_only (by repeat' (first | exact bl_refl _ | refine bl_alloc ?_ _ | refine bl_drew ?_)) hf1 (lies1 w.heap.size) (Nat.le_refl _)
  go_wp2_with fail
  refine (personOf_any w.heap.size _ _ (hc1.below (by repeat' (first | exact bl_refl _ | refine bl_alloc ?_ _ | refine bl_drew ?_))) (by omega)).mono ?_
  rintro e V2 ⟨p, rfl, hz_p, hc2, hf2⟩
  have lg2 := hc2.lt
  have hk2 : Below w.heap.size w V2 := below_only (bl_trans hk1 (by repeat' (first | exact bl_refl _ | refine bl_alloc ?_ _ | refine bl_drew ?_))) hf2 (lies1 w.heap.size) (Nat.le_refl _)
  have ho2 := (ho1.below (by repeat' (first | exact bl_refl _ | refine bl_alloc ?_ _ | refine bl_drew ?_))).onlyF hf2 (by simp only [World.size_alloc]; omega)
  go_wp2_with fail
  refine (skillKind_any w.heap.size _ _ (hc2.below (by repeat' (first | exact bl_refl _ | refine bl_alloc ?_ _ | refine bl_drew ?_))) (by omega)).mono ?_
  rintro e V3 ⟨k, rfl, hz_k, hc3, hf3⟩
  have lg3 := hc3.lt
  have hk3 : Below w.heap.size w V3 := below_only (bl_trans hk2 (by repeat' (first | exact bl_refl _ | refine bl_alloc ?_ _ | refine bl_drew ?_))) hf3 (lies1 w.heap.size) (Nat.le_refl _)
  have ho3 := (ho2.below (by repeat' (first | exact bl_refl _ | refine bl_alloc ?_ _ | refine bl_drew ?_))).onlyF hf3 (by simp only [World.size_alloc]; omega)
  go_wp2_with fail
  refine (skillDay_any w.heap.size _ _ (hc3.below (by repeat' (first | exact bl_refl _ | refine bl_alloc ?_ _ | refine bl_drew ?_))) (by omega)).mono ?_
  rintro e V4 ⟨u, rfl, hz_u, hc4, hf4⟩
  have lg4 := hc4.lt
  have hk4 : Below w.heap.size w V4 := below_only (bl_trans hk3 (by repeat' (first | exact bl_refl _ | refine bl_alloc ?_ _ | refine bl_drew ?_))) hf4 (lies1 w.heap.size) (Nat.le_refl _)
  have ho4 := (ho3.below (by repeat' (first | exact bl_refl _ | refine bl_alloc ?_ _ | refine bl_drew ?_))).onlyF hf4 (by simp only [World.size_alloc]; omega)
  go_wp2
  (try simp only [Exit.inBlock, Exit.then]); refine bodyPost_ret (results_tmp4 rfl _ _ _) rfl ?_
  exact ⟨l, A', c', p, k, u, rfl, hl, hlp, hz_p, hz_k, hz_u, ho4.mono (by simp only [World.size_alloc]; omega), hk4⟩
set_option maxRecDepth 100000 in
set_option maxHeartbeats 8000000 in
theorem drawDrop_any (A : Option Addr) (n c : Nat) (cs : List Byt) (w : World) (hcode : CodeIs w A n cs) :
    Calls Tryz.prog 11 #[.slice A n c] w fun e w' => ∃ (l : List Skill) (A' : Option Addr) (c' : Nat) (p : ByteArray), e = .returned (.tuple #[.slice A' l.length c', .string p]) ∧ l.length ≤ 26 ∧ (∀ x, x ∈ l → x.Person.size ≤ 7) ∧ p.size ≤ 7 ∧ Own w' w.heap.size 62 (.slice A' l.length c') l ∧ Below w.heap.size w w' := by
  go_enter Tryz.func11, Tryz.ntmps11
  go_wp2_with fail
  refine (skills_any w.heap.size 0 _ (hcode.cur (by simp)) (by omega)).mono ?_
  rintro e V1 ⟨l, A', c', rfl, hl, hlp, ho1, hc1, hf1⟩
  have lg1 := hc1.lt
  have hk1 : Below w.heap.size w V1 := below_only (by repeat' (first | exact bl_refl _ | refine bl_alloc ?_ _ | refine bl_drew ?_)) hf1 (lies1 w.heap.size) (Nat.le_refl _)
  go_wp2_with fail
  refine (personOf_any w.heap.size _ _ (hc1.below (by repeat' (first | exact bl_refl _ | refine bl_alloc ?_ _ | refine bl_drew ?_))) (by omega)).mono ?_
  rintro e V2 ⟨p, rfl, hz_p, hc2, hf2⟩
  have lg2 := hc2.lt
  have hk2 : Below w.heap.size w V2 := below_only (bl_trans hk1 (by repeat' (first | exact bl_refl _ | refine bl_alloc ?_ _ | refine bl_drew ?_))) hf2 (lies1 w.heap.size) (Nat.le_refl _)
  have ho2 := (ho1.below (by repeat' (first | exact bl_refl _ | refine bl_alloc ?_ _ | refine bl_drew ?_))).onlyF hf2 (by simp only [World.size_alloc]; omega)
  go_wp2
  go_ret2
  exact ⟨l, A', c', p, rfl, hl, hlp, hz_p, ho2.mono (by simp only [World.size_alloc]; omega), hk2⟩
set_option maxRecDepth 100000 in
set_option maxHeartbeats 8000000 in
theorem drawLapse_any (A : Option Addr) (n c : Nat) (cs : List Byt) (w : World) (hcode : CodeIs w A n cs) :
    Calls Tryz.prog 14 #[.slice A n c] w fun e w' => ∃ (l : List Skill) (A' : Option Addr) (c' : Nat) (k m u : Int), e = .returned (.tuple #[.slice A' l.length c', .int .i64 k, .int .i64 m, .int .i64 u]) ∧ l.length ≤ 26 ∧ (∀ x, x ∈ l → x.Person.size ≤ 7) ∧ (-1 ≤ k ∧ k ≤ 6) ∧ (0 ≤ m ∧ m ≤ 21) ∧ (-1 ≤ u ∧ u ≤ 20001) ∧ Own w' w.heap.size 62 (.slice A' l.length c') l ∧ Below w.heap.size w w' := by
  go_enter Tryz.func14, Tryz.ntmps14
  go_wp2_with fail
  refine (skills_any w.heap.size 0 _ (hcode.cur (by simp)) (by omega)).mono ?_
  rintro e V1 ⟨l, A', c', rfl, hl, hlp, ho1, hc1, hf1⟩
  have lg1 := hc1.lt
  have hk1 : Below w.heap.size w V1 := below_only (by repeat' (first | exact bl_refl _ | refine bl_alloc ?_ _ | refine bl_drew ?_)) hf1 (lies1 w.heap.size) (Nat.le_refl _)
  go_wp2_with fail
  refine (skillKind_any w.heap.size _ _ (hc1.below (by repeat' (first | exact bl_refl _ | refine bl_alloc ?_ _ | refine bl_drew ?_))) (by omega)).mono ?_
  rintro e V2 ⟨k, rfl, hz_k, hc2, hf2⟩
  have lg2 := hc2.lt
  have hk2 : Below w.heap.size w V2 := below_only (bl_trans hk1 (by repeat' (first | exact bl_refl _ | refine bl_alloc ?_ _ | refine bl_drew ?_))) hf2 (lies1 w.heap.size) (Nat.le_refl _)
  have ho2 := (ho1.below (by repeat' (first | exact bl_refl _ | refine bl_alloc ?_ _ | refine bl_drew ?_))).onlyF hf2 (by simp only [World.size_alloc]; omega)
  go_wp2_with fail
  refine (among_any w.heap.size _ _ _ _ [0, 21] _ (hc2.below (by repeat' (first | exact bl_refl _ | refine bl_alloc ?_ _ | refine bl_drew ?_))) (by omega) (by exact sl_lit' (by simp) rfl rfl) (by omega) (by omega) (by rintro b o h _; injection h with h; injection h with h1; (try simp at h1); omega)).mono ?_
  rintro e V3 ⟨m0, rfl, hm_m0, hc3, hf3⟩
  have lg3 := hc3.lt
  have hk3 : Below w.heap.size w V3 := below_only (bl_trans hk2 (by repeat' (first | exact bl_refl _ | refine bl_alloc ?_ _ | refine bl_drew ?_))) hf3 (lies1 w.heap.size) (Nat.le_refl _)
  have ho3 := (ho2.below (by repeat' (first | exact bl_refl _ | refine bl_alloc ?_ _ | refine bl_drew ?_))).onlyF hf3 (by simp only [World.size_alloc]; omega)
  have hz_m0 : 0 ≤ m0 ∧ m0 ≤ 21 := by simp only [List.mem_cons, List.not_mem_nil, or_false] at hm_m0; rcases hm_m0 with rfl | rfl <;> omega
  clear hm_m0
  go_wp2_with fail
  refine (among_any w.heap.size _ _ _ _ [1, 1, 2, 20, m0] _ (hc3.below (by repeat' (first | exact bl_refl _ | refine bl_alloc ?_ _ | refine bl_drew ?_))) (by omega) (by exact sl_lit' (by simp) rfl rfl) (by omega) (by omega) (by rintro b o h _; injection h with h; injection h with h1; (try simp at h1); omega)).mono ?_
  rintro e V4 ⟨m, rfl, hm_m, hc4, hf4⟩
  have lg4 := hc4.lt
  have hk4 : Below w.heap.size w V4 := below_only (bl_trans hk3 (by repeat' (first | exact bl_refl _ | refine bl_alloc ?_ _ | refine bl_drew ?_))) hf4 (lies1 w.heap.size) (Nat.le_refl _)
  have ho4 := (ho3.below (by repeat' (first | exact bl_refl _ | refine bl_alloc ?_ _ | refine bl_drew ?_))).onlyF hf4 (by simp only [World.size_alloc]; omega)
  have hz_m : 0 ≤ m ∧ m ≤ 21 := by simp only [List.mem_cons, List.not_mem_nil, or_false] at hm_m; rcases hm_m with rfl | rfl | rfl | rfl | rfl <;> omega
  clear hm_m
  go_wp2_with fail
  refine (skillDay_any w.heap.size _ _ (hc4.below (by repeat' (first | exact bl_refl _ | refine bl_alloc ?_ _ | refine bl_drew ?_))) (by omega)).mono ?_
  rintro e V5 ⟨u, rfl, hz_u, hc5, hf5⟩
  have lg5 := hc5.lt
  have hk5 : Below w.heap.size w V5 := below_only (bl_trans hk4 (by repeat' (first | exact bl_refl _ | refine bl_alloc ?_ _ | refine bl_drew ?_))) hf5 (lies1 w.heap.size) (Nat.le_refl _)
  have ho5 := (ho4.below (by repeat' (first | exact bl_refl _ | refine bl_alloc ?_ _ | refine bl_drew ?_))).onlyF hf5 (by simp only [World.size_alloc]; omega)
  go_wp2
  (try simp only [Exit.inBlock, Exit.then]); refine bodyPost_ret (results_tmp4 rfl _ _ _) rfl ?_
  exact ⟨l, A', c', k, m, u, rfl, hl, hlp, hz_k, hz_m, hz_u, ho5.mono (by simp only [World.size_alloc]; omega), hk5⟩
set_option maxRecDepth 100000 in
set_option maxHeartbeats 8000000 in
theorem drawCounts_any (A : Option Addr) (n c : Nat) (cs : List Byt) (w : World) (hcode : CodeIs w A n cs) :
    Calls Tryz.prog 57 #[.slice A n c] w fun e w' => ∃ (l : List Skill) (A' : Option Addr) (c' : Nat) (u : Int), e = .returned (.tuple #[.slice A' l.length c', .int .i64 u]) ∧ l.length ≤ 26 ∧ (∀ x, x ∈ l → x.Person.size ≤ 7) ∧ (-1 ≤ u ∧ u ≤ 20001) ∧ Own w' w.heap.size 62 (.slice A' l.length c') l ∧ Below w.heap.size w w' := by
  go_enter Tryz.func57, Tryz.ntmps57
  go_wp2_with fail
  refine (skills_any w.heap.size 0 _ (hcode.cur (by simp)) (by omega)).mono ?_
  rintro e V1 ⟨l, A', c', rfl, hl, hlp, ho1, hc1, hf1⟩
  have lg1 := hc1.lt
  have hk1 : Below w.heap.size w V1 := below_only (by repeat' (first | exact bl_refl _ | refine bl_alloc ?_ _ | refine bl_drew ?_)) hf1 (lies1 w.heap.size) (Nat.le_refl _)
  go_wp2_with fail
  refine (skillDay_any w.heap.size _ _ (hc1.below (by repeat' (first | exact bl_refl _ | refine bl_alloc ?_ _ | refine bl_drew ?_))) (by omega)).mono ?_
  rintro e V2 ⟨u, rfl, hz_u, hc2, hf2⟩
  have lg2 := hc2.lt
  have hk2 : Below w.heap.size w V2 := below_only (bl_trans hk1 (by repeat' (first | exact bl_refl _ | refine bl_alloc ?_ _ | refine bl_drew ?_))) hf2 (lies1 w.heap.size) (Nat.le_refl _)
  have ho2 := (ho1.below (by repeat' (first | exact bl_refl _ | refine bl_alloc ?_ _ | refine bl_drew ?_))).onlyF hf2 (by simp only [World.size_alloc]; omega)
  go_wp2
  go_ret2
  exact ⟨l, A', c', u, rfl, hl, hlp, hz_u, ho2.mono (by simp only [World.size_alloc]; omega), hk2⟩
set_option maxRecDepth 100000 in
set_option maxHeartbeats 8000000 in
theorem drawRarest_any (A : Option Addr) (n c : Nat) (cs : List Byt) (w : World) (hcode : CodeIs w A n cs) :
    Calls Tryz.prog 20 #[.slice A n c] w fun e w' => ∃ (l : List Skill) (A' : Option Addr) (c' : Nat) (u : Int), e = .returned (.tuple #[.slice A' l.length c', .int .i64 u]) ∧ l.length ≤ 26 ∧ (∀ x, x ∈ l → x.Person.size ≤ 7) ∧ (-1 ≤ u ∧ u ≤ 20001) ∧ Own w' w.heap.size 62 (.slice A' l.length c') l ∧ Below w.heap.size w w' := by
  go_enter Tryz.func20, Tryz.ntmps20
  go_wp2_with fail
  refine (drawCounts_any A n c cs _ hcode).mono ?_
  rintro e V1 ⟨l, A', c', u, rfl, hl, hlp, hu, ho, hb⟩
  go_wp2
  go_ret2
  exact ⟨l, A', c', u, rfl, hl, hlp, hu, ho, hb⟩
set_option maxRecDepth 100000 in
set_option maxHeartbeats 8000000 in
theorem drawAre_any (A : Option Addr) (n c : Nat) (cs : List Byt) (w : World) (hcode : CodeIs w A n cs) :
    Calls Tryz.prog 60 #[.slice A n c] w fun e w' => ∃ (l : List Skill) (A' : Option Addr) (c' : Nat), e = .returned (.slice A' l.length c') ∧ l.length ≤ 26 ∧ (∀ x, x ∈ l → x.Person.size ≤ 7) ∧ Own w' w.heap.size 62 (.slice A' l.length c') l ∧ Below w.heap.size w w' := by
  go_enter Tryz.func60, Tryz.ntmps60
  go_wp2_with fail
  refine (skills_any w.heap.size 0 _ (hcode.cur (by simp)) (by omega)).mono ?_
  rintro e V1 ⟨l, A', c', rfl, hl, hlp, ho1, hc1, hf1⟩
  have lg1 := hc1.lt
  have hk1 : Below w.heap.size w V1 := below_only (by repeat' (first | exact bl_refl _ | refine bl_alloc ?_ _ | refine bl_drew ?_)) hf1 (lies1 w.heap.size) (Nat.le_refl _)
  go_wp2
  go_ret
  exact ⟨l, A', c', rfl, hl, hlp, ho1.mono (by simp only [World.size_alloc]; omega), hk1⟩
set_option maxRecDepth 100000 in
set_option maxHeartbeats 8000000 in
theorem drawText_any (A : Option Addr) (n c : Nat) (cs : List Byt) (w : World) (hcode : CodeIs w A n cs) :
    Calls Tryz.prog 23 #[.slice A n c] w fun e w' => ∃ (l : List Skill) (A' : Option Addr) (c' : Nat), e = .returned (.slice A' l.length c') ∧ l.length ≤ 26 ∧ (∀ x, x ∈ l → x.Person.size ≤ 7) ∧ Own w' w.heap.size 62 (.slice A' l.length c') l ∧ Below w.heap.size w w' := by
  go_enter Tryz.func23, Tryz.ntmps23
  go_wp2_with fail
  refine (drawAre_any A n c cs _ hcode).mono ?_
  rintro e V1 ⟨l, A', c', rfl, hl, hlp, ho, hb⟩
  go_wp2
  go_ret
  exact ⟨l, A', c', rfl, hl, hlp, ho, hb⟩

end Go.Proofs.YtjcjedolhejnaaaGreatDoor
