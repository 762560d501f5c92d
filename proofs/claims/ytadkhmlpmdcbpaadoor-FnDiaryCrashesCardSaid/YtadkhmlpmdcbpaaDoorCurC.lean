/-
  The drawing of inputs: crashes. No conditions.
-/
import Derived.Test.YtadkhmlpmdcbpaaDoorCurD
import Derived.Test.YtadkhmlpmdcbpaaDoorMem3
import Derived.Test.YtadkhmlpmdcbpaaDoorDiary
namespace Go.Proofs.YtadkhmlpmdcbpaaDoor
open Go.RowKit

theorem lies1 (g : Nat) : Lies [g] g (g + 1) := fun k hk => by have := List.mem_singleton.1 hk; omega
/-- what a drawing function is handed: the code -/
structure CodeIs (w : World) (A : Option Addr) (n : Nat) (cs : List Byt) : Prop where
  sl : Sl w A n cs
  le : (n : Int) ≤ 9223372036854775807
  ok : ∀ x, x ∈ cs → 0 ≤ x.v ∧ x.v ≤ 255
theorem CodeIs.below {w w' : World} {A : Option Addr} {n : Nat} {cs : List Byt} (h : CodeIs w A n cs) (hb : Below w.heap.size w w') : CodeIs w' A n cs := ⟨h.sl.below hb, h.le, h.ok⟩
theorem CodeIs.cur {W : World} {E : TypeId} {A : Option Addr} {n c g : Nat} {cs : List Byt} (h : CodeIs W A n cs) (hg : g = W.heap.size) : Cur (W.alloc (.cells #[.slice A n c, .int .i64 0, .int .u64 0] E)) g 0 := Cur.init' hg h.sl h.le h.ok
set_option maxRecDepth 100000 in
set_option maxHeartbeats 8000000 in
theorem drawCrash_any (A : Option Addr) (n c : Nat) (cs : List Byt) (w : World) (hcode : CodeIs w A n cs) :
    Calls Tryd.prog 4 #[.slice A n c] w fun e w' => ∃ (d : Diary) (k : Int), e = .returned (.tuple #[.agg #[.string d.Safe, .string d.Open], .int .i64 k]) ∧ d.Safe.size + d.Open.size ≤ 1200 ∧ (-1 ≤ k ∧ k ≤ 2000) ∧ Below w.heap.size w w' := by
  go_enter Tryd.func4, Tryd.ntmps4
  go_wp2_with fail
  refine (diary_any (w.heap.size + 1) 0 _ ((hcode.below (bl_alloc (bl_refl _) _)).cur (by simp)) (by omega)).mono ?_
  rintro e V1 ⟨d, rfl, hsz, hc1, hf1⟩
  have r0 : V1.cell? ⟨w.heap.size, 0, none⟩ = some (.string ⟨#[]⟩) := hf1.keeps (by go_simp) (by simp only [List.mem_singleton]; omega)
  have r1 : V1.cell? ⟨w.heap.size, 1, none⟩ = some (.string ⟨#[]⟩) := hf1.keeps (by go_simp) (by simp only [List.mem_singleton]; omega)
  have fr0 : V1.frozen? ⟨w.heap.size, 0, none⟩ = false := (hf1.frozen (by simp; try omega) (by simp only [List.mem_singleton]; omega)).trans (by go_simp)
  have fr1 : V1.frozen? ⟨w.heap.size, 1, none⟩ = false := (hf1.frozen (by simp; try omega) (by simp only [List.mem_singleton]; omega)).trans (by go_simp)
  have lrV1 : w.heap.size < V1.heap.size := World.block_lt_of_cell? _ _ r0
  have lg1 := hc1.lt
  have hk1 : Below w.heap.size w V1 := below_only ((by repeat' (first | exact bl_refl _ | refine bl_alloc ?_ _))) hf1 (lies1 (w.heap.size + 1)) (by omega)
  have hw1 : IntKind.i64.wrap ((d.Open.size : Int) + 1) = (d.Open.size : Int) + 1 := wrapi (by omega) (by omega)
  have hw2 : IntKind.i64.wrap ((d.Open.size : Int) - 1) = (d.Open.size : Int) - 1 := wrapi (by omega) (by omega)
  go_upto_region 3 with fail
  go_region_held3 (fun w' => w'.cell? ⟨V1.heap.size, 0, none⟩ = some (.string d.Safe) ∧ w'.cell? ⟨V1.heap.size, 1, none⟩ = some (.string d.Open)) (first | exact ⟨m0, m1⟩ | (refine ⟨?_, ?_⟩ <;> (go_simp; done)) | go_keep) (first | (go_at_call 20; (fail_if_success (have hT := hc2)); refine (pick_any (w.heap.size + 1) _ _ _ (hc1.below (by repeat' (first | exact bl_refl _ | refine bl_alloc ?_ _ | refine bl_drew ?_))) (by omega) (by omega)).mono ?_; rintro e V2 ⟨p2, rfl, hp2, hc2, hf2⟩; have r0 : V2.cell? ⟨w.heap.size, 0, none⟩ = some (.string ⟨#[]⟩) := hf2.keeps (by go_simp) (by simp only [List.mem_singleton]; omega); have r1 : V2.cell? ⟨w.heap.size, 1, none⟩ = some (.string ⟨#[]⟩) := hf2.keeps (by go_simp) (by simp only [List.mem_singleton]; omega); have fr0 : V2.frozen? ⟨w.heap.size, 0, none⟩ = false := (hf2.frozen (by simp; try omega) (by simp only [List.mem_singleton]; omega)).trans (by go_simp); have fr1 : V2.frozen? ⟨w.heap.size, 1, none⟩ = false := (hf2.frozen (by simp; try omega) (by simp only [List.mem_singleton]; omega)).trans (by go_simp); have lrV2 : w.heap.size < V2.heap.size := World.block_lt_of_cell? _ _ r0; have m0 : V2.cell? ⟨V1.heap.size, 0, none⟩ = some (.string d.Safe) := hf2.keeps (by go_simp) (by simp only [List.mem_singleton]; omega); have m1 : V2.cell? ⟨V1.heap.size, 1, none⟩ = some (.string d.Open) := hf2.keeps (by go_simp) (by simp only [List.mem_singleton]; omega); have fm0 : V2.frozen? ⟨V1.heap.size, 0, none⟩ = false := (hf2.frozen (by simp; try omega) (by simp only [List.mem_singleton]; omega)).trans (by go_simp); have fm1 : V2.frozen? ⟨V1.heap.size, 1, none⟩ = false := (hf2.frozen (by simp; try omega) (by simp only [List.mem_singleton]; omega)).trans (by go_simp); have lmV2 : V1.heap.size < V2.heap.size := World.block_lt_of_cell? _ _ m0; have hk2 : Below w.heap.size w V2 := below_only (bl_trans hk1 (by repeat' (first | exact bl_refl _ | refine bl_alloc ?_ _ | refine bl_drew ?_))) hf2 (lies1 (w.heap.size + 1)) (by omega); have lg2 := hc2.lt) | (go_at_call 20; have hT := hc2; (fail_if_success (have hT := hc3)); refine (pick_any (w.heap.size + 1) _ _ _ (hc2.below (by repeat' (first | exact bl_refl _ | refine bl_alloc ?_ _ | refine bl_drew ?_))) (by omega) (by omega)).mono ?_; rintro e V3 ⟨p3, rfl, hp3, hc3, hf3⟩; have r0 : V3.cell? ⟨w.heap.size, 0, none⟩ = some (.string ⟨#[]⟩) := hf3.keeps (by go_simp) (by simp only [List.mem_singleton]; omega); have r1 : V3.cell? ⟨w.heap.size, 1, none⟩ = some (.string ⟨#[]⟩) := hf3.keeps (by go_simp) (by simp only [List.mem_singleton]; omega); have fr0 : V3.frozen? ⟨w.heap.size, 0, none⟩ = false := (hf3.frozen (by simp; try omega) (by simp only [List.mem_singleton]; omega)).trans (by go_simp); have fr1 : V3.frozen? ⟨w.heap.size, 1, none⟩ = false := (hf3.frozen (by simp; try omega) (by simp only [List.mem_singleton]; omega)).trans (by go_simp); have lrV3 : w.heap.size < V3.heap.size := World.block_lt_of_cell? _ _ r0; have m0 : V3.cell? ⟨V1.heap.size, 0, none⟩ = some (.string d.Safe) := hf3.keeps (by go_simp) (by simp only [List.mem_singleton]; omega); have m1 : V3.cell? ⟨V1.heap.size, 1, none⟩ = some (.string d.Open) := hf3.keeps (by go_simp) (by simp only [List.mem_singleton]; omega); have fm0 : V3.frozen? ⟨V1.heap.size, 0, none⟩ = false := (hf3.frozen (by simp; try omega) (by simp only [List.mem_singleton]; omega)).trans (by go_simp); have fm1 : V3.frozen? ⟨V1.heap.size, 1, none⟩ = false := (hf3.frozen (by simp; try omega) (by simp only [List.mem_singleton]; omega)).trans (by go_simp); have lmV3 : V1.heap.size < V3.heap.size := World.block_lt_of_cell? _ _ m0; have hk3 : Below w.heap.size w V3 := below_only (bl_trans hk2 (by repeat' (first | exact bl_refl _ | refine bl_alloc ?_ _ | refine bl_drew ?_))) hf3 (lies1 (w.heap.size + 1)) (by omega); have lg3 := hc3.lt) | (go_at_call 19; refine (among_any (w.heap.size + 1) _ _ _ _ [0, (d.Open.size : Int), p2, p3, (d.Open.size : Int) - 1, (d.Open.size : Int) + 1, -1] _ (hc3.below (by repeat' (first | exact bl_refl _ | refine bl_alloc ?_ _ | refine bl_drew ?_))) (by omega) (by exact sl_lit' (by simp) rfl rfl) (by omega) (by omega) (by rintro b o h _; injection h with h; injection h with h1; omega)).mono ?_; rintro e V4 ⟨k, rfl, hkk, hc4, hf4⟩; have r0 : V4.cell? ⟨w.heap.size, 0, none⟩ = some (.string ⟨#[]⟩) := hf4.keeps (by go_simp) (by simp only [List.mem_singleton]; omega); have r1 : V4.cell? ⟨w.heap.size, 1, none⟩ = some (.string ⟨#[]⟩) := hf4.keeps (by go_simp) (by simp only [List.mem_singleton]; omega); have fr0 : V4.frozen? ⟨w.heap.size, 0, none⟩ = false := (hf4.frozen (by simp; try omega) (by simp only [List.mem_singleton]; omega)).trans (by go_simp); have fr1 : V4.frozen? ⟨w.heap.size, 1, none⟩ = false := (hf4.frozen (by simp; try omega) (by simp only [List.mem_singleton]; omega)).trans (by go_simp); have lrV4 : w.heap.size < V4.heap.size := World.block_lt_of_cell? _ _ r0; have m0 : V4.cell? ⟨V1.heap.size, 0, none⟩ = some (.string d.Safe) := hf4.keeps (by go_simp) (by simp only [List.mem_singleton]; omega); have m1 : V4.cell? ⟨V1.heap.size, 1, none⟩ = some (.string d.Open) := hf4.keeps (by go_simp) (by simp only [List.mem_singleton]; omega); have fm0 : V4.frozen? ⟨V1.heap.size, 0, none⟩ = false := (hf4.frozen (by simp; try omega) (by simp only [List.mem_singleton]; omega)).trans (by go_simp); have fm1 : V4.frozen? ⟨V1.heap.size, 1, none⟩ = false := (hf4.frozen (by simp; try omega) (by simp only [List.mem_singleton]; omega)).trans (by go_simp); have lmV4 : V1.heap.size < V4.heap.size := World.block_lt_of_cell? _ _ m0; have hk4 : Below w.heap.size w V4 := below_only (bl_trans hk3 (by repeat' (first | exact bl_refl _ | refine bl_alloc ?_ _ | refine bl_drew ?_))) hf4 (lies1 (w.heap.size + 1)) (by omega); have lg4 := hc4.lt))
  go_wp2
  refine bodyPost_ret (v := .tuple #[.agg #[.string d.Safe, .string d.Open], .int .i64 k]) (by simp [results, Tryd.results4, go_sem, r0, r1]; try rfl) rfl ?_
  refine ⟨d, k, rfl, hsz, ?_, ?_⟩
  · have q2 := hp2.2 (by omega)
    have q3 := hp3.2 (by omega)
    have q20 := hp2.1
    have q30 := hp3.1
    simp only [List.mem_cons, List.not_mem_nil, or_false] at hkk
    rcases hkk with rfl | rfl | rfl | rfl | rfl | rfl | rfl <;> omega
  · repeat' (first | exact hk4 | refine bl_set ?_ (Nat.le_refl _) _)
end Go.Proofs.YtadkhmlpmdcbpaaDoor
