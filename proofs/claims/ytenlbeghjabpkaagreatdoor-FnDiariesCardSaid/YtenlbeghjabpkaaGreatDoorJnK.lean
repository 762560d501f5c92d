/-
  Diaries: the program's states. No conditions.
-/
import Derived.Test.YtenlbeghjabpkaaGreatDoorJnJ0
import Derived.Test.YtenlbeghjabpkaaGreatDoorMem4
namespace Go.Proofs.YtenlbeghjabpkaaGreatDoor
open Go.RowKit

set_option maxHeartbeats 4000000 in
theorem statesOf_any (d : Diary) (w : World) (hs : d.Safe.size ≤ 1048576) (ho : d.Open.size ≤ 1048576) (he : Env w) :
    Calls Tryz.prog 25 #[.agg #[.string d.Safe, .string d.Open]] w (RetOwn2 w 26 (stF d)) := by
  obtain ⟨a, ha⟩ : ∃ a, a = (rd 40 0 d.Safe.data.toList).1 := ⟨_, rfl⟩
  obtain ⟨r1, hr1⟩ : ∃ r, r = (rd 40 0 d.Safe.data.toList).2 := ⟨_, rfl⟩
  have hal : a.length ≤ 40 := by rw [ha]; exact (rd_le 40 0 _).1
  obtain ⟨b, hbb⟩ : ∃ b, b = (rd (40 - a.length) (a.length : Int) d.Open.data.toList).1 := ⟨_, rfl⟩
  obtain ⟨r2, hr2⟩ : ∃ r, r = (rd (40 - a.length) (a.length : Int) d.Open.data.toList).2 := ⟨_, rfl⟩
  have hbl : b.length ≤ 40 := by rw [hbb]; exact Nat.le_trans (rd_le _ _ _).1 (by omega)
  have hB : openB d.Safe d.Open = (decide (r1 = d.Safe.size) && decide (r2 = d.Open.size)) := by rw [hr1, hr2, ha]; rfl
  have hS : r1 = d.Safe.size → statesB d.Safe d.Open = a ++ b := fun h => by rw [statesB, open_all (by rw [← hr1]; exact h), hbb, ha]
  have HB := Lib.hid hB
  have HS := Lib.hid hS
  have HA := Lib.hid ha
  have HBB := Lib.hid hbb
  have R1 := Lib.hid hr1
  have R2 := Lib.hid hr2
  clear hB hS ha hbb hr1 hr2
  go_enter Tryz.func25, Tryz.ntmps25
  have hk0 := bl_refl w
  go_wp2_with fail
  refine (readStates0 d.Safe _ hs (he.below (bl_trans hk0 (by repeat' (first | exact bl_refl _ | refine bl_alloc ?_ _ | refine bl_drew ?_ | refine bl_drewN ?_ _ | refine bl_set ?_ ?_ _ | (simp; done) | (simp; omega)))))).mono ?_
  rintro e V1 ⟨A1, c1, rfl, ho1, hb1⟩
  have hB1 := bl_trans (a := w) (by repeat' (first | exact bl_refl _ | refine bl_alloc ?_ _ | refine bl_drew ?_ | refine bl_drewN ?_ _ | refine bl_set ?_ ?_ _ | (simp; done) | (simp; omega))) hb1
  have hk1 := bl_trans hk0 hB1
  have z1 : Hid (w.heap.size + 1 ≤ V1.heap.size) := by have := hb1.size; simp only [World.size_alloc] at this; exact (by omega : _)
  have bx_0_1 : V1.cell? ⟨w.heap.size, 0, none⟩ = some (.string d.Safe) := cell_later hb1 (by go_simp)
  have bx_1_1 : V1.cell? ⟨w.heap.size, 1, none⟩ = some (.string d.Open) := cell_later hb1 (by go_simp)
  have lx_1 : w.heap.size < V1.heap.size := World.block_lt_of_cell? _ _ bx_0_1
  rw [← HA.out] at ho1 ⊢
  rw [← R1.out]
  have hx1 := ho1
  have hbA := hb1
  clear ho1 hb1
  go_wp2_with fail
  refine (readStates_any d.Open a.length _ ho hal (he.below hk1)).mono ?_
  rintro e V2 ⟨A2, c2, rfl, ho2, hb2⟩
  have hB2 := bl_trans (a := V1) (bl_refl _) hb2
  have hk2 := bl_trans hk1 hB2
  have z2 := Lib.hid hB2.size
  have o_2 := hx1.below hB2
  have bx_0_2 : V2.cell? ⟨w.heap.size, 0, none⟩ = some (.string d.Safe) := cell_later hB2 bx_0_1
  have bx_1_2 : V2.cell? ⟨w.heap.size, 1, none⟩ = some (.string d.Open) := cell_later hB2 bx_1_1
  have lx_2 : w.heap.size < V2.heap.size := World.block_lt_of_cell? _ _ bx_0_2
  clear hk1 hx1 bx_0_1 bx_1_1 lx_1
  rw [← HBB.out] at ho2 ⊢
  rw [← R2.out]
  have hkX := bl_trans hbA hB2
  clear hb2 hbA
  by_cases e1 : r1 = d.Safe.size
  · have e1' : decide ((r1 : Int) = (d.Safe.size : Int)) = true := by simp; omega
    have e1'' : ((r1 : Int) == (d.Safe.size : Int)) = true := by simp; omega
    have e13 : ((r1 : Int) != (d.Safe.size : Int)) = false := by simp; omega
    by_cases e2 : r2 = d.Open.size
    · have e2' : decide ((r2 : Int) = (d.Open.size : Int)) = true := by simp; omega
      have e2'' : ((r2 : Int) == (d.Open.size : Int)) = true := by simp; omega
      have e23 : ((r2 : Int) != (d.Open.size : Int)) = false := by simp; omega
      have HF : Hid (stF d = (a ++ b, true)) := by rw [Hid, stF_yes (by rw [HB.out]; simp [e1, e2]), HS.out e1]
      clear e1 e2
      go_wp2_with ((at_builtin; refine wpList_appN rfl (.tmp 34) (.tmp 35) _ _ rfl el_stateJ (xs := a) (ys := b) rfl o_2 hkX rfl ho2.sl (by omega) ?_; intro A3 c3 w3 ho3 hb3 hg3))
      go_ret2
      have hl3 := ho3.sl.1
      exact retOwn2_mk HF.out (ho3.mono (by simp)) (bl_trans (bl_alloc (bl_refl w) _) hb3)
    · have e2' : decide ((r2 : Int) = (d.Open.size : Int)) = false := by simp; omega
      have e2'' : ((r2 : Int) == (d.Open.size : Int)) = false := by simp; omega
      have e23 : ((r2 : Int) != (d.Open.size : Int)) = true := by simp; omega
      have HF : Hid (stF d = ([], false)) := stF_no (by rw [HB.out]; simp [e2])
      clear e1 e2
      go_wp2
      go_ret2
      exact retOwn2_mk HF.out (Own.nil _ _ _) hk2
  · have e1' : decide ((r1 : Int) = (d.Safe.size : Int)) = false := by simp; omega
    have e1'' : ((r1 : Int) == (d.Safe.size : Int)) = false := by simp; omega
    have e13 : ((r1 : Int) != (d.Safe.size : Int)) = true := by simp; omega
    have HF : Hid (stF d = ([], false)) := stF_no (by rw [HB.out]; simp [e1])
    clear e1
    go_wp2
    go_ret2
    exact retOwn2_mk HF.out (Own.nil _ _ _) hk2

end Go.Proofs.YtenlbeghjabpkaaGreatDoor
