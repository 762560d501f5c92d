/-
  Diaries: the reference's tests. No conditions.
-/
import Derived.Test.YtenlbeghjabpkaaGreatDoorJnJ0
namespace Go.Proofs.YtenlbeghjabpkaaGreatDoor
open Go.RowKit

set_option maxHeartbeats 4000000 in
theorem jnOpen_any (d : Diary) (w : World) (hs : d.Safe.size ≤ 1048576) (ho : d.Open.size ≤ 1048576) :
    Calls Tryz.prog 28 #[.agg #[.string d.Safe, .string d.Open]] w fun e w' => e = .returned (.bool (openB d.Safe d.Open)) ∧ Below w.heap.size w w' := by
  have hls : d.Safe.size ≤ 1048576 := hs
  by_cases h1 : d.Safe.size ≤ 3000
  · by_cases h2 : d.Open.size ≤ 3000
    · have k1 : decide ((d.Safe.size : Int) > 3000) = false := by simp; omega
      have k2 : decide ((d.Open.size : Int) > 3000) = false := by simp; omega
      obtain ⟨r1, hr1⟩ : ∃ r, r = (rd 40 0 d.Safe.data.toList).2 := ⟨_, rfl⟩
      obtain ⟨r2, hr2⟩ : ∃ r, r = (rd 40 0 (d.Safe ++ d.Open).data.toList).2 := ⟨_, rfl⟩
      have hz : (d.Safe ++ d.Open).size ≤ 1048576 := by rw [ba_size_app]; omega
      have hB : openB d.Safe d.Open = (decide (r1 = d.Safe.size) && decide (r2 = d.Safe.size + d.Open.size)) := by rw [open_spec, hr1, hr2]; simp [h1, h2]
      have HB := Lib.hid hB
      have R1 := Lib.hid hr1
      have R2 := Lib.hid hr2
      clear hB hr1 hr2
      go_enter Tryz.func28, Tryz.ntmps28
      have hk0 := bl_refl w
      go_wp2_with fail
      refine (jnRead_any d.Safe _ hs).mono ?_
      rintro e V1 ⟨A1, c1, rfl, ho1, hb1⟩
      have hB1 := bl_trans (a := w) (by repeat' (first | exact bl_refl _ | refine bl_alloc ?_ _ | refine bl_drew ?_ | refine bl_drewN ?_ _ | refine bl_set ?_ ?_ _ | (simp; done) | (simp; omega))) hb1
      have hk1 := bl_trans hk0 hB1
      have z1 : Hid (w.heap.size + 1 ≤ V1.heap.size) := by have := hb1.size; simp only [World.size_alloc] at this; exact (by omega : _)
      have ba_0_1 : V1.cell? ⟨w.heap.size, 0, none⟩ = some (.string d.Safe) := cell_later hb1 (by go_simp)
      have ba_1_1 : V1.cell? ⟨w.heap.size, 1, none⟩ = some (.string d.Open) := cell_later hb1 (by go_simp)
      have la_1 : w.heap.size < V1.heap.size := World.block_lt_of_cell? _ _ ba_0_1
      clear ho1 hb1
      go_wp2_with fail
      refine (jnRead_any (d.Safe ++ d.Open) _ hz).mono ?_
      rintro e V2 ⟨A2, c2, rfl, ho2, hb2⟩
      have hB2 := bl_trans (a := V1) (bl_refl _) hb2
      have hk2 := bl_trans hk1 hB2
      have z2 := Lib.hid hB2.size
      have ba_0_2 : V2.cell? ⟨w.heap.size, 0, none⟩ = some (.string d.Safe) := cell_later hB2 ba_0_1
      have ba_1_2 : V2.cell? ⟨w.heap.size, 1, none⟩ = some (.string d.Open) := cell_later hB2 ba_1_1
      have la_2 : w.heap.size < V2.heap.size := World.block_lt_of_cell? _ _ ba_0_2
      clear hk1 ba_0_1 ba_1_1 la_1
      clear ho2 hb2
      rw [← R1.out, ← R2.out]
      by_cases e1 : r1 = d.Safe.size
      · have e1' : decide ((r1 : Int) = (d.Safe.size : Int)) = true := by simp; omega
        have e1'' : ((r1 : Int) == (d.Safe.size : Int)) = true := by simp; omega
        have e13 : ((r1 : Int) != (d.Safe.size : Int)) = false := by simp; omega
        by_cases e2 : r2 = d.Safe.size + d.Open.size
        · have e2' : decide ((r2 : Int) = ((d.Safe.size : Int) + (d.Open.size : Int))) = true := by simp; omega
          have e2'' : ((r2 : Int) == ((d.Safe.size : Int) + (d.Open.size : Int))) = true := by simp; omega
          have e23 : ((r2 : Int) != ((d.Safe.size : Int) + (d.Open.size : Int))) = false := by simp; omega
          have HF : Hid (openB d.Safe d.Open = true) := by rw [Hid, HB.out]; simp [e1, e2]
          clear e1 e2
          go_wp2
          go_ret
          exact ⟨ret_bool HF.out.symm, hk2⟩
        · have e2' : decide ((r2 : Int) = ((d.Safe.size : Int) + (d.Open.size : Int))) = false := by simp; omega
          have e2'' : ((r2 : Int) == ((d.Safe.size : Int) + (d.Open.size : Int))) = false := by simp; omega
          have e23 : ((r2 : Int) != ((d.Safe.size : Int) + (d.Open.size : Int))) = true := by simp; omega
          have HF : Hid (openB d.Safe d.Open = false) := by rw [Hid, HB.out]; simp [e1, e2]
          clear e1 e2
          go_wp2
          go_ret
          exact ⟨ret_bool HF.out.symm, hk2⟩
      · have e1' : decide ((r1 : Int) = (d.Safe.size : Int)) = false := by simp; omega
        have e1'' : ((r1 : Int) == (d.Safe.size : Int)) = false := by simp; omega
        have e13 : ((r1 : Int) != (d.Safe.size : Int)) = true := by simp; omega
        have HF : Hid (openB d.Safe d.Open = false) := by rw [Hid, HB.out]; simp [e1]
        clear e1
        go_wp2
        go_ret
        exact ⟨ret_bool HF.out.symm, hk2⟩
    · have HF : Hid (openB d.Safe d.Open = false) := by rw [Hid, open_spec]; simp [h2]
      have k1 : decide ((d.Safe.size : Int) > 3000) = false := by simp; omega
      have k2 : decide ((d.Open.size : Int) > 3000) = true := by simp; omega
      go_enter Tryz.func28, Tryz.ntmps28
      have hk0 := bl_refl w
      go_wp2
      go_ret
      exact ⟨ret_bool HF.out.symm, bl_alloc (bl_refl _) _⟩
  · have HF : Hid (openB d.Safe d.Open = false) := by rw [Hid, open_spec]; simp [h1]
    have k1 : decide ((d.Safe.size : Int) > 3000) = true := by simp; omega
    go_enter Tryz.func28, Tryz.ntmps28
    have hk0 := bl_refl w
    go_wp2
    go_ret
    exact ⟨ret_bool HF.out.symm, bl_alloc (bl_refl _) _⟩
set_option maxHeartbeats 4000000 in
theorem jnStates_any (d : Diary) (w : World) (hs : d.Safe.size ≤ 3000) (ho : d.Open.size ≤ 3000) :
    Calls Tryz.prog 30 #[.agg #[.string d.Safe, .string d.Open]] w (RetOwn w 26 (statesB d.Safe d.Open)) := by
  have hz : (d.Safe ++ d.Open).size ≤ 1048576 := by rw [ba_size_app]; omega
  have hz2 : d.Safe.size + d.Open.size ≤ 1048576 := by omega
  go_enter Tryz.func30, Tryz.ntmps30
  have hk0 := bl_refl w
  go_wp2_with fail
  refine (jnRead_any (d.Safe ++ d.Open) _ hz).mono ?_
  rintro e V1 ⟨A2, c2, rfl, ho2, hb1⟩
  have hB1 := bl_trans (a := w) (by repeat' (first | exact bl_refl _ | refine bl_alloc ?_ _ | refine bl_drew ?_ | refine bl_drewN ?_ _ | refine bl_set ?_ ?_ _ | (simp; done) | (simp; omega))) hb1
  have hk1 := bl_trans hk0 hB1
  have z1 : Hid (w.heap.size + 1 ≤ V1.heap.size) := by have := hb1.size; simp only [World.size_alloc] at this; exact (by omega : _)
  have ba_0_1 : V1.cell? ⟨w.heap.size, 0, none⟩ = some (.string d.Safe) := cell_later hb1 (by go_simp)
  have ba_1_1 : V1.cell? ⟨w.heap.size, 1, none⟩ = some (.string d.Open) := cell_later hb1 (by go_simp)
  have la_1 : w.heap.size < V1.heap.size := World.block_lt_of_cell? _ _ ba_0_1
  clear hb1
  go_wp2
  go_ret
  exact ⟨A2, c2, rfl, ho2.mono (by simp), hk1⟩

end Go.Proofs.YtenlbeghjabpkaaGreatDoor
