/-
  RecoverDiary: both texts. No conditions.
-/
import Derived.Test.YtadkhmlpmdcbpaaDoorJnD0
namespace Go.Proofs.YtadkhmlpmdcbpaaDoor
open Go.RowKit

set_option maxHeartbeats 1000000 in
theorem specRecoverDiary_any (s : ByteArray) (w : World) (hs : s.size ≤ 1048576) :
    Calls Tryd.prog 13 #[.string s] w fun e w' => e = .returned (.tuple #[.agg #[.string (reF s).1.Safe, .string (reF s).1.Open], .bool (reF s).2]) ∧ Below w.heap.size w w' := by
  by_cases h3 : s.size ≤ 3000
  · obtain ⟨n, hn⟩ : ∃ n, n = (rd 40 0 s.data.toList).2 := ⟨_, rfl⟩
    have hns : n ≤ s.size := by rw [hn, ← ba_len s]; exact (rd_le 40 0 _).2.1
    have q : Hid (reF s = (⟨s.extract 0 n, ByteArray.empty⟩, true)) := by rw [Hid, reF, if_pos h3, hn]
    have HN := Lib.hid hn
    have g0 : (0 : Int) ≤ (n : Int) := by omega
    have g1 : (n : Int) ≤ (s.size : Int) := by omega
    have k1 : decide ((s.size : Int) > 3000) = false := by simp; omega
    clear hn
    go_enter Tryd.func13, Tryd.ntmps13
    have hk0 := bl_refl w
    go_wp2_with fail
    refine (jnRead_any s _ hs).mono ?_
    rintro e V1 ⟨A1, c1, rfl, ho1, hb1⟩
    have hB1 := bl_trans (a := w) (by repeat' (first | exact bl_refl _ | refine bl_alloc ?_ _ | refine bl_drew ?_ | refine bl_drewN ?_ _ | refine bl_set ?_ ?_ _ | (simp; done) | (simp; omega))) hb1
    have hk1 := bl_trans hk0 hB1
    have z1 : Hid (w.heap.size + 1 ≤ V1.heap.size) := by have := hb1.size; simp only [World.size_alloc] at this; exact (by omega : _)
    have br_0_1 : V1.cell? ⟨w.heap.size, 0, none⟩ = some (.string ⟨#[]⟩) := cell_later hb1 (by go_simp)
    have qr_0_1 : V1.frozen? ⟨w.heap.size, 0, none⟩ = false := frozen_later hb1 (by simp) (by go_simp)
    have br_1_1 : V1.cell? ⟨w.heap.size, 1, none⟩ = some (.string ⟨#[]⟩) := cell_later hb1 (by go_simp)
    have qr_1_1 : V1.frozen? ⟨w.heap.size, 1, none⟩ = false := frozen_later hb1 (by simp) (by go_simp)
    have lr_1 : w.heap.size < V1.heap.size := World.block_lt_of_cell? _ _ br_0_1
    clear hb1 ho1
    rw [← HN.out]
    go_wp2
    refine bodyPost_ret (v := .tuple #[.agg #[.string (s.extract 0 n), .string ByteArray.empty], .bool true]) (by simp [results, Tryd.results13, go_sem, br_0_1, br_1_1]; try rfl) rfl ?_
    exact ⟨ret_db q.out, (by repeat' (first | exact hk1 | refine bl_alloc ?_ _ | refine bl_drew ?_ | refine bl_drewN ?_ _ | refine bl_set ?_ (by simp only []; omega) _))⟩
  · have q : Hid (reF s = (⟨ByteArray.empty, ByteArray.empty⟩, false)) := by rw [Hid, reF, if_neg h3]
    have k1 : decide ((s.size : Int) > 3000) = true := by simp; omega
    go_enter Tryd.func13, Tryd.ntmps13
    have hk0 := bl_refl w
    go_wp2
    go_returns
    exact ⟨ret_db q.out, (by repeat' (first | exact bl_refl _ | refine bl_alloc ?_ _ | refine bl_drew ?_ | refine bl_drewN ?_ _ | refine bl_set ?_ ?_ _ | (simp; done) | (simp; omega)))⟩
set_option maxHeartbeats 1000000 in
theorem implRecoverDiary_any (s : ByteArray) (w : World) (hs : s.size ≤ 1048576) (he : Env w) :
    Calls Tryd.prog 12 #[.string s] w fun e w' => e = .returned (.tuple #[.agg #[.string (reF s).1.Safe, .string (reF s).1.Open], .bool (reF s).2]) ∧ Below w.heap.size w w' := by
  by_cases h3 : s.size ≤ 3000
  · obtain ⟨n, hn⟩ : ∃ n, n = (rd 40 0 s.data.toList).2 := ⟨_, rfl⟩
    have hns : n ≤ s.size := by rw [hn, ← ba_len s]; exact (rd_le 40 0 _).2.1
    have q : Hid (reF s = (⟨s.extract 0 n, ByteArray.empty⟩, true)) := by rw [Hid, reF, if_pos h3, hn]
    have HN := Lib.hid hn
    have g0 : (0 : Int) ≤ (n : Int) := by omega
    have g1 : (n : Int) ≤ (s.size : Int) := by omega
    have k1 : decide ((s.size : Int) > 3000) = false := by simp; omega
    clear hn
    go_enter Tryd.func12, Tryd.ntmps12
    have hk0 := bl_refl w
    go_wp2_with fail
    refine (readStates0 s _ hs (he.below (bl_trans hk0 (by repeat' (first | exact bl_refl _ | refine bl_alloc ?_ _ | refine bl_drew ?_ | refine bl_drewN ?_ _ | refine bl_set ?_ ?_ _ | (simp; done) | (simp; omega)))))).mono ?_
    rintro e V1 ⟨A1, c1, rfl, ho1, hb1⟩
    have hB1 := bl_trans (a := w) (by repeat' (first | exact bl_refl _ | refine bl_alloc ?_ _ | refine bl_drew ?_ | refine bl_drewN ?_ _ | refine bl_set ?_ ?_ _ | (simp; done) | (simp; omega))) hb1
    have hk1 := bl_trans hk0 hB1
    have z1 : Hid (w.heap.size + 1 ≤ V1.heap.size) := by have := hb1.size; simp only [World.size_alloc] at this; exact (by omega : _)
    have br_0_1 : V1.cell? ⟨w.heap.size, 0, none⟩ = some (.string ⟨#[]⟩) := cell_later hb1 (by go_simp)
    have qr_0_1 : V1.frozen? ⟨w.heap.size, 0, none⟩ = false := frozen_later hb1 (by simp) (by go_simp)
    have br_1_1 : V1.cell? ⟨w.heap.size, 1, none⟩ = some (.string ⟨#[]⟩) := cell_later hb1 (by go_simp)
    have qr_1_1 : V1.frozen? ⟨w.heap.size, 1, none⟩ = false := frozen_later hb1 (by simp) (by go_simp)
    have lr_1 : w.heap.size < V1.heap.size := World.block_lt_of_cell? _ _ br_0_1
    clear hb1 ho1
    rw [← HN.out]
    go_wp2
    refine bodyPost_ret (v := .tuple #[.agg #[.string (s.extract 0 n), .string ByteArray.empty], .bool true]) (by simp [results, Tryd.results12, go_sem, br_0_1, br_1_1]; try rfl) rfl ?_
    exact ⟨ret_db q.out, (by repeat' (first | exact hk1 | refine bl_alloc ?_ _ | refine bl_drew ?_ | refine bl_drewN ?_ _ | refine bl_set ?_ (by simp only []; omega) _))⟩
  · have q : Hid (reF s = (⟨ByteArray.empty, ByteArray.empty⟩, false)) := by rw [Hid, reF, if_neg h3]
    have k1 : decide ((s.size : Int) > 3000) = true := by simp; omega
    go_enter Tryd.func12, Tryd.ntmps12
    have hk0 := bl_refl w
    go_wp2
    go_returns
    exact ⟨ret_db q.out, (by repeat' (first | exact bl_refl _ | refine bl_alloc ?_ _ | refine bl_drew ?_ | refine bl_drewN ?_ _ | refine bl_set ?_ ?_ _ | (simp; done) | (simp; omega)))⟩

end Go.Proofs.YtadkhmlpmdcbpaaDoor
