/-
  WriteState: the program's text. No conditions.
-/
import Derived.Test.YtenlbeghjabpkaaGreatDoorJnWs
namespace Go.Proofs.YtenlbeghjabpkaaGreatDoor
open Go.RowKit

set_option maxRecDepth 100000 in
set_option maxHeartbeats 4000000 in
theorem implWriteState_any (d : Diary) (x : State) (w : World) (hz : d.Safe.size + d.Open.size ≤ 1048576) (hx : x.Name.size ≤ maxLen) (he : Env w) :
    Calls Tryz.prog 5 #[.agg #[.string d.Safe, .string d.Open], .agg #[.string x.Name, .int .i64 x.Value]] w fun e w' => e = .returned (.tuple #[.agg #[.string (wsF d x).1.Safe, .string (wsF d x).1.Open], .bool (wsF d x).2]) ∧ Below w.heap.size w w' := by
  go_enter Tryz.func5, Tryz.ntmps5
  have hk0 := bl_refl w
  cases h : openB d.Safe d.Open
  · have HH := Lib.hid h
    clear h
    go_wp2_with fail
    refine (statesOf_no d _ hz (he.below (bl_trans hk0 (by repeat' (first | exact bl_refl _ | refine bl_alloc ?_ _ | refine bl_drew ?_ | refine bl_drewN ?_ _ | refine bl_set ?_ ?_ _ | (simp; done) | (simp; omega))))) HH.out).mono ?_
    rintro e V1 ⟨A1, c1, rfl, hb1⟩
    have hB1 := bl_trans (a := w) (by repeat' (first | exact bl_refl _ | refine bl_alloc ?_ _ | refine bl_drew ?_ | refine bl_drewN ?_ _ | refine bl_set ?_ ?_ _ | (simp; done) | (simp; omega))) hb1
    have hk1 := bl_trans hk0 hB1
    have z1 : Hid (w.heap.size + 3 ≤ V1.heap.size) := by have := hb1.size; simp only [World.size_alloc] at this; exact (by omega : _)
    have ba_0_1 : V1.cell? ⟨w.heap.size, 0, none⟩ = some (.string d.Safe) := cell_later hb1 (by go_simp)
    have ba_1_1 : V1.cell? ⟨w.heap.size, 1, none⟩ = some (.string d.Open) := cell_later hb1 (by go_simp)
    have la_1 : w.heap.size < V1.heap.size := World.block_lt_of_cell? _ _ ba_0_1
    have bs_0_1 : V1.cell? ⟨w.heap.size + 1, 0, none⟩ = some (.string x.Name) := cell_later hb1 (by go_simp)
    have bs_1_1 : V1.cell? ⟨w.heap.size + 1, 1, none⟩ = some (.int .i64 x.Value) := cell_later hb1 (by go_simp)
    have ls_1 : w.heap.size + 1 < V1.heap.size := World.block_lt_of_cell? _ _ bs_0_1
    have br_0_1 : V1.cell? ⟨w.heap.size + 2, 0, none⟩ = some (.string ⟨#[]⟩) := cell_later hb1 (by go_simp)
    have qr_0_1 : V1.frozen? ⟨w.heap.size + 2, 0, none⟩ = false := frozen_later hb1 (by simp) (by go_simp)
    have br_1_1 : V1.cell? ⟨w.heap.size + 2, 1, none⟩ = some (.string ⟨#[]⟩) := cell_later hb1 (by go_simp)
    have qr_1_1 : V1.frozen? ⟨w.heap.size + 2, 1, none⟩ = false := frozen_later hb1 (by simp) (by go_simp)
    have lr_1 : w.heap.size + 2 < V1.heap.size := World.block_lt_of_cell? _ _ br_0_1
    clear hb1
    have h := HH.out
    have O1 := Lib.hid h
    clear h
    have q := Lib.hid (wsF_no (d := d) (x := x) (by rw [O1.out, Bool.false_and, Bool.false_and]))
    go_wp2
    refine bodyPost_ret (v := .tuple #[.agg #[.string ByteArray.empty, .string ByteArray.empty], .bool false]) (by simp [results, Tryz.results5, go_sem, br_0_1, br_1_1]; try rfl) rfl ?_
    exact ⟨ret_db q.out, (by repeat' (first | exact hk1 | refine bl_alloc ?_ _ | refine bl_drew ?_ | refine bl_drewN ?_ _ | refine bl_set ?_ (by simp only []; omega) _))⟩
  · have HH := Lib.hid h
    clear h
    go_wp2_with fail
    refine (statesOf_yes d _ hz (he.below (bl_trans hk0 (by repeat' (first | exact bl_refl _ | refine bl_alloc ?_ _ | refine bl_drew ?_ | refine bl_drewN ?_ _ | refine bl_set ?_ ?_ _ | (simp; done) | (simp; omega))))) HH.out).mono ?_
    rintro e V2 ⟨A1, c1, rfl, ho1, hb2⟩
    have hB2 := bl_trans (a := w) (by repeat' (first | exact bl_refl _ | refine bl_alloc ?_ _ | refine bl_drew ?_ | refine bl_drewN ?_ _ | refine bl_set ?_ ?_ _ | (simp; done) | (simp; omega))) hb2
    have hk2 := bl_trans hk0 hB2
    have z2 : Hid (w.heap.size + 3 ≤ V2.heap.size) := by have := hb2.size; simp only [World.size_alloc] at this; exact (by omega : _)
    have ba_0_2 : V2.cell? ⟨w.heap.size, 0, none⟩ = some (.string d.Safe) := cell_later hb2 (by go_simp)
    have ba_1_2 : V2.cell? ⟨w.heap.size, 1, none⟩ = some (.string d.Open) := cell_later hb2 (by go_simp)
    have la_2 : w.heap.size < V2.heap.size := World.block_lt_of_cell? _ _ ba_0_2
    have bs_0_2 : V2.cell? ⟨w.heap.size + 1, 0, none⟩ = some (.string x.Name) := cell_later hb2 (by go_simp)
    have bs_1_2 : V2.cell? ⟨w.heap.size + 1, 1, none⟩ = some (.int .i64 x.Value) := cell_later hb2 (by go_simp)
    have ls_2 : w.heap.size + 1 < V2.heap.size := World.block_lt_of_cell? _ _ bs_0_2
    have br_0_2 : V2.cell? ⟨w.heap.size + 2, 0, none⟩ = some (.string ⟨#[]⟩) := cell_later hb2 (by go_simp)
    have qr_0_2 : V2.frozen? ⟨w.heap.size + 2, 0, none⟩ = false := frozen_later hb2 (by simp) (by go_simp)
    have br_1_2 : V2.cell? ⟨w.heap.size + 2, 1, none⟩ = some (.string ⟨#[]⟩) := cell_later hb2 (by go_simp)
    have qr_1_2 : V2.frozen? ⟨w.heap.size + 2, 1, none⟩ = false := frozen_later hb2 (by simp) (by go_simp)
    have lr_2 : w.heap.size + 2 < V2.heap.size := World.block_lt_of_cell? _ _ br_0_2
    clear hb2
    have h := HH.out
    have O1 := Lib.hid h
    clear h
    obtain ⟨L, hL⟩ : ∃ L, L = (statesB d.Safe d.Open).length := ⟨_, rfl⟩
    have hL40 : L ≤ 40 := by rw [hL]; exact states_len _ _
    have HL : Hid ((statesB d.Safe d.Open).length = L) := hL.symm
    rw [← hL]
    clear hL ho1
    go_wp2_with fail
    refine (isDiaryState_any x _ hx).mono ?_
    rintro e V3 ⟨rfl, hb3⟩
    have hB3 := bl_trans (a := V2) (bl_refl _) hb3
    have hk3 := bl_trans hk2 hB3
    have z3 := Lib.hid hB3.size
    have ba_0_3 : V3.cell? ⟨w.heap.size, 0, none⟩ = some (.string d.Safe) := cell_later hB3 ba_0_2
    have ba_1_3 : V3.cell? ⟨w.heap.size, 1, none⟩ = some (.string d.Open) := cell_later hB3 ba_1_2
    have la_3 : w.heap.size < V3.heap.size := World.block_lt_of_cell? _ _ ba_0_3
    have bs_0_3 : V3.cell? ⟨w.heap.size + 1, 0, none⟩ = some (.string x.Name) := cell_later hB3 bs_0_2
    have bs_1_3 : V3.cell? ⟨w.heap.size + 1, 1, none⟩ = some (.int .i64 x.Value) := cell_later hB3 bs_1_2
    have ls_3 : w.heap.size + 1 < V3.heap.size := World.block_lt_of_cell? _ _ bs_0_3
    have br_0_3 : V3.cell? ⟨w.heap.size + 2, 0, none⟩ = some (.string ⟨#[]⟩) := cell_later hB3 br_0_2
    have qr_0_3 : V3.frozen? ⟨w.heap.size + 2, 0, none⟩ = false := frozen_later hB3 (World.block_lt_of_cell? _ _ br_0_2) qr_0_2
    have br_1_3 : V3.cell? ⟨w.heap.size + 2, 1, none⟩ = some (.string ⟨#[]⟩) := cell_later hB3 br_1_2
    have qr_1_3 : V3.frozen? ⟨w.heap.size + 2, 1, none⟩ = false := frozen_later hB3 (World.block_lt_of_cell? _ _ br_1_2) qr_1_2
    have lr_3 : w.heap.size + 2 < V3.heap.size := World.block_lt_of_cell? _ _ br_0_3
    clear hk2 ba_0_2 ba_1_2 la_2 bs_0_2 bs_1_2 ls_2 br_0_2 qr_0_2 br_1_2 qr_1_2 lr_2
    clear hb3
    cases h1 : stateB x
    · have S1 := Lib.hid h1
      clear h1
      have q := Lib.hid (wsF_no (d := d) (x := x) (by rw [S1.out, Bool.and_false, Bool.false_and]))
      go_wp2
      refine bodyPost_ret (v := .tuple #[.agg #[.string ByteArray.empty, .string ByteArray.empty], .bool false]) (by simp [results, Tryz.results5, go_sem, br_0_3, br_1_3]; try rfl) rfl ?_
      exact ⟨ret_db q.out, (by repeat' (first | exact hk3 | refine bl_alloc ?_ _ | refine bl_drew ?_ | refine bl_drewN ?_ _ | refine bl_set ?_ (by simp only []; omega) _))⟩
    · have S1 := Lib.hid h1
      clear h1
      by_cases h4 : L < 40
      · have q : Hid (wsF d x = (⟨d.Safe, d.Open ++ lineB (L : Int) x⟩, true)) := by rw [Hid, wsF_yes (by rw [O1.out, S1.out, HL.out]; simp [h4]), HL.out]
        have hok : okL (L : Int) x = true := by rw [okL, S1.out, inB_yes (by omega) (by omega)]; rfl
        have hll := line_len hok
        have HOK := Lib.hid hok
        clear hok
        have hin : inB (L : Int) 0 39 = true := inB_yes (by omega) (by omega)
        have hne0 : ¬ (w.heap.size = w.heap.size + 1 + 1) := by omega
        have hne1 : ¬ (w.heap.size + 1 + 1 = w.heap.size) := by omega
        have hso : d.Open.size ≤ 1048576 := by omega
        have hadd : ¬ (9223372036854775807 < d.Open.size + (lineB (L : Int) x).size) := by omega
        have k1 : decide ((L : Int) = 40) = false := by simp; omega
        have k2 : ((L : Int) == 40) = false := by simp; omega
        go_upto_region 4 with fail
        go_cut [5] (fun s5 wx => s5 = .bool true ∧ Below w.heap.size w wx ∧ wx.cell? ⟨w.heap.size + 2, 0, none⟩ = some (.string d.Safe) ∧ wx.cell? ⟨w.heap.size + 2, 1, none⟩ = some (.string (d.Open ++ lineB (L : Int) x)))
        case first =>
          go_region_held3 (fun w' => w'.cell? ⟨w.heap.size, 0, none⟩ = some (.string d.Safe) ∧ w'.cell? ⟨w.heap.size, 1, none⟩ = some (.string d.Open) ∧ w'.cell? ⟨w.heap.size + 1, 0, none⟩ = some (.string x.Name) ∧ w'.cell? ⟨w.heap.size + 1, 1, none⟩ = some (.int .i64 x.Value)) (first | exact ⟨cell_later hE ba_0_3, cell_later hE ba_1_3, cell_later hE bs_0_3, cell_later hE bs_1_3⟩ | go_keep) (first | (go_at_call 27; refine (stateLine_any _ _ _ HOK.out (he.tab.below (bl_drew hk3))).mono ?_; rintro e V ⟨rfl, hb⟩; have hE := bl_trans (bl_drew (bl_refl V3)) hb; have e0 := cell_later hE br_0_3; have e1 := cell_later hE br_1_3; have u0 := frozen_later hE (World.block_lt_of_cell? _ _ br_0_3) qr_0_3; have u1 := frozen_later hE (World.block_lt_of_cell? _ _ br_1_3) qr_1_3))
          all_goals (go_wp2_with fail; go_meet; refine ⟨rfl, (by repeat' (first | exact bl_trans hk3 hE | refine bl_drew ?_ | refine bl_set ?_ (by show w.heap.size ≤ w.heap.size + 1 + 1; omega) _)), ?_, ?_⟩; all_goals go_simp)
        case rest =>
          obtain ⟨rfl, hbx, y0, y1⟩ := hcut
          go_wp2
          refine bodyPost_ret (v := .tuple #[.agg #[.string d.Safe, .string (d.Open ++ lineB (L : Int) x)], .bool true]) (by simp [results, Tryz.results5, go_sem, y0, y1]; try rfl) rfl ?_
          exact ⟨ret_db q.out, hbx⟩
      · have hin : inB (L : Int) 0 39 = false := inB_no (.inr (by omega))
        have k1 : decide ((L : Int) = 40) = true := by simp; omega
        have k2 : ((L : Int) == 40) = true := by simp; omega
        have HN : Hid ((openB d.Safe d.Open && stateB x && decide ((statesB d.Safe d.Open).length < 40)) = false) := by rw [Hid, HL.out]; simp [h4]
        have q := Lib.hid (wsF_no (d := d) (x := x) (HN.out))
        go_wp2
        refine bodyPost_ret (v := .tuple #[.agg #[.string ByteArray.empty, .string ByteArray.empty], .bool false]) (by simp [results, Tryz.results5, go_sem, br_0_3, br_1_3]; try rfl) rfl ?_
        exact ⟨ret_db q.out, (by repeat' (first | exact hk3 | refine bl_alloc ?_ _ | refine bl_drew ?_ | refine bl_drewN ?_ _ | refine bl_set ?_ (by simp only []; omega) _))⟩

end Go.Proofs.YtenlbeghjabpkaaGreatDoor
