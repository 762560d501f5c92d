/-
  The reference's reading of a line. No conditions.
-/
import Derived.Deep.RegionHeld3
import Derived.Deep.DeepCutAuto
import Derived.Test.YtenlbeghjabpkaaGreatDoorJnF0
namespace Go.Proofs.YtenlbeghjabpkaaGreatDoor
open Go.RowKit

set_option maxRecDepth 100000 in
set_option maxHeartbeats 4000000 in
theorem jnParse_any (l : ByteArray) (w : World) (hl : l.size ≤ 1048576) : Calls Tryz.prog 41 #[.string l] w (ParsePost l w) := by
  have HC := Lib.hid (@cut_sizes l 61)
  go_enter Tryz.func41, Tryz.ntmps41
  have hk0 := bl_refl w
  go_wp2_with fail
  refine (l1Split_61 l _ hl).mono ?_
  rintro e V1 ⟨A1, c1, rfl, ho1, hb1⟩
  have hB1 := bl_trans (a := w) (by repeat' (first | exact bl_refl _ | refine bl_alloc ?_ _ | refine bl_drew ?_ | refine bl_drewN ?_ _ | refine bl_set ?_ ?_ _ | (simp; done) | (simp; omega))) hb1
  have hk1 := bl_trans hk0 hB1
  have z1 : Hid (w.heap.size + 1 ≤ V1.heap.size) := by have := hb1.size; simp only [World.size_alloc] at this; exact (by omega : _)
  have br_0_1 : V1.cell? ⟨w.heap.size, 0, none⟩ = some (.string ⟨#[]⟩) := cell_later hb1 (by go_simp)
  have qr_0_1 : V1.frozen? ⟨w.heap.size, 0, none⟩ = false := frozen_later hb1 (by simp) (by go_simp)
  have br_1_1 : V1.cell? ⟨w.heap.size, 1, none⟩ = some (.int .i64 0) := cell_later hb1 (by go_simp)
  have qr_1_1 : V1.frozen? ⟨w.heap.size, 1, none⟩ = false := frozen_later hb1 (by simp) (by go_simp)
  have lr_1 : w.heap.size < V1.heap.size := World.block_lt_of_cell? _ _ br_0_1
  by_cases hlen : (cutB 61 l).length = 4
  · obtain ⟨p0, p1, p2, p3, hcut⟩ := parts4 hlen
    have HCUT := Lib.hid hcut
    have hz0 : p0.size ≤ 1048576 := Nat.le_trans (HC.out p0 (by rw [hcut]; simp)) hl
    have hz1 : p1.size ≤ maxLen := by have := HC.out p1 (by rw [hcut]; simp); unfold maxLen; omega
    have hz2 : p2.size ≤ 1048576 := Nat.le_trans (HC.out p2 (by rw [hcut]; simp)) hl
    rw [hlen, hcut] at ho1
    obtain ⟨g, rfl, hgz, c0, c1', c2⟩ := ho1.str3
    clear ho1 hcut
    rw [hlen]
    clear hlen
    obtain ⟨hr0, hr0'⟩ := rdV_bd p0
    obtain ⟨hr2, hr2'⟩ := rdV_bd p2
    clear hb1
    go_upto_region 4 with fail
    go_cut [6, 7] (fun s6 s7 wx => s6 = .int .i64 (rdV p0) ∧ s7 = .pointer (some ⟨V1.heap.size, 0, none⟩) ∧ Below V1.heap.size V1 wx ∧ wx.cell? ⟨V1.heap.size, 0, none⟩ = some (.string p1) ∧ wx.cell? ⟨V1.heap.size, 1, none⟩ = some (.int .i64 (rdV p2)))
    case first =>
      go_region_held3 (fun w' => w'.cell? ⟨g, 0, none⟩ = some (.string p0) ∧ w'.cell? ⟨g, 1, none⟩ = some (.string p1) ∧ w'.cell? ⟨g, 2, none⟩ = some (.string p2)) (go_keep) (first | (go_at_call 59; refine (l1Read_any _ _ (by assumption)).mono ?_; rintro e V ⟨rfl, rfl⟩))
      all_goals (go_wp2_with fail; go_meet; exact ⟨rfl, rfl, bl_drew (bl_alloc (bl_refl _) _), by go_simp, by go_simp⟩)
    case rest =>
      obtain ⟨rfl, rfl, hbx, s0x, s1x⟩ := hcut
      obtain ⟨V2, hV2⟩ : ∃ V, V = wc := ⟨_, rfl⟩
      subst hV2
      have hB2 := bl_trans (a := V1) (bl_refl _) hbx
      have hk2 := bl_trans hk1 hB2
      have z2 := Lib.hid hB2.size
      have br_0_2 : V2.cell? ⟨w.heap.size, 0, none⟩ = some (.string ⟨#[]⟩) := cell_later hB2 br_0_1
      have qr_0_2 : V2.frozen? ⟨w.heap.size, 0, none⟩ = false := frozen_later hB2 (World.block_lt_of_cell? _ _ br_0_1) qr_0_1
      have br_1_2 : V2.cell? ⟨w.heap.size, 1, none⟩ = some (.int .i64 0) := cell_later hB2 br_1_1
      have qr_1_2 : V2.frozen? ⟨w.heap.size, 1, none⟩ = false := frozen_later hB2 (World.block_lt_of_cell? _ _ br_1_1) qr_1_1
      have lr_2 : w.heap.size < V2.heap.size := World.block_lt_of_cell? _ _ br_0_2
      clear hk1 br_0_1 qr_0_1 br_1_1 qr_1_1 lr_1
      clear c0 c1' c2 hgz
      go_wp2_with fail
      refine (jnNumber_any (rdV p0) _).mono ?_
      rintro _ V2 ⟨rfl, rfl⟩
      cases h0 : inB (rdV p0) 0 39
      · have hpn : Hid (parseB l = none) := by
          refine parseB_none fun m y hk e => ?_
          obtain ⟨e0, _, _⟩ := parse_rd HCUT.out hk e
          obtain ⟨⟨y0, y1⟩, _⟩ := okL_bd hk
          rw [e0, inB_iff.2 ⟨y0, y1⟩] at h0; cases h0
        clear h0
        go_wp2
        refine bodyPost_ret (by simp [results, Tryz.results41, go_sem, br_0_2, br_1_2]; try rfl) rfl ?_
        exact parsePost_no hpn.out rfl (by repeat' (first | exact hk2 | refine bl_alloc ?_ _ | refine bl_drew ?_ | refine bl_set ?_ (by simp only []; omega) _))
      · have H0 := Lib.hid h0
        obtain ⟨hi0, hi1⟩ := inB_iff.1 h0
        clear h0
        go_wp2_with fail
        refine (jnState_f p1 (rdV p2) _ hz1).mono ?_
        rintro e V3 ⟨rfl, hb3⟩
        have hB3 := bl_trans (a := V2) (bl_refl _) hb3
        have hk3 := bl_trans hk2 hB3
        have z3 := Lib.hid hB3.size
        have br_0_3 : V3.cell? ⟨w.heap.size, 0, none⟩ = some (.string ⟨#[]⟩) := cell_later hB3 br_0_2
        have qr_0_3 : V3.frozen? ⟨w.heap.size, 0, none⟩ = false := frozen_later hB3 (World.block_lt_of_cell? _ _ br_0_2) qr_0_2
        have br_1_3 : V3.cell? ⟨w.heap.size, 1, none⟩ = some (.int .i64 0) := cell_later hB3 br_1_2
        have qr_1_3 : V3.frozen? ⟨w.heap.size, 1, none⟩ = false := frozen_later hB3 (World.block_lt_of_cell? _ _ br_1_2) qr_1_2
        have lr_3 : w.heap.size < V3.heap.size := World.block_lt_of_cell? _ _ br_0_3
        have bs_0_3 : V3.cell? ⟨V1.heap.size, 0, none⟩ = some (.string p1) := cell_later hB3 s0x
        have bs_1_3 : V3.cell? ⟨V1.heap.size, 1, none⟩ = some (.int .i64 (rdV p2)) := cell_later hB3 s1x
        have ls_3 : V1.heap.size < V3.heap.size := World.block_lt_of_cell? _ _ bs_0_3
        clear hk2 br_0_2 qr_0_2 br_1_2 qr_1_2 lr_2 s0x s1x
        cases h1 : stateB ⟨p1, (rdV p2)⟩
        · have hpn : Hid (parseB l = none) := by
            refine parseB_none fun m y hk e => ?_
            obtain ⟨_, e1, e2⟩ := parse_rd HCUT.out hk e
            simp only [okL, Bool.and_eq_true] at hk
            have e3 : y = ⟨p1, (rdV p2)⟩ := by cases y; simp only at e1 e2; rw [e1, e2]
            rw [e3, h1] at hk; exact absurd hk.2 Bool.false_ne_true
          clear h1
          go_wp2
          refine bodyPost_ret (by simp [results, Tryz.results41, go_sem, br_0_3, br_1_3]; try rfl) rfl ?_
          exact parsePost_no hpn.out rfl (by repeat' (first | exact hk3 | refine bl_alloc ?_ _ | refine bl_drew ?_ | refine bl_set ?_ (by simp only []; omega) _))
        · have hok : Hid (okL (rdV p0) ⟨p1, (rdV p2)⟩ = true) := by rw [Hid, okL, H0.out, h1]; rfl
          clear h1
          go_wp2_with fail
          refine (jnLine_f (rdV p0) p1 (rdV p2) _ hok.out).mono ?_
          rintro e V4 ⟨rfl, hb4⟩
          have hB4 := bl_trans (a := V3) (bl_refl _) hb4
          have hk4 := bl_trans hk3 hB4
          have z4 := Lib.hid hB4.size
          have br_0_4 : V4.cell? ⟨w.heap.size, 0, none⟩ = some (.string ⟨#[]⟩) := cell_later hB4 br_0_3
          have qr_0_4 : V4.frozen? ⟨w.heap.size, 0, none⟩ = false := frozen_later hB4 (World.block_lt_of_cell? _ _ br_0_3) qr_0_3
          have br_1_4 : V4.cell? ⟨w.heap.size, 1, none⟩ = some (.int .i64 0) := cell_later hB4 br_1_3
          have qr_1_4 : V4.frozen? ⟨w.heap.size, 1, none⟩ = false := frozen_later hB4 (World.block_lt_of_cell? _ _ br_1_3) qr_1_3
          have lr_4 : w.heap.size < V4.heap.size := World.block_lt_of_cell? _ _ br_0_4
          have bs_0_4 : V4.cell? ⟨V1.heap.size, 0, none⟩ = some (.string p1) := cell_later hB4 bs_0_3
          have bs_1_4 : V4.cell? ⟨V1.heap.size, 1, none⟩ = some (.int .i64 (rdV p2)) := cell_later hB4 bs_1_3
          have ls_4 : V1.heap.size < V4.heap.size := World.block_lt_of_cell? _ _ bs_0_4
          clear hk3 br_0_3 qr_0_3 br_1_3 qr_1_3 lr_3 bs_0_3 bs_1_3 ls_3
          cases hq : sameB (lineB (rdV p0) ⟨p1, (rdV p2)⟩) l
          · have hq1 : ((lineB (rdV p0) ⟨p1, (rdV p2)⟩).toList == l.toList) = false := by rw [bytes_beq]; exact hq
            have hq2 : ((lineB (rdV p0) ⟨p1, (rdV p2)⟩).toList != l.toList) = true := by rw [bne, hq1]; rfl
            have hpn : Hid (parseB l = none) := by
              refine parseB_none fun m y hk e => ?_
              obtain ⟨e0, e1, e2⟩ := parse_rd HCUT.out hk e
              have e3 : y = ⟨p1, (rdV p2)⟩ := by cases y; simp only at e1 e2; rw [e1, e2]
              rw [sameB_no] at hq
              exact hq (by rw [e0, ← e3, ← e])
            clear hq
            go_wp2
            refine bodyPost_ret (by simp [results, Tryz.results41, go_sem, br_0_4, br_1_4]; try rfl) rfl ?_
            exact parsePost_no hpn.out rfl (by repeat' (first | exact hk4 | refine bl_alloc ?_ _ | refine bl_drew ?_ | refine bl_set ?_ (by simp only []; omega) _))
          · have hq1 : ((lineB (rdV p0) ⟨p1, (rdV p2)⟩).toList == l.toList) = true := by rw [bytes_beq]; exact hq
            have hq2 : ((lineB (rdV p0) ⟨p1, (rdV p2)⟩).toList != l.toList) = false := by rw [bne, hq1]; rfl
            have hpn : Hid (parseB l = some ((rdV p0), ⟨p1, (rdV p2)⟩)) := by rw [Hid, ← sameB_iff.1 hq]; exact parseB_line hok.out
            clear hq
            go_wp2_with fail
            go_region
            all_goals go_wp2
            all_goals refine bodyPost_ret (v := .tuple #[.int .i64 (rdV p0), .agg #[.string p1, .int .i64 (rdV p2)], .bool true]) (by simp [results, Tryz.results41, go_sem, br_0_4, br_1_4]; try rfl) rfl ?_
            all_goals refine parsePost_yes2 hpn.out ?_
            all_goals exact (by repeat' (first | exact hk4 | refine bl_alloc ?_ _ | refine bl_drew ?_ | refine bl_set ?_ (by simp only []; omega) _))
  have hpn := Lib.hid (parse_none4 hlen)
  have hl4 : decide ((cutB 61 l).length = 4) = false := by simpa using hlen
  have hl5 : (((cutB 61 l).length : Int) == 4) = false := by simp; omega
  clear hlen
  go_wp2
  refine bodyPost_ret (by simp [results, Tryz.results41, go_sem, br_0_1, br_1_1]; try rfl) rfl ?_
  exact parsePost_no hpn.out rfl (by repeat' (first | exact hk1 | refine bl_alloc ?_ _ | refine bl_drew ?_ | refine bl_set ?_ (by simp only []; omega) _))

end Go.Proofs.YtenlbeghjabpkaaGreatDoor
