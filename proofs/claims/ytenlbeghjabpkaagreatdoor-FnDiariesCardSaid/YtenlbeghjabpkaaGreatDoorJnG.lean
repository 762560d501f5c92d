/-
  The program's reading of a line. No conditions.
-/
import Derived.Test.YtenlbeghjabpkaaGreatDoorJnF0
namespace Go.Proofs.YtenlbeghjabpkaaGreatDoor
open Go.RowKit

set_option maxRecDepth 100000 in
set_option maxHeartbeats 4000000 in
theorem parseStateLine_any (l : ByteArray) (w : World) (hl : l.size ≤ 1048576) (he : Env w) : Calls Tryz.prog 40 #[.string l] w (ParsePost l w) := by
  have HC := Lib.hid (@cut_sizes l 61)
  go_enter Tryz.func40, Tryz.ntmps40
  have hk0 := bl_refl w
  go_wp2_with fail
  refine (split_any l 61 _ hl (he.below (bl_trans hk0 (by repeat' (first | exact bl_refl _ | refine bl_alloc ?_ _ | refine bl_drew ?_ | refine bl_drewN ?_ _ | refine bl_set ?_ ?_ _ | (simp; done) | (simp; omega)))))).mono ?_
  rintro e V1 ⟨g, rfl, hs1, hb1⟩
  have hB1 := bl_trans (a := w) (by repeat' (first | exact bl_refl _ | refine bl_alloc ?_ _ | refine bl_drew ?_ | refine bl_drewN ?_ _ | refine bl_set ?_ ?_ _ | (simp; done) | (simp; omega))) hb1
  have hk1 := bl_trans hk0 hB1
  have z1 : Hid (w.heap.size + 1 ≤ V1.heap.size) := by have := hb1.size; simp only [World.size_alloc] at this; exact (by omega : _)
  have br_0_1 : V1.cell? ⟨w.heap.size, 0, none⟩ = some (.string ⟨#[]⟩) := cell_later hb1 (by go_simp)
  have qr_0_1 : V1.frozen? ⟨w.heap.size, 0, none⟩ = false := frozen_later hb1 (by simp) (by go_simp)
  have br_1_1 : V1.cell? ⟨w.heap.size, 1, none⟩ = some (.int .i64 0) := cell_later hb1 (by go_simp)
  have qr_1_1 : V1.frozen? ⟨w.heap.size, 1, none⟩ = false := frozen_later hb1 (by simp) (by go_simp)
  have lr_1 : w.heap.size < V1.heap.size := World.block_lt_of_cell? _ _ br_0_1
  by_cases hlen : (cutB 61 l).length = 4
  · obtain ⟨p0, p1, p2, p3, hcut⟩ := parts4 hlen
    have HCUT := Lib.hid hcut
    have hz0 : p0.size ≤ 1048576 := Nat.le_trans (HC.out p0 (by rw [hcut]; simp)) hl
    have hz1 : p1.size ≤ maxLen := by have := HC.out p1 (by rw [hcut]; simp); unfold maxLen; omega
    have hz2 : p2.size ≤ 1048576 := Nat.le_trans (HC.out p2 (by rw [hcut]; simp)) hl
    rw [hlen, hcut] at hs1
    obtain ⟨_, hgz, c0, c1', c2⟩ := hs1.str3
    clear hs1 hcut
    rw [hlen]
    clear hlen
    clear hb1
    go_wp2_with fail
    refine (readNumber_any p0 _ hz0 (he.below hk1)).mono ?_
    rintro e V2 ⟨v0, b0, rfl, ⟨n0, n0'⟩, hn0, hb2⟩
    have hB2 := bl_trans (a := V1) (bl_refl _) hb2
    have hk2 := bl_trans hk1 hB2
    have z2 := Lib.hid hB2.size
    have br_0_2 : V2.cell? ⟨w.heap.size, 0, none⟩ = some (.string ⟨#[]⟩) := cell_later hB2 br_0_1
    have qr_0_2 : V2.frozen? ⟨w.heap.size, 0, none⟩ = false := frozen_later hB2 (World.block_lt_of_cell? _ _ br_0_1) qr_0_1
    have br_1_2 : V2.cell? ⟨w.heap.size, 1, none⟩ = some (.int .i64 0) := cell_later hB2 br_1_1
    have qr_1_2 : V2.frozen? ⟨w.heap.size, 1, none⟩ = false := frozen_later hB2 (World.block_lt_of_cell? _ _ br_1_1) qr_1_1
    have lr_2 : w.heap.size < V2.heap.size := World.block_lt_of_cell? _ _ br_0_2
    clear hk1 br_0_1 qr_0_1 br_1_1 qr_1_1 lr_1
    have d1 := cell_later hB2 c1'
    have d2 := cell_later hB2 c2
    have hgz2 : g < V2.heap.size := World.block_lt_of_cell? _ _ d2
    clear c0 c1' c2 hgz hb2
    go_wp2_with fail
    refine (readNumber_any p2 _ hz2 (he.below hk2)).mono ?_
    rintro e V3 ⟨v2, b2, rfl, ⟨m2, m2'⟩, hn2, hb3⟩
    have hB3 := bl_trans (a := V2) (bl_refl _) hb3
    have hk3 := bl_trans hk2 hB3
    have z3 := Lib.hid hB3.size
    have br_0_3 : V3.cell? ⟨w.heap.size, 0, none⟩ = some (.string ⟨#[]⟩) := cell_later hB3 br_0_2
    have qr_0_3 : V3.frozen? ⟨w.heap.size, 0, none⟩ = false := frozen_later hB3 (World.block_lt_of_cell? _ _ br_0_2) qr_0_2
    have br_1_3 : V3.cell? ⟨w.heap.size, 1, none⟩ = some (.int .i64 0) := cell_later hB3 br_1_2
    have qr_1_3 : V3.frozen? ⟨w.heap.size, 1, none⟩ = false := frozen_later hB3 (World.block_lt_of_cell? _ _ br_1_2) qr_1_2
    have lr_3 : w.heap.size < V3.heap.size := World.block_lt_of_cell? _ _ br_0_3
    clear hk2 br_0_2 qr_0_2 br_1_2 qr_1_2 lr_2
    have e1' := cell_later hB3 d1
    have hgz3 : g < V3.heap.size := World.block_lt_of_cell? _ _ e1'
    clear d1 d2 hgz2 hb3
    have HPF : Hid (∀ {m : Int} {y : State}, okL m y = true → l = lineB m y → (v0 = m ∧ b0 = true) ∧ p1 = y.Name ∧ v2 = y.Value ∧ b2 = true) := by
      intro m y hk e
      obtain ⟨h0, h1, h2⟩ := parse_parts HCUT.out hk e
      obtain ⟨⟨a0, a1⟩, _, q0, q1⟩ := okL_bd hk
      obtain ⟨u, hu⟩ := Int.eq_ofNat_of_zero_le a0
      obtain ⟨x, hx⟩ := Int.eq_ofNat_of_zero_le q0
      have r0 := hn0.out.1 u (by omega) (by rw [h0, hu])
      have r2 := hn2.out.1 x (by omega) (by rw [h2, hx])
      exact ⟨⟨by rw [r0.1, hu], r0.2⟩, h1, by rw [r2.1, hx], r2.2⟩
    clear hn0 hn2
    cases b0
    · have hpn : Hid (parseB l = none) := by
        refine parseB_none fun m y hk e => ?_
        obtain ⟨⟨_, e1⟩, _, _, e2⟩ := HPF.out hk e
        first | exact absurd e1 Bool.false_ne_true | exact absurd e2 Bool.false_ne_true
      go_wp2
      refine bodyPost_ret (by simp [results, Tryz.results40, go_sem, cell_ret0 br_0_3 br_1_3 lr_3, cell_ret1 br_0_3 br_1_3 lr_3]; try rfl) rfl ?_
      exact parsePost_no hpn.out rfl (by repeat' (first | exact hk3 | refine bl_alloc ?_ _ | refine bl_drew ?_ | refine bl_set ?_ (by simp only []; omega) _))
    · cases b2
      · have hpn : Hid (parseB l = none) := by
          refine parseB_none fun m y hk e => ?_
          obtain ⟨⟨_, e1⟩, _, _, e2⟩ := HPF.out hk e
          first | exact absurd e1 Bool.false_ne_true | exact absurd e2 Bool.false_ne_true
        go_wp2
        refine bodyPost_ret (by simp [results, Tryz.results40, go_sem, cell_ret0 br_0_3 br_1_3 lr_3, cell_ret1 br_0_3 br_1_3 lr_3]; try rfl) rfl ?_
        exact parsePost_no hpn.out rfl (by repeat' (first | exact hk3 | refine bl_alloc ?_ _ | refine bl_drew ?_ | refine bl_set ?_ (by simp only []; omega) _))
      · have HPG : Hid (∀ {m : Int} {y : State}, okL m y = true → l = lineB m y → v0 = m ∧ p1 = y.Name ∧ v2 = y.Value) := fun hk e => ⟨(HPF.out hk e).1.1, (HPF.out hk e).2.1, (HPF.out hk e).2.2.1⟩
        clear HPF
        go_wp2_with fail
        refine (inside_any v0 0 39 _).mono ?_
        rintro _ _ ⟨rfl, rfl⟩
        cases h0 : inB v0 0 39
        · have hpn : Hid (parseB l = none) := by
            refine parseB_none fun m y hk e => ?_
            obtain ⟨e0, _, _⟩ := HPG.out hk e
            obtain ⟨⟨y0, y1⟩, _⟩ := okL_bd hk
            rw [e0, inB_iff.2 ⟨y0, y1⟩] at h0; cases h0
          clear h0
          go_wp2
          refine bodyPost_ret (by simp [results, Tryz.results40, go_sem, cell_ret0 br_0_3 br_1_3 lr_3, cell_ret1 br_0_3 br_1_3 lr_3]; try rfl) rfl ?_
          exact parsePost_no hpn.out rfl (by repeat' (first | exact hk3 | refine bl_alloc ?_ _ | refine bl_drew ?_ | refine bl_set ?_ (by simp only []; omega) _))
        · have H0 := Lib.hid h0
          obtain ⟨hi0, hi1⟩ := inB_iff.1 h0
          clear h0
          go_wp2_with fail
          refine (isDiaryState_f p1 v2 _ hz1).mono ?_
          rintro e V4 ⟨rfl, hb4⟩
          have hB4 := bl_trans (a := V3) (by repeat' (first | exact bl_refl _ | refine bl_alloc ?_ _ | refine bl_drew ?_ | refine bl_drewN ?_ _ | refine bl_set ?_ ?_ _ | (simp; done) | (simp; omega))) hb4
          have hk4 := bl_trans hk3 hB4
          have z4 : Hid (V3.heap.size + 1 ≤ V4.heap.size) := by have := hb4.size; simp only [World.size_alloc] at this; exact (by omega : _)
          have br_0_4 : V4.cell? ⟨w.heap.size, 0, none⟩ = some (.string ⟨#[]⟩) := cell_later hB4 br_0_3
          have qr_0_4 : V4.frozen? ⟨w.heap.size, 0, none⟩ = false := frozen_later hB4 (World.block_lt_of_cell? _ _ br_0_3) qr_0_3
          have br_1_4 : V4.cell? ⟨w.heap.size, 1, none⟩ = some (.int .i64 0) := cell_later hB4 br_1_3
          have qr_1_4 : V4.frozen? ⟨w.heap.size, 1, none⟩ = false := frozen_later hB4 (World.block_lt_of_cell? _ _ br_1_3) qr_1_3
          have lr_4 : w.heap.size < V4.heap.size := World.block_lt_of_cell? _ _ br_0_4
          have bs_0_4 : V4.cell? ⟨V3.heap.size, 0, none⟩ = some (.string p1) := cell_later hb4 (by go_simp)
          have bs_1_4 : V4.cell? ⟨V3.heap.size, 1, none⟩ = some (.int .i64 v2) := cell_later hb4 (by go_simp)
          have ls_4 : V3.heap.size < V4.heap.size := World.block_lt_of_cell? _ _ bs_0_4
          clear hk3 br_0_3 qr_0_3 br_1_3 qr_1_3 lr_3
          cases h1 : stateB ⟨p1, v2⟩
          · have hpn : Hid (parseB l = none) := by
              refine parseB_none fun m y hk e => ?_
              obtain ⟨_, e1, e2⟩ := HPG.out hk e
              simp only [okL, Bool.and_eq_true] at hk
              have e3 : y = ⟨p1, v2⟩ := by cases y; simp only at e1 e2; rw [e1, e2]
              rw [e3, h1] at hk; exact absurd hk.2 Bool.false_ne_true
            clear h1
            go_wp2
            refine bodyPost_ret (by simp [results, Tryz.results40, go_sem, br_0_4, br_1_4]; try rfl) rfl ?_
            exact parsePost_no hpn.out rfl (by repeat' (first | exact hk4 | refine bl_alloc ?_ _ | refine bl_drew ?_ | refine bl_set ?_ (by simp only []; omega) _))
          · have hok : Hid (okL v0 ⟨p1, v2⟩ = true) := by rw [Hid, okL, H0.out, h1]; rfl
            clear h1
            go_wp2_with fail
            refine (stateLine_f v0 p1 v2 _ hok.out (he.tab.below hk4)).mono ?_
            rintro e V5 ⟨rfl, hb5⟩
            have hB5 := bl_trans (a := V4) (bl_refl _) hb5
            have hk5 := bl_trans hk4 hB5
            have z5 := Lib.hid hB5.size
            have br_0_5 : V5.cell? ⟨w.heap.size, 0, none⟩ = some (.string ⟨#[]⟩) := cell_later hB5 br_0_4
            have qr_0_5 : V5.frozen? ⟨w.heap.size, 0, none⟩ = false := frozen_later hB5 (World.block_lt_of_cell? _ _ br_0_4) qr_0_4
            have br_1_5 : V5.cell? ⟨w.heap.size, 1, none⟩ = some (.int .i64 0) := cell_later hB5 br_1_4
            have qr_1_5 : V5.frozen? ⟨w.heap.size, 1, none⟩ = false := frozen_later hB5 (World.block_lt_of_cell? _ _ br_1_4) qr_1_4
            have lr_5 : w.heap.size < V5.heap.size := World.block_lt_of_cell? _ _ br_0_5
            have bs_0_5 : V5.cell? ⟨V3.heap.size, 0, none⟩ = some (.string p1) := cell_later hB5 bs_0_4
            have bs_1_5 : V5.cell? ⟨V3.heap.size, 1, none⟩ = some (.int .i64 v2) := cell_later hB5 bs_1_4
            have ls_5 : V3.heap.size < V5.heap.size := World.block_lt_of_cell? _ _ bs_0_5
            clear hk4 br_0_4 qr_0_4 br_1_4 qr_1_4 lr_4 bs_0_4 bs_1_4 ls_4
            cases hq : sameB (lineB v0 ⟨p1, v2⟩) l
            · have hq1 : ((lineB v0 ⟨p1, v2⟩).toList == l.toList) = false := by rw [bytes_beq]; exact hq
              have hq2 : ((lineB v0 ⟨p1, v2⟩).toList != l.toList) = true := by rw [bne, hq1]; rfl
              have hpn : Hid (parseB l = none) := by
                refine parseB_none fun m y hk e => ?_
                obtain ⟨e0, e1, e2⟩ := HPG.out hk e
                have e3 : y = ⟨p1, v2⟩ := by cases y; simp only at e1 e2; rw [e1, e2]
                rw [sameB_no] at hq
                exact hq (by rw [e0, ← e3, ← e])
              clear hq
              go_wp2
              refine bodyPost_ret (by simp [results, Tryz.results40, go_sem, br_0_5, br_1_5]; try rfl) rfl ?_
              exact parsePost_no hpn.out rfl (by repeat' (first | exact hk5 | refine bl_alloc ?_ _ | refine bl_drew ?_ | refine bl_set ?_ (by simp only []; omega) _))
            · have hq1 : ((lineB v0 ⟨p1, v2⟩).toList == l.toList) = true := by rw [bytes_beq]; exact hq
              have hq2 : ((lineB v0 ⟨p1, v2⟩).toList != l.toList) = false := by rw [bne, hq1]; rfl
              have hpn : Hid (parseB l = some (v0, ⟨p1, v2⟩)) := by rw [Hid, ← sameB_iff.1 hq]; exact parseB_line hok.out
              clear hq
              go_wp2_with fail
              go_region
              all_goals go_wp2
              all_goals refine bodyPost_ret (v := .tuple #[.int .i64 v0, .agg #[.string p1, .int .i64 v2], .bool true]) (by simp [results, Tryz.results40, go_sem, br_0_5, br_1_5]; try rfl) rfl ?_
              all_goals refine parsePost_yes2 hpn.out ?_
              all_goals exact (by repeat' (first | exact hk5 | refine bl_alloc ?_ _ | refine bl_drew ?_ | refine bl_set ?_ (by simp only []; omega) _))
  have hpn := Lib.hid (parse_none4 hlen)
  have hl4 : decide ((cutB 61 l).length = 4) = false := by simpa using hlen
  have hl5 : (((cutB 61 l).length : Int) == 4) = false := by simp; omega
  clear hlen
  go_wp2
  refine bodyPost_ret (by simp [results, Tryz.results40, go_sem, br_0_1, br_1_1]; try rfl) rfl ?_
  exact parsePost_no hpn.out rfl (by repeat' (first | exact hk1 | refine bl_alloc ?_ _ | refine bl_drew ?_ | refine bl_set ?_ (by simp only []; omega) _))

end Go.Proofs.YtenlbeghjabpkaaGreatDoor
