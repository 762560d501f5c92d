/-
  The law on MoveThing: it answers true at every input, and every argument reads as before. No conditions.
-/
import Derived.Test.YtokcgjjnljflaaaMvA
import Derived.Test.YtokcgjjnljflaaaRows
import Derived.Test.YtokcgjjnljflaaaMem3
namespace Go.Proofs.Ytokcgjjnljflaaa.lawMoveThing
open Go.RowKit

set_option maxRecDepth 100000 in
set_option maxHeartbeats 16000000 in
theorem walk (x0_Appliance : ByteArray) (x0_Things : List Thing) (A0 : Option Addr) (n0 c0 : Nat) (x1_Appliance : ByteArray) (x1_Things : List Thing) (A1 : Option Addr) (n1 c1 : Nat) (x2 : ByteArray) (x3 : Int) (w : World) (hn0 : (n0 : Int) ≤ 9223372036854775807) (hs0 : Sl w A0 n0 x0_Things) (hv0 : ∀ x, x ∈ x0_Things → x.Name.size ≤ maxLen) (hz0Appliance : x0_Appliance.size ≤ maxLen) (hn1 : (n1 : Int) ≤ 9223372036854775807) (hs1 : Sl w A1 n1 x1_Things) (hv1 : ∀ x, x ∈ x1_Things → x.Name.size ≤ maxLen) (hz1Appliance : x1_Appliance.size ≤ maxLen) (_hx2 : x2.size ≤ maxLen) (_hx3 : -9223372036854775808 ≤ x3 ∧ x3 ≤ 9223372036854775807) :
    Calls Try.prog 3 #[.agg #[.string x0_Appliance, .slice A0 n0 c0], .agg #[.string x1_Appliance, .slice A1 n1 c1], .string x2, .int .i64 x3] w fun e w' => e = .returned (.bool true) ∧ Below w.heap.size w w' := by
  by_cases hz2 : (1048576 : Int) < x2.size
  · have hz2' : decide ((1048576 : Int) < x2.size) = true := by simpa using hz2
    go_enter Try.func3, Try.ntmps3
    go_wp2
    go_ret
    exact ⟨rfl, (by repeat' (first | exact bl_refl _ | refine bl_alloc ?_ _ | refine bl_drew ?_ | refine bl_drewN ?_ _ | refine bl_set ?_ ?_ _ | (simp; done) | (simp; omega)))⟩
  have hz2' : decide ((1048576 : Int) < x2.size) = false := by simpa using hz2
  go_enter Try.func3, Try.ntmps3
  have hk0 := bl_refl w
  go_wp2_with fail
  refine (szLoad_any x0_Appliance _ _ _ x0_Things _ _ hz0Appliance hn0 (hs0.below (bl_trans hk0 (by repeat' (first | exact bl_refl _ | refine bl_alloc ?_ _ | refine bl_drew ?_ | refine bl_drewN ?_ _ | refine bl_set ?_ ?_ _ | (simp; done) | (simp; omega))))) hv0 (by omega) (by omega)).mono ?_
  rintro e V1 ⟨r0, rfl, hr0, hb1⟩
  have hB1 := bl_trans (a := w) (by repeat' (first | exact bl_refl _ | refine bl_alloc ?_ _ | refine bl_drew ?_ | refine bl_drewN ?_ _ | refine bl_set ?_ ?_ _ | (simp; done) | (simp; omega))) hb1
  have hk1 := bl_trans hk0 hB1
  have z1 : Hid (w.heap.size + 2 ≤ V1.heap.size) := by have := hb1.size; simp only [World.size_alloc] at this; exact (by omega : _)
  have ba0_0_1 : V1.cell? ⟨w.heap.size, 0, none⟩ = some (.string x0_Appliance) := cell_later hb1 (by go_simp)
  have ba0_1_1 : V1.cell? ⟨w.heap.size, 1, none⟩ = some (.slice A0 n0 c0) := cell_later hb1 (by go_simp)
  have la0_1 : w.heap.size < V1.heap.size := World.block_lt_of_cell? _ _ ba0_0_1
  have ba1_0_1 : V1.cell? ⟨w.heap.size + 1, 0, none⟩ = some (.string x1_Appliance) := cell_later hb1 (by go_simp)
  have ba1_1_1 : V1.cell? ⟨w.heap.size + 1, 1, none⟩ = some (.slice A1 n1 c1) := cell_later hb1 (by go_simp)
  have la1_1 : w.heap.size + 1 < V1.heap.size := World.block_lt_of_cell? _ _ ba1_0_1
  clear hb1
  rcases hr0 with rfl | ⟨ha0, hc0, hp0⟩
  · go_wp2
    go_ret
    exact ⟨rfl, hk1⟩
  have hl0 : n0 ≤ 1048576 := by have := hp0; omega
  have hL0 : x0_Things.length ≤ 1048576 := by rw [hs0.1]; exact hl0
  clear hp0
  go_wp2_with fail
  refine (szLoad_any x1_Appliance _ _ _ x1_Things _ _ hz1Appliance hn1 (hs1.below hk1) hv1 (by omega) (by omega)).mono ?_
  rintro e V2 ⟨r1, rfl, hr1, hb2⟩
  have hB2 := bl_trans (a := V1) (bl_refl _) hb2
  have hk2 := bl_trans hk1 hB2
  have z2 := Lib.hid hB2.size
  have ba0_0_2 : V2.cell? ⟨w.heap.size, 0, none⟩ = some (.string x0_Appliance) := cell_later hB2 ba0_0_1
  have ba0_1_2 : V2.cell? ⟨w.heap.size, 1, none⟩ = some (.slice A0 n0 c0) := cell_later hB2 ba0_1_1
  have la0_2 : w.heap.size < V2.heap.size := World.block_lt_of_cell? _ _ ba0_0_2
  have ba1_0_2 : V2.cell? ⟨w.heap.size + 1, 0, none⟩ = some (.string x1_Appliance) := cell_later hB2 ba1_0_1
  have ba1_1_2 : V2.cell? ⟨w.heap.size + 1, 1, none⟩ = some (.slice A1 n1 c1) := cell_later hB2 ba1_1_1
  have la1_2 : w.heap.size + 1 < V2.heap.size := World.block_lt_of_cell? _ _ ba1_0_2
  clear hk1 ba0_0_1 ba0_1_1 la0_1 ba1_0_1 ba1_1_1 la1_1
  clear hb2
  rcases hr1 with rfl | ⟨ha1, hc1, hp1⟩
  · go_wp2
    go_ret
    exact ⟨rfl, hk2⟩
  have hl1 : n1 ≤ 1048576 := by have := hp1; omega
  have hL1 : x1_Things.length ≤ 1048576 := by rw [hs1.1]; exact hl1
  clear hp1
  have hR : (moveF (⟨x0_Appliance, x0_Things⟩ : Load) (⟨x1_Appliance, x1_Things⟩ : Load) x2 x3).1.Things.length ≤ 1048576 ∧ (moveF (⟨x0_Appliance, x0_Things⟩ : Load) (⟨x1_Appliance, x1_Things⟩ : Load) x2 x3).2.1.Things.length ≤ 1048576 := moveF_len (⟨x0_Appliance, x0_Things⟩ : Load) (⟨x1_Appliance, x1_Things⟩ : Load) x2 x3 hL0
  obtain ⟨hR0, hR1⟩ := hR
  go_upto_region 10 with fail
  go_cut [10, 11, 12] (fun s10 s11 s12 wx => s12 = .bool (moveF (⟨x0_Appliance, x0_Things⟩ : Load) (⟨x1_Appliance, x1_Things⟩ : Load) x2 x3).2.2 ∧ TwoP V2 59 (moveF (⟨x0_Appliance, x0_Things⟩ : Load) (⟨x1_Appliance, x1_Things⟩ : Load) x2 x3).1.Appliance (moveF (⟨x0_Appliance, x0_Things⟩ : Load) (⟨x1_Appliance, x1_Things⟩ : Load) x2 x3).2.1.Appliance (moveF (⟨x0_Appliance, x0_Things⟩ : Load) (⟨x1_Appliance, x1_Things⟩ : Load) x2 x3).1.Things (moveF (⟨x0_Appliance, x0_Things⟩ : Load) (⟨x1_Appliance, x1_Things⟩ : Load) x2 x3).2.1.Things s10 s11 wx)
  case first =>
    rename_i J K hJ hK
    refine wp_region_any (by kernel_rfl) ?_
    refine two_any (V0 := V2) (fun k => [38, 39, 40, 41, 42, 43, 44, 37, 45, 46, 47, 10, 11, 1000, 1001, 12].getD k 0) (p0 := 4) (p1 := 5) (p2 := 2) (p3 := 3) (F := 7) (r := (moveF (⟨x0_Appliance, x0_Things⟩ : Load) (⟨x1_Appliance, x1_Things⟩ : Load) x2 x3)) (by kernel_rfl) Try.func7 rfl (by decide) ⟨_, rfl, rfl, rfl, rfl⟩ ⟨_, _, rfl, rfl, rfl, rfl⟩ ⟨_, rfl, rfl, rfl, rfl⟩ ⟨_, _, rfl, rfl, rfl, rfl⟩ ⟨_, rfl, rfl, rfl, rfl⟩ ⟨_, rfl, rfl, rfl, rfl⟩ ⟨_, _, rfl, rfl, rfl, rfl⟩ ⟨_, rfl, rfl, rfl, rfl⟩ ⟨_, rfl, rfl, rfl, rfl⟩ ⟨_, rfl, rfl, rfl, rfl⟩ ⟨_, rfl, rfl, rfl, rfl⟩ ⟨_, rfl, rfl, rfl, rfl⟩ ⟨_, rfl, rfl, rfl, rfl⟩ ⟨_, rfl, rfl, rfl, rfl⟩ ⟨_, rfl, rfl, rfl, rfl⟩ ⟨_, rfl, rfl, rfl, rfl⟩ (N := 169) (by decide) (by rfl) (by decide) (by decide) rfl rfl rfl rfl ba0_0_2 ba0_1_2 ba1_0_2 ba1_1_2 (hs0.below hk2) (hs1.below hk2) hl0 hl1 (fun A1 B1 c1 d1 w1 ho1 ho2 => specMoveThing_any x0_Appliance x1_Appliance x0_Things x1_Things x2 x3 _ _ _ _ _ _ _ hL0 hL1 ho1.cap.1 (by have := ho1.cap.2; unfold maxLen at this; omega) ho2.cap.1 (by have := ho2.cap.2; unfold maxLen at this; omega) ho1.sl ho2.sl hz0Appliance hz1Appliance hv0 hv1 _hx2) ?_
    intro a w h1 h2 h3 h4 h5
    have ha := fr_eq [38, 39, 40, 41, 42, 43, 44, 37, 45, 46, 47, 10, 11, 1000, 1001, 12] h1 h2 (fun t ht => h3 t (fun k hk he => ht (by subst he; revert k; decide)))
    simp only [fr, Act.put, List.setIfInBounds_toArray, List.set_cons_zero, List.set_cons_succ] at ha
    refine hK _ _ (Met.intro (hJ _ _ ?_))
    (repeat apply Exists.intro)
    refine ⟨?_, ha⟩
    exact ⟨h4, h5⟩
  case rest =>
    obtain ⟨rfl, gw0, gw1, A_w0, c_w0, A_w1, c_w1, rfl, rfl, HT3⟩ := hcut
    obtain ⟨lo_gw0, lo_gw1, ne_w, hb3, BA3, BB3, ho_w0, ho_w1, HA3, HB3⟩ := HT3
    obtain ⟨V3, hVV⟩ : ∃ V, V = wc := ⟨_, rfl⟩
    subst hVV
    have hap_w := Lib.hid (fun k (h : Value.ownBlock (.slice A_w0 (moveF (⟨x0_Appliance, x0_Things⟩ : Load) (⟨x1_Appliance, x1_Things⟩ : Load) x2 x3).1.Things.length c_w0) = some k) => (HA3 k h).2.2)
    have sm_w0 := Lib.hid (fun k (h : Value.ownBlock (.slice A_w0 (moveF (⟨x0_Appliance, x0_Things⟩ : Load) (⟨x1_Appliance, x1_Things⟩ : Load) x2 x3).1.Things.length c_w0) = some k) => (HA3 k h).1)
    have sm_w1 := Lib.hid (fun k (h : Value.ownBlock (.slice A_w0 (moveF (⟨x0_Appliance, x0_Things⟩ : Load) (⟨x1_Appliance, x1_Things⟩ : Load) x2 x3).1.Things.length c_w0) = some k) => (HA3 k h).2.1)
    have sn_w0 := Lib.hid (fun k (h : Value.ownBlock (.slice A_w1 (moveF (⟨x0_Appliance, x0_Things⟩ : Load) (⟨x1_Appliance, x1_Things⟩ : Load) x2 x3).2.1.Things.length c_w1) = some k) => (HB3 k h).1)
    have sn_w1 := Lib.hid (fun k (h : Value.ownBlock (.slice A_w1 (moveF (⟨x0_Appliance, x0_Things⟩ : Load) (⟨x1_Appliance, x1_Things⟩ : Load) x2 x3).2.1.Things.length c_w1) = some k) => (HB3 k h).2)
    clear HA3 HB3
    have hi_w0 := ho_w0.lies
    have Hi_w0 := Lib.hid hi_w0
    clear hi_w0
    have hi_w1 := ho_w1.lies
    have Hi_w1 := Lib.hid hi_w1
    clear hi_w1
    have hB3 := bl_trans (a := V2) (bl_refl _) hb3
    have hk3 := bl_trans hk2 hB3
    have z3 := Lib.hid hB3.size
    have ba0_0_3 : V3.cell? ⟨w.heap.size, 0, none⟩ = some (.string x0_Appliance) := cell_later hB3 ba0_0_2
    have ba0_1_3 : V3.cell? ⟨w.heap.size, 1, none⟩ = some (.slice A0 n0 c0) := cell_later hB3 ba0_1_2
    have la0_3 : w.heap.size < V3.heap.size := World.block_lt_of_cell? _ _ ba0_0_3
    have ba1_0_3 : V3.cell? ⟨w.heap.size + 1, 0, none⟩ = some (.string x1_Appliance) := cell_later hB3 ba1_0_2
    have ba1_1_3 : V3.cell? ⟨w.heap.size + 1, 1, none⟩ = some (.slice A1 n1 c1) := cell_later hB3 ba1_1_2
    have la1_3 : w.heap.size + 1 < V3.heap.size := World.block_lt_of_cell? _ _ ba1_0_3
    clear hk2 ba0_0_2 ba0_1_2 la0_2 ba1_0_2 ba1_1_2 la1_2
    clear hb3
    have bw0_0_3 := BA3.c0
    have bw0_1_3 := BA3.c1
    have lw0_3 : gw0 < V3.heap.size := World.block_lt_of_cell? _ _ bw0_0_3
    have hi_gw0 := lw0_3
    have bw1_0_3 := BB3.c0
    have bw1_1_3 := BB3.c1
    have lw1_3 : gw1 < V3.heap.size := World.block_lt_of_cell? _ _ bw1_0_3
    have hi_gw1 := lw1_3
    clear BA3 BB3
    go_wp2_with fail
    refine (toLoad_any x0_Appliance _ _ _ x0_Things _ hl0 (hs0.below hk3)).mono ?_
    rintro e V4 ⟨A_x0, c_x0, rfl, ho_x0, hb4⟩
    have hi_x0 := ho_x0.lies
    have Hi_x0 := Lib.hid hi_x0
    clear hi_x0
    have hB4 := bl_trans (a := V3) (bl_refl _) hb4
    have hk4 := bl_trans hk3 hB4
    have z4 := Lib.hid hB4.size
    have w0_4 := ho_w0.below hB4
    have w1_4 := ho_w1.below hB4
    have ba0_0_4 : V4.cell? ⟨w.heap.size, 0, none⟩ = some (.string x0_Appliance) := cell_later hB4 ba0_0_3
    have ba0_1_4 : V4.cell? ⟨w.heap.size, 1, none⟩ = some (.slice A0 n0 c0) := cell_later hB4 ba0_1_3
    have la0_4 : w.heap.size < V4.heap.size := World.block_lt_of_cell? _ _ ba0_0_4
    have ba1_0_4 : V4.cell? ⟨w.heap.size + 1, 0, none⟩ = some (.string x1_Appliance) := cell_later hB4 ba1_0_3
    have ba1_1_4 : V4.cell? ⟨w.heap.size + 1, 1, none⟩ = some (.slice A1 n1 c1) := cell_later hB4 ba1_1_3
    have la1_4 : w.heap.size + 1 < V4.heap.size := World.block_lt_of_cell? _ _ ba1_0_4
    have bw0_0_4 : V4.cell? ⟨gw0, 0, none⟩ = some (.string (moveF (⟨x0_Appliance, x0_Things⟩ : Load) (⟨x1_Appliance, x1_Things⟩ : Load) x2 x3).1.Appliance) := cell_later hB4 bw0_0_3
    have bw0_1_4 : V4.cell? ⟨gw0, 1, none⟩ = some (.slice A_w0 (moveF (⟨x0_Appliance, x0_Things⟩ : Load) (⟨x1_Appliance, x1_Things⟩ : Load) x2 x3).1.Things.length c_w0) := cell_later hB4 bw0_1_3
    have lw0_4 : gw0 < V4.heap.size := World.block_lt_of_cell? _ _ bw0_0_4
    have bw1_0_4 : V4.cell? ⟨gw1, 0, none⟩ = some (.string (moveF (⟨x0_Appliance, x0_Things⟩ : Load) (⟨x1_Appliance, x1_Things⟩ : Load) x2 x3).2.1.Appliance) := cell_later hB4 bw1_0_3
    have bw1_1_4 : V4.cell? ⟨gw1, 1, none⟩ = some (.slice A_w1 (moveF (⟨x0_Appliance, x0_Things⟩ : Load) (⟨x1_Appliance, x1_Things⟩ : Load) x2 x3).2.1.Things.length c_w1) := cell_later hB4 bw1_1_3
    have lw1_4 : gw1 < V4.heap.size := World.block_lt_of_cell? _ _ bw1_0_4
    clear hk3 ho_w0 ho_w1 ba0_0_3 ba0_1_3 la0_3 ba1_0_3 ba1_1_3 la1_3 bw0_0_3 bw0_1_3 lw0_3 bw1_0_3 bw1_1_3 lw1_3
    clear hb4
    go_wp2_with fail
    refine (toLoad_any x1_Appliance _ _ _ x1_Things _ hl1 (hs1.below (bl_trans hk4 (by repeat' (first | exact bl_refl _ | refine bl_alloc ?_ _ | refine bl_drew ?_ | refine bl_drewN ?_ _ | refine bl_set ?_ ?_ _ | (simp; done) | (simp; omega)))))).mono ?_
    rintro e V5 ⟨A_x1, c_x1, rfl, ho_x1, hb5⟩
    have hi_x1 := ho_x1.lies
    have Hi_x1 := Lib.hid hi_x1
    clear hi_x1
    have hB5 := bl_trans (a := V4) (by repeat' (first | exact bl_refl _ | refine bl_alloc ?_ _ | refine bl_drew ?_ | refine bl_drewN ?_ _ | refine bl_set ?_ ?_ _ | (simp; done) | (simp; omega))) hb5
    have hk5 := bl_trans hk4 hB5
    have z5 : Hid (V4.heap.size + 1 ≤ V5.heap.size) := by have := hb5.size; simp only [World.size_alloc] at this; exact (by omega : _)
    have w0_5 := w0_4.below hB5
    have w1_5 := w1_4.below hB5
    have x0_5 := ho_x0.below hB5
    have ba0_0_5 : V5.cell? ⟨w.heap.size, 0, none⟩ = some (.string x0_Appliance) := cell_later hB5 ba0_0_4
    have ba0_1_5 : V5.cell? ⟨w.heap.size, 1, none⟩ = some (.slice A0 n0 c0) := cell_later hB5 ba0_1_4
    have la0_5 : w.heap.size < V5.heap.size := World.block_lt_of_cell? _ _ ba0_0_5
    have ba1_0_5 : V5.cell? ⟨w.heap.size + 1, 0, none⟩ = some (.string x1_Appliance) := cell_later hB5 ba1_0_4
    have ba1_1_5 : V5.cell? ⟨w.heap.size + 1, 1, none⟩ = some (.slice A1 n1 c1) := cell_later hB5 ba1_1_4
    have la1_5 : w.heap.size + 1 < V5.heap.size := World.block_lt_of_cell? _ _ ba1_0_5
    have bw0_0_5 : V5.cell? ⟨gw0, 0, none⟩ = some (.string (moveF (⟨x0_Appliance, x0_Things⟩ : Load) (⟨x1_Appliance, x1_Things⟩ : Load) x2 x3).1.Appliance) := cell_later hB5 bw0_0_4
    have bw0_1_5 : V5.cell? ⟨gw0, 1, none⟩ = some (.slice A_w0 (moveF (⟨x0_Appliance, x0_Things⟩ : Load) (⟨x1_Appliance, x1_Things⟩ : Load) x2 x3).1.Things.length c_w0) := cell_later hB5 bw0_1_4
    have lw0_5 : gw0 < V5.heap.size := World.block_lt_of_cell? _ _ bw0_0_5
    have bw1_0_5 : V5.cell? ⟨gw1, 0, none⟩ = some (.string (moveF (⟨x0_Appliance, x0_Things⟩ : Load) (⟨x1_Appliance, x1_Things⟩ : Load) x2 x3).2.1.Appliance) := cell_later hB5 bw1_0_4
    have bw1_1_5 : V5.cell? ⟨gw1, 1, none⟩ = some (.slice A_w1 (moveF (⟨x0_Appliance, x0_Things⟩ : Load) (⟨x1_Appliance, x1_Things⟩ : Load) x2 x3).2.1.Things.length c_w1) := cell_later hB5 bw1_1_4
    have lw1_5 : gw1 < V5.heap.size := World.block_lt_of_cell? _ _ bw1_0_5
    have bx0_0_5 : V5.cell? ⟨V4.heap.size, 0, none⟩ = some (.string x0_Appliance) := cell_later hb5 (by go_simp)
    have bx0_1_5 : V5.cell? ⟨V4.heap.size, 1, none⟩ = some (.slice A_x0 x0_Things.length c_x0) := cell_later hb5 (by go_simp)
    have lx0_5 : V4.heap.size < V5.heap.size := World.block_lt_of_cell? _ _ bx0_0_5
    clear hk4 w0_4 w1_4 ho_x0 ba0_0_4 ba0_1_4 la0_4 ba1_0_4 ba1_1_4 la1_4 bw0_0_4 bw0_1_4 lw0_4 bw1_0_4 bw1_1_4 lw1_4
    clear hb5
    go_wp2_with fail
    refine (implMoveThing_any x0_Appliance x1_Appliance x0_Things x1_Things x2 x3 _ _ _ _ _ _ _ hL0 hL1 x0_5.cap.1 (by have := x0_5.cap.2; unfold maxLen at this; omega) ho_x1.cap.1 (by have := ho_x1.cap.2; unfold maxLen at this; omega) (x0_5.sl.below (by repeat' (first | exact bl_refl _ | refine bl_alloc ?_ _ | refine bl_drew ?_ | refine bl_drewN ?_ _ | refine bl_set ?_ ?_ _ | (simp; done) | (simp; omega)))) (ho_x1.sl.below (by repeat' (first | exact bl_refl _ | refine bl_alloc ?_ _ | refine bl_drew ?_ | refine bl_drewN ?_ _ | refine bl_set ?_ ?_ _ | (simp; done) | (simp; omega)))) hz0Appliance hz1Appliance hv0 hv1 _hx2).mono ?_
    rintro e V6 ⟨A_g0, c_g0, A_g1, c_g1, rfl, ho_g0, ho_g1, ap_g, hb6⟩
    have hap_g := Lib.hid ap_g
    clear ap_g
    have hi_g0 := ho_g0.lies
    have Hi_g0 := Lib.hid hi_g0
    clear hi_g0
    have hi_g1 := ho_g1.lies
    have Hi_g1 := Lib.hid hi_g1
    clear hi_g1
    have hB6 := bl_trans (a := V5) (by repeat' (first | exact bl_refl _ | refine bl_alloc ?_ _ | refine bl_drew ?_ | refine bl_drewN ?_ _ | refine bl_set ?_ ?_ _ | (simp; done) | (simp; omega))) hb6
    have hk6 := bl_trans hk5 hB6
    have z6 : Hid (V5.heap.size + 1 ≤ V6.heap.size) := by have := hb6.size; simp only [World.size_alloc] at this; exact (by omega : _)
    have w0_6 := w0_5.below hB6
    have w1_6 := w1_5.below hB6
    have x0_6 := x0_5.below hB6
    have x1_6 := ho_x1.below hB6
    have ba0_0_6 : V6.cell? ⟨w.heap.size, 0, none⟩ = some (.string x0_Appliance) := cell_later hB6 ba0_0_5
    have ba0_1_6 : V6.cell? ⟨w.heap.size, 1, none⟩ = some (.slice A0 n0 c0) := cell_later hB6 ba0_1_5
    have la0_6 : w.heap.size < V6.heap.size := World.block_lt_of_cell? _ _ ba0_0_6
    have ba1_0_6 : V6.cell? ⟨w.heap.size + 1, 0, none⟩ = some (.string x1_Appliance) := cell_later hB6 ba1_0_5
    have ba1_1_6 : V6.cell? ⟨w.heap.size + 1, 1, none⟩ = some (.slice A1 n1 c1) := cell_later hB6 ba1_1_5
    have la1_6 : w.heap.size + 1 < V6.heap.size := World.block_lt_of_cell? _ _ ba1_0_6
    have bw0_0_6 : V6.cell? ⟨gw0, 0, none⟩ = some (.string (moveF (⟨x0_Appliance, x0_Things⟩ : Load) (⟨x1_Appliance, x1_Things⟩ : Load) x2 x3).1.Appliance) := cell_later hB6 bw0_0_5
    have bw0_1_6 : V6.cell? ⟨gw0, 1, none⟩ = some (.slice A_w0 (moveF (⟨x0_Appliance, x0_Things⟩ : Load) (⟨x1_Appliance, x1_Things⟩ : Load) x2 x3).1.Things.length c_w0) := cell_later hB6 bw0_1_5
    have lw0_6 : gw0 < V6.heap.size := World.block_lt_of_cell? _ _ bw0_0_6
    have bw1_0_6 : V6.cell? ⟨gw1, 0, none⟩ = some (.string (moveF (⟨x0_Appliance, x0_Things⟩ : Load) (⟨x1_Appliance, x1_Things⟩ : Load) x2 x3).2.1.Appliance) := cell_later hB6 bw1_0_5
    have bw1_1_6 : V6.cell? ⟨gw1, 1, none⟩ = some (.slice A_w1 (moveF (⟨x0_Appliance, x0_Things⟩ : Load) (⟨x1_Appliance, x1_Things⟩ : Load) x2 x3).2.1.Things.length c_w1) := cell_later hB6 bw1_1_5
    have lw1_6 : gw1 < V6.heap.size := World.block_lt_of_cell? _ _ bw1_0_6
    have bx0_0_6 : V6.cell? ⟨V4.heap.size, 0, none⟩ = some (.string x0_Appliance) := cell_later hB6 bx0_0_5
    have bx0_1_6 : V6.cell? ⟨V4.heap.size, 1, none⟩ = some (.slice A_x0 x0_Things.length c_x0) := cell_later hB6 bx0_1_5
    have lx0_6 : V4.heap.size < V6.heap.size := World.block_lt_of_cell? _ _ bx0_0_6
    have bx1_0_6 : V6.cell? ⟨V5.heap.size, 0, none⟩ = some (.string x1_Appliance) := cell_later hb6 (by go_simp)
    have bx1_1_6 : V6.cell? ⟨V5.heap.size, 1, none⟩ = some (.slice A_x1 x1_Things.length c_x1) := cell_later hb6 (by go_simp)
    have lx1_6 : V5.heap.size < V6.heap.size := World.block_lt_of_cell? _ _ bx1_0_6
    clear hk5 w0_5 w1_5 x0_5 ho_x1 ba0_0_5 ba0_1_5 la0_5 ba1_0_5 ba1_1_5 la1_5 bw0_0_5 bw0_1_5 lw0_5 bw1_0_5 bw1_1_5 lw1_5 bx0_0_5 bx0_1_5 lx0_5
    clear hb6
    go_wp2_with fail
    refine (eqLoad_any _ _ _ _ _ _ _ _ _ _ _ (by omega) (ho_g0.sl.below (by repeat' (first | exact bl_refl _ | refine bl_alloc ?_ _ | refine bl_drew ?_ | refine bl_drewN ?_ _ | refine bl_set ?_ ?_ _ | (simp; done) | (simp; omega)))) (w0_6.sl.below (by repeat' (first | exact bl_refl _ | refine bl_alloc ?_ _ | refine bl_drew ?_ | refine bl_drewN ?_ _ | refine bl_set ?_ ?_ _ | (simp; done) | (simp; omega))))).mono ?_
    rintro e V7 ⟨rfl, hb7⟩
    rw [sameB_refl]
    have hB7 := bl_trans (a := V6) (by repeat' (first | exact bl_refl _ | refine bl_alloc ?_ _ | refine bl_drew ?_ | refine bl_drewN ?_ _ | refine bl_set ?_ ?_ _ | (simp; done) | (simp; omega))) hb7
    have hk7 := bl_trans hk6 hB7
    have z7 : Hid (V6.heap.size + 2 ≤ V7.heap.size) := by have := hb7.size; simp only [World.size_alloc] at this; exact (by omega : _)
    have w0_7 := w0_6.below hB7
    have w1_7 := w1_6.below hB7
    have x0_7 := x0_6.below hB7
    have x1_7 := x1_6.below hB7
    have g0_7 := ho_g0.below hB7
    have g1_7 := ho_g1.below hB7
    have ba0_0_7 : V7.cell? ⟨w.heap.size, 0, none⟩ = some (.string x0_Appliance) := cell_later hB7 ba0_0_6
    have ba0_1_7 : V7.cell? ⟨w.heap.size, 1, none⟩ = some (.slice A0 n0 c0) := cell_later hB7 ba0_1_6
    have la0_7 : w.heap.size < V7.heap.size := World.block_lt_of_cell? _ _ ba0_0_7
    have ba1_0_7 : V7.cell? ⟨w.heap.size + 1, 0, none⟩ = some (.string x1_Appliance) := cell_later hB7 ba1_0_6
    have ba1_1_7 : V7.cell? ⟨w.heap.size + 1, 1, none⟩ = some (.slice A1 n1 c1) := cell_later hB7 ba1_1_6
    have la1_7 : w.heap.size + 1 < V7.heap.size := World.block_lt_of_cell? _ _ ba1_0_7
    have bw0_0_7 : V7.cell? ⟨gw0, 0, none⟩ = some (.string (moveF (⟨x0_Appliance, x0_Things⟩ : Load) (⟨x1_Appliance, x1_Things⟩ : Load) x2 x3).1.Appliance) := cell_later hB7 bw0_0_6
    have bw0_1_7 : V7.cell? ⟨gw0, 1, none⟩ = some (.slice A_w0 (moveF (⟨x0_Appliance, x0_Things⟩ : Load) (⟨x1_Appliance, x1_Things⟩ : Load) x2 x3).1.Things.length c_w0) := cell_later hB7 bw0_1_6
    have lw0_7 : gw0 < V7.heap.size := World.block_lt_of_cell? _ _ bw0_0_7
    have bw1_0_7 : V7.cell? ⟨gw1, 0, none⟩ = some (.string (moveF (⟨x0_Appliance, x0_Things⟩ : Load) (⟨x1_Appliance, x1_Things⟩ : Load) x2 x3).2.1.Appliance) := cell_later hB7 bw1_0_6
    have bw1_1_7 : V7.cell? ⟨gw1, 1, none⟩ = some (.slice A_w1 (moveF (⟨x0_Appliance, x0_Things⟩ : Load) (⟨x1_Appliance, x1_Things⟩ : Load) x2 x3).2.1.Things.length c_w1) := cell_later hB7 bw1_1_6
    have lw1_7 : gw1 < V7.heap.size := World.block_lt_of_cell? _ _ bw1_0_7
    have bx0_0_7 : V7.cell? ⟨V4.heap.size, 0, none⟩ = some (.string x0_Appliance) := cell_later hB7 bx0_0_6
    have bx0_1_7 : V7.cell? ⟨V4.heap.size, 1, none⟩ = some (.slice A_x0 x0_Things.length c_x0) := cell_later hB7 bx0_1_6
    have lx0_7 : V4.heap.size < V7.heap.size := World.block_lt_of_cell? _ _ bx0_0_7
    have bx1_0_7 : V7.cell? ⟨V5.heap.size, 0, none⟩ = some (.string x1_Appliance) := cell_later hB7 bx1_0_6
    have bx1_1_7 : V7.cell? ⟨V5.heap.size, 1, none⟩ = some (.slice A_x1 x1_Things.length c_x1) := cell_later hB7 bx1_1_6
    have lx1_7 : V5.heap.size < V7.heap.size := World.block_lt_of_cell? _ _ bx1_0_7
    have bg0_0_7 : V7.cell? ⟨V6.heap.size, 0, none⟩ = some (.string (moveF (⟨x0_Appliance, x0_Things⟩ : Load) (⟨x1_Appliance, x1_Things⟩ : Load) x2 x3).1.Appliance) := cell_later hb7 (by go_simp)
    have bg0_1_7 : V7.cell? ⟨V6.heap.size, 1, none⟩ = some (.slice A_g0 (moveF (⟨x0_Appliance, x0_Things⟩ : Load) (⟨x1_Appliance, x1_Things⟩ : Load) x2 x3).1.Things.length c_g0) := cell_later hb7 (by go_simp)
    have lg0_7 : V6.heap.size < V7.heap.size := World.block_lt_of_cell? _ _ bg0_0_7
    have bg1_0_7 : V7.cell? ⟨V6.heap.size + 1, 0, none⟩ = some (.string (moveF (⟨x0_Appliance, x0_Things⟩ : Load) (⟨x1_Appliance, x1_Things⟩ : Load) x2 x3).2.1.Appliance) := cell_later hb7 (by go_simp)
    have bg1_1_7 : V7.cell? ⟨V6.heap.size + 1, 1, none⟩ = some (.slice A_g1 (moveF (⟨x0_Appliance, x0_Things⟩ : Load) (⟨x1_Appliance, x1_Things⟩ : Load) x2 x3).2.1.Things.length c_g1) := cell_later hb7 (by go_simp)
    have lg1_7 : V6.heap.size + 1 < V7.heap.size := World.block_lt_of_cell? _ _ bg1_0_7
    clear hk6 w0_6 w1_6 x0_6 x1_6 ho_g0 ho_g1 ba0_0_6 ba0_1_6 la0_6 ba1_0_6 ba1_1_6 la1_6 bw0_0_6 bw0_1_6 lw0_6 bw1_0_6 bw1_1_6 lw1_6 bx0_0_6 bx0_1_6 lx0_6 bx1_0_6 bx1_1_6 lx1_6
    clear hb7
    go_wp2_with fail
    refine (eqLoad_any _ _ _ _ _ _ _ _ _ _ _ (by omega) g1_7.sl w1_7.sl).mono ?_
    rintro e V8 ⟨rfl, hb8⟩
    rw [sameB_refl]
    have hB8 := bl_trans (a := V7) (bl_refl _) hb8
    have hk8 := bl_trans hk7 hB8
    have z8 := Lib.hid hB8.size
    have w0_8 := w0_7.below hB8
    have w1_8 := w1_7.below hB8
    have x0_8 := x0_7.below hB8
    have x1_8 := x1_7.below hB8
    have g0_8 := g0_7.below hB8
    have g1_8 := g1_7.below hB8
    have ba0_0_8 : V8.cell? ⟨w.heap.size, 0, none⟩ = some (.string x0_Appliance) := cell_later hB8 ba0_0_7
    have ba0_1_8 : V8.cell? ⟨w.heap.size, 1, none⟩ = some (.slice A0 n0 c0) := cell_later hB8 ba0_1_7
    have la0_8 : w.heap.size < V8.heap.size := World.block_lt_of_cell? _ _ ba0_0_8
    have ba1_0_8 : V8.cell? ⟨w.heap.size + 1, 0, none⟩ = some (.string x1_Appliance) := cell_later hB8 ba1_0_7
    have ba1_1_8 : V8.cell? ⟨w.heap.size + 1, 1, none⟩ = some (.slice A1 n1 c1) := cell_later hB8 ba1_1_7
    have la1_8 : w.heap.size + 1 < V8.heap.size := World.block_lt_of_cell? _ _ ba1_0_8
    have bw0_0_8 : V8.cell? ⟨gw0, 0, none⟩ = some (.string (moveF (⟨x0_Appliance, x0_Things⟩ : Load) (⟨x1_Appliance, x1_Things⟩ : Load) x2 x3).1.Appliance) := cell_later hB8 bw0_0_7
    have bw0_1_8 : V8.cell? ⟨gw0, 1, none⟩ = some (.slice A_w0 (moveF (⟨x0_Appliance, x0_Things⟩ : Load) (⟨x1_Appliance, x1_Things⟩ : Load) x2 x3).1.Things.length c_w0) := cell_later hB8 bw0_1_7
    have lw0_8 : gw0 < V8.heap.size := World.block_lt_of_cell? _ _ bw0_0_8
    have bw1_0_8 : V8.cell? ⟨gw1, 0, none⟩ = some (.string (moveF (⟨x0_Appliance, x0_Things⟩ : Load) (⟨x1_Appliance, x1_Things⟩ : Load) x2 x3).2.1.Appliance) := cell_later hB8 bw1_0_7
    have bw1_1_8 : V8.cell? ⟨gw1, 1, none⟩ = some (.slice A_w1 (moveF (⟨x0_Appliance, x0_Things⟩ : Load) (⟨x1_Appliance, x1_Things⟩ : Load) x2 x3).2.1.Things.length c_w1) := cell_later hB8 bw1_1_7
    have lw1_8 : gw1 < V8.heap.size := World.block_lt_of_cell? _ _ bw1_0_8
    have bx0_0_8 : V8.cell? ⟨V4.heap.size, 0, none⟩ = some (.string x0_Appliance) := cell_later hB8 bx0_0_7
    have bx0_1_8 : V8.cell? ⟨V4.heap.size, 1, none⟩ = some (.slice A_x0 x0_Things.length c_x0) := cell_later hB8 bx0_1_7
    have lx0_8 : V4.heap.size < V8.heap.size := World.block_lt_of_cell? _ _ bx0_0_8
    have bx1_0_8 : V8.cell? ⟨V5.heap.size, 0, none⟩ = some (.string x1_Appliance) := cell_later hB8 bx1_0_7
    have bx1_1_8 : V8.cell? ⟨V5.heap.size, 1, none⟩ = some (.slice A_x1 x1_Things.length c_x1) := cell_later hB8 bx1_1_7
    have lx1_8 : V5.heap.size < V8.heap.size := World.block_lt_of_cell? _ _ bx1_0_8
    have bg0_0_8 : V8.cell? ⟨V6.heap.size, 0, none⟩ = some (.string (moveF (⟨x0_Appliance, x0_Things⟩ : Load) (⟨x1_Appliance, x1_Things⟩ : Load) x2 x3).1.Appliance) := cell_later hB8 bg0_0_7
    have bg0_1_8 : V8.cell? ⟨V6.heap.size, 1, none⟩ = some (.slice A_g0 (moveF (⟨x0_Appliance, x0_Things⟩ : Load) (⟨x1_Appliance, x1_Things⟩ : Load) x2 x3).1.Things.length c_g0) := cell_later hB8 bg0_1_7
    have lg0_8 : V6.heap.size < V8.heap.size := World.block_lt_of_cell? _ _ bg0_0_8
    have bg1_0_8 : V8.cell? ⟨V6.heap.size + 1, 0, none⟩ = some (.string (moveF (⟨x0_Appliance, x0_Things⟩ : Load) (⟨x1_Appliance, x1_Things⟩ : Load) x2 x3).2.1.Appliance) := cell_later hB8 bg1_0_7
    have bg1_1_8 : V8.cell? ⟨V6.heap.size + 1, 1, none⟩ = some (.slice A_g1 (moveF (⟨x0_Appliance, x0_Things⟩ : Load) (⟨x1_Appliance, x1_Things⟩ : Load) x2 x3).2.1.Things.length c_g1) := cell_later hB8 bg1_1_7
    have lg1_8 : V6.heap.size + 1 < V8.heap.size := World.block_lt_of_cell? _ _ bg1_0_8
    clear hk7 w0_7 w1_7 x0_7 x1_7 g0_7 g1_7 ba0_0_7 ba0_1_7 la0_7 ba1_0_7 ba1_1_7 la1_7 bw0_0_7 bw0_1_7 lw0_7 bw1_0_7 bw1_1_7 lw1_7 bx0_0_7 bx0_1_7 lx0_7 bx1_0_7 bx1_1_7 lx1_7 bg0_0_7 bg0_1_7 lg0_7 bg1_0_7 bg1_1_7 lg1_7
    clear hb8
    have hD10 := bl_drew (bl_refl V8)
    go_wp2_with fail
    go_region_held3 (fun w' => w'.cell? ⟨V4.heap.size, 0, none⟩ = some (.string x0_Appliance) ∧ w'.cell? ⟨V4.heap.size, 1, none⟩ = some (.slice A_x0 x0_Things.length c_x0) ∧ w'.cell? ⟨w.heap.size, 0, none⟩ = some (.string x0_Appliance) ∧ w'.cell? ⟨w.heap.size, 1, none⟩ = some (.slice A0 n0 c0) ∧ Below V8.heap.size V8 w') (first | exact ⟨cell_later hE10 bx0_0_8, cell_later hE10 bx0_1_8, cell_later hE10 ba0_0_8, cell_later hE10 ba0_1_8, hE10⟩ | exact ⟨cell_later hE9 bx0_0_8, cell_later hE9 bx0_1_8, cell_later hE9 ba0_0_8, cell_later hE9 ba0_1_8, hE9⟩ | exact ⟨cell_later hD10 bx0_0_8, cell_later hD10 bx0_1_8, cell_later hD10 ba0_0_8, cell_later hD10 ba0_1_8, hD10⟩) (first | (go_at_call 8; refine (toLoad_any x0_Appliance _ _ _ x0_Things _ hl0 (hs0.below (bl_trans hk8 hD10))).mono ?_; rintro e V9 ⟨A_y0, c_y0, rfl, ho_y0, hb9⟩; have hE9 := bl_trans hD10 hb9) | (go_at_call 10; refine (eqLoad_any _ _ _ _ _ _ _ _ _ _ _ (by omega) (x0_8.sl.below hE9) ho_y0.sl).mono ?_; rintro e V10 ⟨rfl, hb10⟩; have hE10 := bl_trans hE9 hb10))
    rw [sameB_refl]
    have hb10 := hE10
    clear hD10 hE9 hb9 ho_y0
    have hB10 := bl_trans (a := V8) (bl_refl _) hb10
    have hk10 := bl_trans hk8 hB10
    have z10 := Lib.hid hB10.size
    have w0_10 := w0_8.below hB10
    have w1_10 := w1_8.below hB10
    have x0_10 := x0_8.below hB10
    have x1_10 := x1_8.below hB10
    have g0_10 := g0_8.below hB10
    have g1_10 := g1_8.below hB10
    have ba0_0_10 : V10.cell? ⟨w.heap.size, 0, none⟩ = some (.string x0_Appliance) := cell_later hB10 ba0_0_8
    have ba0_1_10 : V10.cell? ⟨w.heap.size, 1, none⟩ = some (.slice A0 n0 c0) := cell_later hB10 ba0_1_8
    have la0_10 : w.heap.size < V10.heap.size := World.block_lt_of_cell? _ _ ba0_0_10
    have ba1_0_10 : V10.cell? ⟨w.heap.size + 1, 0, none⟩ = some (.string x1_Appliance) := cell_later hB10 ba1_0_8
    have ba1_1_10 : V10.cell? ⟨w.heap.size + 1, 1, none⟩ = some (.slice A1 n1 c1) := cell_later hB10 ba1_1_8
    have la1_10 : w.heap.size + 1 < V10.heap.size := World.block_lt_of_cell? _ _ ba1_0_10
    have bw0_0_10 : V10.cell? ⟨gw0, 0, none⟩ = some (.string (moveF (⟨x0_Appliance, x0_Things⟩ : Load) (⟨x1_Appliance, x1_Things⟩ : Load) x2 x3).1.Appliance) := cell_later hB10 bw0_0_8
    have bw0_1_10 : V10.cell? ⟨gw0, 1, none⟩ = some (.slice A_w0 (moveF (⟨x0_Appliance, x0_Things⟩ : Load) (⟨x1_Appliance, x1_Things⟩ : Load) x2 x3).1.Things.length c_w0) := cell_later hB10 bw0_1_8
    have lw0_10 : gw0 < V10.heap.size := World.block_lt_of_cell? _ _ bw0_0_10
    have bw1_0_10 : V10.cell? ⟨gw1, 0, none⟩ = some (.string (moveF (⟨x0_Appliance, x0_Things⟩ : Load) (⟨x1_Appliance, x1_Things⟩ : Load) x2 x3).2.1.Appliance) := cell_later hB10 bw1_0_8
    have bw1_1_10 : V10.cell? ⟨gw1, 1, none⟩ = some (.slice A_w1 (moveF (⟨x0_Appliance, x0_Things⟩ : Load) (⟨x1_Appliance, x1_Things⟩ : Load) x2 x3).2.1.Things.length c_w1) := cell_later hB10 bw1_1_8
    have lw1_10 : gw1 < V10.heap.size := World.block_lt_of_cell? _ _ bw1_0_10
    have bx0_0_10 : V10.cell? ⟨V4.heap.size, 0, none⟩ = some (.string x0_Appliance) := cell_later hB10 bx0_0_8
    have bx0_1_10 : V10.cell? ⟨V4.heap.size, 1, none⟩ = some (.slice A_x0 x0_Things.length c_x0) := cell_later hB10 bx0_1_8
    have lx0_10 : V4.heap.size < V10.heap.size := World.block_lt_of_cell? _ _ bx0_0_10
    have bx1_0_10 : V10.cell? ⟨V5.heap.size, 0, none⟩ = some (.string x1_Appliance) := cell_later hB10 bx1_0_8
    have bx1_1_10 : V10.cell? ⟨V5.heap.size, 1, none⟩ = some (.slice A_x1 x1_Things.length c_x1) := cell_later hB10 bx1_1_8
    have lx1_10 : V5.heap.size < V10.heap.size := World.block_lt_of_cell? _ _ bx1_0_10
    have bg0_0_10 : V10.cell? ⟨V6.heap.size, 0, none⟩ = some (.string (moveF (⟨x0_Appliance, x0_Things⟩ : Load) (⟨x1_Appliance, x1_Things⟩ : Load) x2 x3).1.Appliance) := cell_later hB10 bg0_0_8
    have bg0_1_10 : V10.cell? ⟨V6.heap.size, 1, none⟩ = some (.slice A_g0 (moveF (⟨x0_Appliance, x0_Things⟩ : Load) (⟨x1_Appliance, x1_Things⟩ : Load) x2 x3).1.Things.length c_g0) := cell_later hB10 bg0_1_8
    have lg0_10 : V6.heap.size < V10.heap.size := World.block_lt_of_cell? _ _ bg0_0_10
    have bg1_0_10 : V10.cell? ⟨V6.heap.size + 1, 0, none⟩ = some (.string (moveF (⟨x0_Appliance, x0_Things⟩ : Load) (⟨x1_Appliance, x1_Things⟩ : Load) x2 x3).2.1.Appliance) := cell_later hB10 bg1_0_8
    have bg1_1_10 : V10.cell? ⟨V6.heap.size + 1, 1, none⟩ = some (.slice A_g1 (moveF (⟨x0_Appliance, x0_Things⟩ : Load) (⟨x1_Appliance, x1_Things⟩ : Load) x2 x3).2.1.Things.length c_g1) := cell_later hB10 bg1_1_8
    have lg1_10 : V6.heap.size + 1 < V10.heap.size := World.block_lt_of_cell? _ _ bg1_0_10
    clear hk8 w0_8 w1_8 x0_8 x1_8 g0_8 g1_8 ba0_0_8 ba0_1_8 la0_8 ba1_0_8 ba1_1_8 la1_8 bw0_0_8 bw0_1_8 lw0_8 bw1_0_8 bw1_1_8 lw1_8 bx0_0_8 bx0_1_8 lx0_8 bx1_0_8 bx1_1_8 lx1_8 bg0_0_8 bg0_1_8 lg0_8 bg1_0_8 bg1_1_8 lg1_8
    clear hb10
    have hD12 := bl_drew (bl_refl V10)
    go_wp2_with fail
    go_region_held3 (fun w' => w'.cell? ⟨V5.heap.size, 0, none⟩ = some (.string x1_Appliance) ∧ w'.cell? ⟨V5.heap.size, 1, none⟩ = some (.slice A_x1 x1_Things.length c_x1) ∧ w'.cell? ⟨w.heap.size + 1, 0, none⟩ = some (.string x1_Appliance) ∧ w'.cell? ⟨w.heap.size + 1, 1, none⟩ = some (.slice A1 n1 c1) ∧ Below V10.heap.size V10 w') (first | exact ⟨cell_later hE12 bx1_0_10, cell_later hE12 bx1_1_10, cell_later hE12 ba1_0_10, cell_later hE12 ba1_1_10, hE12⟩ | exact ⟨cell_later hE11 bx1_0_10, cell_later hE11 bx1_1_10, cell_later hE11 ba1_0_10, cell_later hE11 ba1_1_10, hE11⟩ | exact ⟨cell_later hD12 bx1_0_10, cell_later hD12 bx1_1_10, cell_later hD12 ba1_0_10, cell_later hD12 ba1_1_10, hD12⟩) (first | (go_at_call 8; refine (toLoad_any x1_Appliance _ _ _ x1_Things _ hl1 (hs1.below (bl_trans hk10 hD12))).mono ?_; rintro e V11 ⟨A_y1, c_y1, rfl, ho_y1, hb11⟩; have hE11 := bl_trans hD12 hb11) | (go_at_call 10; refine (eqLoad_any _ _ _ _ _ _ _ _ _ _ _ (by omega) (x1_10.sl.below hE11) ho_y1.sl).mono ?_; rintro e V12 ⟨rfl, hb12⟩; have hE12 := bl_trans hE11 hb12))
    rw [sameB_refl]
    have hb12 := hE12
    clear hD12 hE11 hb11 ho_y1
    have hB12 := bl_trans (a := V10) (bl_refl _) hb12
    have hk12 := bl_trans hk10 hB12
    have z12 := Lib.hid hB12.size
    have w0_12 := w0_10.below hB12
    have w1_12 := w1_10.below hB12
    have x0_12 := x0_10.below hB12
    have x1_12 := x1_10.below hB12
    have g0_12 := g0_10.below hB12
    have g1_12 := g1_10.below hB12
    have ba0_0_12 : V12.cell? ⟨w.heap.size, 0, none⟩ = some (.string x0_Appliance) := cell_later hB12 ba0_0_10
    have ba0_1_12 : V12.cell? ⟨w.heap.size, 1, none⟩ = some (.slice A0 n0 c0) := cell_later hB12 ba0_1_10
    have la0_12 : w.heap.size < V12.heap.size := World.block_lt_of_cell? _ _ ba0_0_12
    have ba1_0_12 : V12.cell? ⟨w.heap.size + 1, 0, none⟩ = some (.string x1_Appliance) := cell_later hB12 ba1_0_10
    have ba1_1_12 : V12.cell? ⟨w.heap.size + 1, 1, none⟩ = some (.slice A1 n1 c1) := cell_later hB12 ba1_1_10
    have la1_12 : w.heap.size + 1 < V12.heap.size := World.block_lt_of_cell? _ _ ba1_0_12
    have bw0_0_12 : V12.cell? ⟨gw0, 0, none⟩ = some (.string (moveF (⟨x0_Appliance, x0_Things⟩ : Load) (⟨x1_Appliance, x1_Things⟩ : Load) x2 x3).1.Appliance) := cell_later hB12 bw0_0_10
    have bw0_1_12 : V12.cell? ⟨gw0, 1, none⟩ = some (.slice A_w0 (moveF (⟨x0_Appliance, x0_Things⟩ : Load) (⟨x1_Appliance, x1_Things⟩ : Load) x2 x3).1.Things.length c_w0) := cell_later hB12 bw0_1_10
    have lw0_12 : gw0 < V12.heap.size := World.block_lt_of_cell? _ _ bw0_0_12
    have bw1_0_12 : V12.cell? ⟨gw1, 0, none⟩ = some (.string (moveF (⟨x0_Appliance, x0_Things⟩ : Load) (⟨x1_Appliance, x1_Things⟩ : Load) x2 x3).2.1.Appliance) := cell_later hB12 bw1_0_10
    have bw1_1_12 : V12.cell? ⟨gw1, 1, none⟩ = some (.slice A_w1 (moveF (⟨x0_Appliance, x0_Things⟩ : Load) (⟨x1_Appliance, x1_Things⟩ : Load) x2 x3).2.1.Things.length c_w1) := cell_later hB12 bw1_1_10
    have lw1_12 : gw1 < V12.heap.size := World.block_lt_of_cell? _ _ bw1_0_12
    have bx0_0_12 : V12.cell? ⟨V4.heap.size, 0, none⟩ = some (.string x0_Appliance) := cell_later hB12 bx0_0_10
    have bx0_1_12 : V12.cell? ⟨V4.heap.size, 1, none⟩ = some (.slice A_x0 x0_Things.length c_x0) := cell_later hB12 bx0_1_10
    have lx0_12 : V4.heap.size < V12.heap.size := World.block_lt_of_cell? _ _ bx0_0_12
    have bx1_0_12 : V12.cell? ⟨V5.heap.size, 0, none⟩ = some (.string x1_Appliance) := cell_later hB12 bx1_0_10
    have bx1_1_12 : V12.cell? ⟨V5.heap.size, 1, none⟩ = some (.slice A_x1 x1_Things.length c_x1) := cell_later hB12 bx1_1_10
    have lx1_12 : V5.heap.size < V12.heap.size := World.block_lt_of_cell? _ _ bx1_0_12
    have bg0_0_12 : V12.cell? ⟨V6.heap.size, 0, none⟩ = some (.string (moveF (⟨x0_Appliance, x0_Things⟩ : Load) (⟨x1_Appliance, x1_Things⟩ : Load) x2 x3).1.Appliance) := cell_later hB12 bg0_0_10
    have bg0_1_12 : V12.cell? ⟨V6.heap.size, 1, none⟩ = some (.slice A_g0 (moveF (⟨x0_Appliance, x0_Things⟩ : Load) (⟨x1_Appliance, x1_Things⟩ : Load) x2 x3).1.Things.length c_g0) := cell_later hB12 bg0_1_10
    have lg0_12 : V6.heap.size < V12.heap.size := World.block_lt_of_cell? _ _ bg0_0_12
    have bg1_0_12 : V12.cell? ⟨V6.heap.size + 1, 0, none⟩ = some (.string (moveF (⟨x0_Appliance, x0_Things⟩ : Load) (⟨x1_Appliance, x1_Things⟩ : Load) x2 x3).2.1.Appliance) := cell_later hB12 bg1_0_10
    have bg1_1_12 : V12.cell? ⟨V6.heap.size + 1, 1, none⟩ = some (.slice A_g1 (moveF (⟨x0_Appliance, x0_Things⟩ : Load) (⟨x1_Appliance, x1_Things⟩ : Load) x2 x3).2.1.Things.length c_g1) := cell_later hB12 bg1_1_10
    have lg1_12 : V6.heap.size + 1 < V12.heap.size := World.block_lt_of_cell? _ _ bg1_0_12
    clear hk10 w0_10 w1_10 x0_10 x1_10 g0_10 g1_10 ba0_0_10 ba0_1_10 la0_10 ba1_0_10 ba1_1_10 la1_10 bw0_0_10 bw0_1_10 lw0_10 bw1_0_10 bw1_1_10 lw1_10 bx0_0_10 bx0_1_10 lx0_10 bx1_0_10 bx1_1_10 lx1_10 bg0_0_10 bg0_1_10 lg0_10 bg1_0_10 bg1_1_10 lg1_10
    clear hb12
    go_wp2_with fail
    refine (markLoad_any _ _ _ _ _ _ _ _ (by omega) (by omega) (by omega) x0_12).mono ?_
    rintro e V13 ⟨rfl, hm13, hg13⟩
    have hf13 := OnlyF.of_gb hg13
    have hk13 := below_only hk12 hf13 Hi_x0.out (by (try simp only [World.size_alloc]); (try simp only [World.size_drew]); have := z1.out; have := z2.out; have := z3.out; have := z4.out; have := z5.out; have := z6.out; have := z7.out; have := z8.out; have := z10.out; have := z12.out; omega)
    have z13 := Lib.hid hf13.size
    have w0_13 := w0_12.only hf13 (Hi_w0.out.apart Hi_x0.out (by (try simp only [World.size_alloc]); (try simp only [World.size_drew]); have := z1.out; have := z2.out; have := z3.out; have := z4.out; have := z5.out; have := z6.out; have := z7.out; have := z8.out; have := z10.out; have := z12.out; have := z13.out; omega))
    have w1_13 := w1_12.only hf13 (Hi_w1.out.apart Hi_x0.out (by (try simp only [World.size_alloc]); (try simp only [World.size_drew]); have := z1.out; have := z2.out; have := z3.out; have := z4.out; have := z5.out; have := z6.out; have := z7.out; have := z8.out; have := z10.out; have := z12.out; have := z13.out; omega))
    have x1_13 := x1_12.only hf13 (Hi_x1.out.apart Hi_x0.out (by (try simp only [World.size_alloc]); (try simp only [World.size_drew]); have := z1.out; have := z2.out; have := z3.out; have := z4.out; have := z5.out; have := z6.out; have := z7.out; have := z8.out; have := z10.out; have := z12.out; have := z13.out; omega))
    have g0_13 := g0_12.only hf13 (Hi_g0.out.apart Hi_x0.out (by (try simp only [World.size_alloc]); (try simp only [World.size_drew]); have := z1.out; have := z2.out; have := z3.out; have := z4.out; have := z5.out; have := z6.out; have := z7.out; have := z8.out; have := z10.out; have := z12.out; have := z13.out; omega))
    have g1_13 := g1_12.only hf13 (Hi_g1.out.apart Hi_x0.out (by (try simp only [World.size_alloc]); (try simp only [World.size_drew]); have := z1.out; have := z2.out; have := z3.out; have := z4.out; have := z5.out; have := z6.out; have := z7.out; have := z8.out; have := z10.out; have := z12.out; have := z13.out; omega))
    have ba0_0_13 : V13.cell? ⟨w.heap.size, 0, none⟩ = some (.string x0_Appliance) := hf13.keeps ba0_0_12 (fun hm => by have := Hi_x0.out _ hm; (try dsimp only at this); (try simp only [World.size_alloc] at this); (try simp only [World.size_drew] at this); have := z1.out; have := z2.out; have := z3.out; have := z4.out; have := z5.out; have := z6.out; have := z7.out; have := z8.out; have := z10.out; have := z12.out; have := z13.out; omega)
    have ba0_1_13 : V13.cell? ⟨w.heap.size, 1, none⟩ = some (.slice A0 n0 c0) := hf13.keeps ba0_1_12 (fun hm => by have := Hi_x0.out _ hm; (try dsimp only at this); (try simp only [World.size_alloc] at this); (try simp only [World.size_drew] at this); have := z1.out; have := z2.out; have := z3.out; have := z4.out; have := z5.out; have := z6.out; have := z7.out; have := z8.out; have := z10.out; have := z12.out; have := z13.out; omega)
    have la0_13 : w.heap.size < V13.heap.size := World.block_lt_of_cell? _ _ ba0_0_13
    have ba1_0_13 : V13.cell? ⟨w.heap.size + 1, 0, none⟩ = some (.string x1_Appliance) := hf13.keeps ba1_0_12 (fun hm => by have := Hi_x0.out _ hm; (try dsimp only at this); (try simp only [World.size_alloc] at this); (try simp only [World.size_drew] at this); have := z1.out; have := z2.out; have := z3.out; have := z4.out; have := z5.out; have := z6.out; have := z7.out; have := z8.out; have := z10.out; have := z12.out; have := z13.out; omega)
    have ba1_1_13 : V13.cell? ⟨w.heap.size + 1, 1, none⟩ = some (.slice A1 n1 c1) := hf13.keeps ba1_1_12 (fun hm => by have := Hi_x0.out _ hm; (try dsimp only at this); (try simp only [World.size_alloc] at this); (try simp only [World.size_drew] at this); have := z1.out; have := z2.out; have := z3.out; have := z4.out; have := z5.out; have := z6.out; have := z7.out; have := z8.out; have := z10.out; have := z12.out; have := z13.out; omega)
    have la1_13 : w.heap.size + 1 < V13.heap.size := World.block_lt_of_cell? _ _ ba1_0_13
    have bw0_0_13 : V13.cell? ⟨gw0, 0, none⟩ = some (.string (moveF (⟨x0_Appliance, x0_Things⟩ : Load) (⟨x1_Appliance, x1_Things⟩ : Load) x2 x3).1.Appliance) := hf13.keeps bw0_0_12 (fun hm => by have := Hi_x0.out _ hm; (try dsimp only at this); (try simp only [World.size_alloc] at this); (try simp only [World.size_drew] at this); have := z1.out; have := z2.out; have := z3.out; have := z4.out; have := z5.out; have := z6.out; have := z7.out; have := z8.out; have := z10.out; have := z12.out; have := z13.out; omega)
    have bw0_1_13 : V13.cell? ⟨gw0, 1, none⟩ = some (.slice A_w0 (moveF (⟨x0_Appliance, x0_Things⟩ : Load) (⟨x1_Appliance, x1_Things⟩ : Load) x2 x3).1.Things.length c_w0) := hf13.keeps bw0_1_12 (fun hm => by have := Hi_x0.out _ hm; (try dsimp only at this); (try simp only [World.size_alloc] at this); (try simp only [World.size_drew] at this); have := z1.out; have := z2.out; have := z3.out; have := z4.out; have := z5.out; have := z6.out; have := z7.out; have := z8.out; have := z10.out; have := z12.out; have := z13.out; omega)
    have lw0_13 : gw0 < V13.heap.size := World.block_lt_of_cell? _ _ bw0_0_13
    have bw1_0_13 : V13.cell? ⟨gw1, 0, none⟩ = some (.string (moveF (⟨x0_Appliance, x0_Things⟩ : Load) (⟨x1_Appliance, x1_Things⟩ : Load) x2 x3).2.1.Appliance) := hf13.keeps bw1_0_12 (fun hm => by have := Hi_x0.out _ hm; (try dsimp only at this); (try simp only [World.size_alloc] at this); (try simp only [World.size_drew] at this); have := z1.out; have := z2.out; have := z3.out; have := z4.out; have := z5.out; have := z6.out; have := z7.out; have := z8.out; have := z10.out; have := z12.out; have := z13.out; omega)
    have bw1_1_13 : V13.cell? ⟨gw1, 1, none⟩ = some (.slice A_w1 (moveF (⟨x0_Appliance, x0_Things⟩ : Load) (⟨x1_Appliance, x1_Things⟩ : Load) x2 x3).2.1.Things.length c_w1) := hf13.keeps bw1_1_12 (fun hm => by have := Hi_x0.out _ hm; (try dsimp only at this); (try simp only [World.size_alloc] at this); (try simp only [World.size_drew] at this); have := z1.out; have := z2.out; have := z3.out; have := z4.out; have := z5.out; have := z6.out; have := z7.out; have := z8.out; have := z10.out; have := z12.out; have := z13.out; omega)
    have lw1_13 : gw1 < V13.heap.size := World.block_lt_of_cell? _ _ bw1_0_13
    have bx0_0_13 : V13.cell? ⟨V4.heap.size, 0, none⟩ = some (.string x0_Appliance) := hf13.keeps bx0_0_12 (fun hm => by have := Hi_x0.out _ hm; (try dsimp only at this); (try simp only [World.size_alloc] at this); (try simp only [World.size_drew] at this); have := z1.out; have := z2.out; have := z3.out; have := z4.out; have := z5.out; have := z6.out; have := z7.out; have := z8.out; have := z10.out; have := z12.out; have := z13.out; omega)
    have bx0_1_13 : V13.cell? ⟨V4.heap.size, 1, none⟩ = some (.slice A_x0 x0_Things.length c_x0) := hf13.keeps bx0_1_12 (fun hm => by have := Hi_x0.out _ hm; (try dsimp only at this); (try simp only [World.size_alloc] at this); (try simp only [World.size_drew] at this); have := z1.out; have := z2.out; have := z3.out; have := z4.out; have := z5.out; have := z6.out; have := z7.out; have := z8.out; have := z10.out; have := z12.out; have := z13.out; omega)
    have lx0_13 : V4.heap.size < V13.heap.size := World.block_lt_of_cell? _ _ bx0_0_13
    have bx1_0_13 : V13.cell? ⟨V5.heap.size, 0, none⟩ = some (.string x1_Appliance) := hf13.keeps bx1_0_12 (fun hm => by have := Hi_x0.out _ hm; (try dsimp only at this); (try simp only [World.size_alloc] at this); (try simp only [World.size_drew] at this); have := z1.out; have := z2.out; have := z3.out; have := z4.out; have := z5.out; have := z6.out; have := z7.out; have := z8.out; have := z10.out; have := z12.out; have := z13.out; omega)
    have bx1_1_13 : V13.cell? ⟨V5.heap.size, 1, none⟩ = some (.slice A_x1 x1_Things.length c_x1) := hf13.keeps bx1_1_12 (fun hm => by have := Hi_x0.out _ hm; (try dsimp only at this); (try simp only [World.size_alloc] at this); (try simp only [World.size_drew] at this); have := z1.out; have := z2.out; have := z3.out; have := z4.out; have := z5.out; have := z6.out; have := z7.out; have := z8.out; have := z10.out; have := z12.out; have := z13.out; omega)
    have lx1_13 : V5.heap.size < V13.heap.size := World.block_lt_of_cell? _ _ bx1_0_13
    have bg0_0_13 : V13.cell? ⟨V6.heap.size, 0, none⟩ = some (.string (moveF (⟨x0_Appliance, x0_Things⟩ : Load) (⟨x1_Appliance, x1_Things⟩ : Load) x2 x3).1.Appliance) := hf13.keeps bg0_0_12 (fun hm => by have := Hi_x0.out _ hm; (try dsimp only at this); (try simp only [World.size_alloc] at this); (try simp only [World.size_drew] at this); have := z1.out; have := z2.out; have := z3.out; have := z4.out; have := z5.out; have := z6.out; have := z7.out; have := z8.out; have := z10.out; have := z12.out; have := z13.out; omega)
    have bg0_1_13 : V13.cell? ⟨V6.heap.size, 1, none⟩ = some (.slice A_g0 (moveF (⟨x0_Appliance, x0_Things⟩ : Load) (⟨x1_Appliance, x1_Things⟩ : Load) x2 x3).1.Things.length c_g0) := hf13.keeps bg0_1_12 (fun hm => by have := Hi_x0.out _ hm; (try dsimp only at this); (try simp only [World.size_alloc] at this); (try simp only [World.size_drew] at this); have := z1.out; have := z2.out; have := z3.out; have := z4.out; have := z5.out; have := z6.out; have := z7.out; have := z8.out; have := z10.out; have := z12.out; have := z13.out; omega)
    have lg0_13 : V6.heap.size < V13.heap.size := World.block_lt_of_cell? _ _ bg0_0_13
    have bg1_0_13 : V13.cell? ⟨V6.heap.size + 1, 0, none⟩ = some (.string (moveF (⟨x0_Appliance, x0_Things⟩ : Load) (⟨x1_Appliance, x1_Things⟩ : Load) x2 x3).2.1.Appliance) := hf13.keeps bg1_0_12 (fun hm => by have := Hi_x0.out _ hm; (try dsimp only at this); (try simp only [World.size_alloc] at this); (try simp only [World.size_drew] at this); have := z1.out; have := z2.out; have := z3.out; have := z4.out; have := z5.out; have := z6.out; have := z7.out; have := z8.out; have := z10.out; have := z12.out; have := z13.out; omega)
    have bg1_1_13 : V13.cell? ⟨V6.heap.size + 1, 1, none⟩ = some (.slice A_g1 (moveF (⟨x0_Appliance, x0_Things⟩ : Load) (⟨x1_Appliance, x1_Things⟩ : Load) x2 x3).2.1.Things.length c_g1) := hf13.keeps bg1_1_12 (fun hm => by have := Hi_x0.out _ hm; (try dsimp only at this); (try simp only [World.size_alloc] at this); (try simp only [World.size_drew] at this); have := z1.out; have := z2.out; have := z3.out; have := z4.out; have := z5.out; have := z6.out; have := z7.out; have := z8.out; have := z10.out; have := z12.out; have := z13.out; omega)
    have lg1_13 : V6.heap.size + 1 < V13.heap.size := World.block_lt_of_cell? _ _ bg1_0_13
    clear hk12 x0_12 w0_12 w1_12 x1_12 g0_12 g1_12 ba0_0_12 ba0_1_12 la0_12 ba1_0_12 ba1_1_12 la1_12 bw0_0_12 bw0_1_12 lw0_12 bw1_0_12 bw1_1_12 lw1_12 bx0_0_12 bx0_1_12 lx0_12 bx1_0_12 bx1_1_12 lx1_12 bg0_0_12 bg0_1_12 lg0_12 bg1_0_12 bg1_1_12 lg1_12 hg13 hf13
    go_wp2_with fail
    refine (markLoad_any _ _ _ _ _ _ _ _ (by omega) (by omega) (by omega) x1_13).mono ?_
    rintro e V14 ⟨rfl, hm14, hg14⟩
    have hf14 := OnlyF.of_gb hg14
    have hk14 := below_only hk13 hf14 Hi_x1.out (by (try simp only [World.size_alloc]); (try simp only [World.size_drew]); have := z1.out; have := z2.out; have := z3.out; have := z4.out; have := z5.out; have := z6.out; have := z7.out; have := z8.out; have := z10.out; have := z12.out; have := z13.out; omega)
    have z14 := Lib.hid hf14.size
    have w0_14 := w0_13.only hf14 (Hi_w0.out.apart Hi_x1.out (by (try simp only [World.size_alloc]); (try simp only [World.size_drew]); have := z1.out; have := z2.out; have := z3.out; have := z4.out; have := z5.out; have := z6.out; have := z7.out; have := z8.out; have := z10.out; have := z12.out; have := z13.out; have := z14.out; omega))
    have w1_14 := w1_13.only hf14 (Hi_w1.out.apart Hi_x1.out (by (try simp only [World.size_alloc]); (try simp only [World.size_drew]); have := z1.out; have := z2.out; have := z3.out; have := z4.out; have := z5.out; have := z6.out; have := z7.out; have := z8.out; have := z10.out; have := z12.out; have := z13.out; have := z14.out; omega))
    have x0_14 := hm13.only hf14 (Hi_x0.out.apart Hi_x1.out (by (try simp only [World.size_alloc]); (try simp only [World.size_drew]); have := z1.out; have := z2.out; have := z3.out; have := z4.out; have := z5.out; have := z6.out; have := z7.out; have := z8.out; have := z10.out; have := z12.out; have := z13.out; have := z14.out; omega))
    have g0_14 := g0_13.only hf14 (Hi_g0.out.apart Hi_x1.out (by (try simp only [World.size_alloc]); (try simp only [World.size_drew]); have := z1.out; have := z2.out; have := z3.out; have := z4.out; have := z5.out; have := z6.out; have := z7.out; have := z8.out; have := z10.out; have := z12.out; have := z13.out; have := z14.out; omega))
    have g1_14 := g1_13.only hf14 (Hi_g1.out.apart Hi_x1.out (by (try simp only [World.size_alloc]); (try simp only [World.size_drew]); have := z1.out; have := z2.out; have := z3.out; have := z4.out; have := z5.out; have := z6.out; have := z7.out; have := z8.out; have := z10.out; have := z12.out; have := z13.out; have := z14.out; omega))
    have ba0_0_14 : V14.cell? ⟨w.heap.size, 0, none⟩ = some (.string x0_Appliance) := hf14.keeps ba0_0_13 (fun hm => by have := Hi_x1.out _ hm; (try dsimp only at this); (try simp only [World.size_alloc] at this); (try simp only [World.size_drew] at this); have := z1.out; have := z2.out; have := z3.out; have := z4.out; have := z5.out; have := z6.out; have := z7.out; have := z8.out; have := z10.out; have := z12.out; have := z13.out; have := z14.out; omega)
    have ba0_1_14 : V14.cell? ⟨w.heap.size, 1, none⟩ = some (.slice A0 n0 c0) := hf14.keeps ba0_1_13 (fun hm => by have := Hi_x1.out _ hm; (try dsimp only at this); (try simp only [World.size_alloc] at this); (try simp only [World.size_drew] at this); have := z1.out; have := z2.out; have := z3.out; have := z4.out; have := z5.out; have := z6.out; have := z7.out; have := z8.out; have := z10.out; have := z12.out; have := z13.out; have := z14.out; omega)
    have la0_14 : w.heap.size < V14.heap.size := World.block_lt_of_cell? _ _ ba0_0_14
    have ba1_0_14 : V14.cell? ⟨w.heap.size + 1, 0, none⟩ = some (.string x1_Appliance) := hf14.keeps ba1_0_13 (fun hm => by have := Hi_x1.out _ hm; (try dsimp only at this); (try simp only [World.size_alloc] at this); (try simp only [World.size_drew] at this); have := z1.out; have := z2.out; have := z3.out; have := z4.out; have := z5.out; have := z6.out; have := z7.out; have := z8.out; have := z10.out; have := z12.out; have := z13.out; have := z14.out; omega)
    have ba1_1_14 : V14.cell? ⟨w.heap.size + 1, 1, none⟩ = some (.slice A1 n1 c1) := hf14.keeps ba1_1_13 (fun hm => by have := Hi_x1.out _ hm; (try dsimp only at this); (try simp only [World.size_alloc] at this); (try simp only [World.size_drew] at this); have := z1.out; have := z2.out; have := z3.out; have := z4.out; have := z5.out; have := z6.out; have := z7.out; have := z8.out; have := z10.out; have := z12.out; have := z13.out; have := z14.out; omega)
    have la1_14 : w.heap.size + 1 < V14.heap.size := World.block_lt_of_cell? _ _ ba1_0_14
    have bw0_0_14 : V14.cell? ⟨gw0, 0, none⟩ = some (.string (moveF (⟨x0_Appliance, x0_Things⟩ : Load) (⟨x1_Appliance, x1_Things⟩ : Load) x2 x3).1.Appliance) := hf14.keeps bw0_0_13 (fun hm => by have := Hi_x1.out _ hm; (try dsimp only at this); (try simp only [World.size_alloc] at this); (try simp only [World.size_drew] at this); have := z1.out; have := z2.out; have := z3.out; have := z4.out; have := z5.out; have := z6.out; have := z7.out; have := z8.out; have := z10.out; have := z12.out; have := z13.out; have := z14.out; omega)
    have bw0_1_14 : V14.cell? ⟨gw0, 1, none⟩ = some (.slice A_w0 (moveF (⟨x0_Appliance, x0_Things⟩ : Load) (⟨x1_Appliance, x1_Things⟩ : Load) x2 x3).1.Things.length c_w0) := hf14.keeps bw0_1_13 (fun hm => by have := Hi_x1.out _ hm; (try dsimp only at this); (try simp only [World.size_alloc] at this); (try simp only [World.size_drew] at this); have := z1.out; have := z2.out; have := z3.out; have := z4.out; have := z5.out; have := z6.out; have := z7.out; have := z8.out; have := z10.out; have := z12.out; have := z13.out; have := z14.out; omega)
    have lw0_14 : gw0 < V14.heap.size := World.block_lt_of_cell? _ _ bw0_0_14
    have bw1_0_14 : V14.cell? ⟨gw1, 0, none⟩ = some (.string (moveF (⟨x0_Appliance, x0_Things⟩ : Load) (⟨x1_Appliance, x1_Things⟩ : Load) x2 x3).2.1.Appliance) := hf14.keeps bw1_0_13 (fun hm => by have := Hi_x1.out _ hm; (try dsimp only at this); (try simp only [World.size_alloc] at this); (try simp only [World.size_drew] at this); have := z1.out; have := z2.out; have := z3.out; have := z4.out; have := z5.out; have := z6.out; have := z7.out; have := z8.out; have := z10.out; have := z12.out; have := z13.out; have := z14.out; omega)
    have bw1_1_14 : V14.cell? ⟨gw1, 1, none⟩ = some (.slice A_w1 (moveF (⟨x0_Appliance, x0_Things⟩ : Load) (⟨x1_Appliance, x1_Things⟩ : Load) x2 x3).2.1.Things.length c_w1) := hf14.keeps bw1_1_13 (fun hm => by have := Hi_x1.out _ hm; (try dsimp only at this); (try simp only [World.size_alloc] at this); (try simp only [World.size_drew] at this); have := z1.out; have := z2.out; have := z3.out; have := z4.out; have := z5.out; have := z6.out; have := z7.out; have := z8.out; have := z10.out; have := z12.out; have := z13.out; have := z14.out; omega)
    have lw1_14 : gw1 < V14.heap.size := World.block_lt_of_cell? _ _ bw1_0_14
    have bx0_0_14 : V14.cell? ⟨V4.heap.size, 0, none⟩ = some (.string x0_Appliance) := hf14.keeps bx0_0_13 (fun hm => by have := Hi_x1.out _ hm; (try dsimp only at this); (try simp only [World.size_alloc] at this); (try simp only [World.size_drew] at this); have := z1.out; have := z2.out; have := z3.out; have := z4.out; have := z5.out; have := z6.out; have := z7.out; have := z8.out; have := z10.out; have := z12.out; have := z13.out; have := z14.out; omega)
    have bx0_1_14 : V14.cell? ⟨V4.heap.size, 1, none⟩ = some (.slice A_x0 x0_Things.length c_x0) := hf14.keeps bx0_1_13 (fun hm => by have := Hi_x1.out _ hm; (try dsimp only at this); (try simp only [World.size_alloc] at this); (try simp only [World.size_drew] at this); have := z1.out; have := z2.out; have := z3.out; have := z4.out; have := z5.out; have := z6.out; have := z7.out; have := z8.out; have := z10.out; have := z12.out; have := z13.out; have := z14.out; omega)
    have lx0_14 : V4.heap.size < V14.heap.size := World.block_lt_of_cell? _ _ bx0_0_14
    have bx1_0_14 : V14.cell? ⟨V5.heap.size, 0, none⟩ = some (.string x1_Appliance) := hf14.keeps bx1_0_13 (fun hm => by have := Hi_x1.out _ hm; (try dsimp only at this); (try simp only [World.size_alloc] at this); (try simp only [World.size_drew] at this); have := z1.out; have := z2.out; have := z3.out; have := z4.out; have := z5.out; have := z6.out; have := z7.out; have := z8.out; have := z10.out; have := z12.out; have := z13.out; have := z14.out; omega)
    have bx1_1_14 : V14.cell? ⟨V5.heap.size, 1, none⟩ = some (.slice A_x1 x1_Things.length c_x1) := hf14.keeps bx1_1_13 (fun hm => by have := Hi_x1.out _ hm; (try dsimp only at this); (try simp only [World.size_alloc] at this); (try simp only [World.size_drew] at this); have := z1.out; have := z2.out; have := z3.out; have := z4.out; have := z5.out; have := z6.out; have := z7.out; have := z8.out; have := z10.out; have := z12.out; have := z13.out; have := z14.out; omega)
    have lx1_14 : V5.heap.size < V14.heap.size := World.block_lt_of_cell? _ _ bx1_0_14
    have bg0_0_14 : V14.cell? ⟨V6.heap.size, 0, none⟩ = some (.string (moveF (⟨x0_Appliance, x0_Things⟩ : Load) (⟨x1_Appliance, x1_Things⟩ : Load) x2 x3).1.Appliance) := hf14.keeps bg0_0_13 (fun hm => by have := Hi_x1.out _ hm; (try dsimp only at this); (try simp only [World.size_alloc] at this); (try simp only [World.size_drew] at this); have := z1.out; have := z2.out; have := z3.out; have := z4.out; have := z5.out; have := z6.out; have := z7.out; have := z8.out; have := z10.out; have := z12.out; have := z13.out; have := z14.out; omega)
    have bg0_1_14 : V14.cell? ⟨V6.heap.size, 1, none⟩ = some (.slice A_g0 (moveF (⟨x0_Appliance, x0_Things⟩ : Load) (⟨x1_Appliance, x1_Things⟩ : Load) x2 x3).1.Things.length c_g0) := hf14.keeps bg0_1_13 (fun hm => by have := Hi_x1.out _ hm; (try dsimp only at this); (try simp only [World.size_alloc] at this); (try simp only [World.size_drew] at this); have := z1.out; have := z2.out; have := z3.out; have := z4.out; have := z5.out; have := z6.out; have := z7.out; have := z8.out; have := z10.out; have := z12.out; have := z13.out; have := z14.out; omega)
    have lg0_14 : V6.heap.size < V14.heap.size := World.block_lt_of_cell? _ _ bg0_0_14
    have bg1_0_14 : V14.cell? ⟨V6.heap.size + 1, 0, none⟩ = some (.string (moveF (⟨x0_Appliance, x0_Things⟩ : Load) (⟨x1_Appliance, x1_Things⟩ : Load) x2 x3).2.1.Appliance) := hf14.keeps bg1_0_13 (fun hm => by have := Hi_x1.out _ hm; (try dsimp only at this); (try simp only [World.size_alloc] at this); (try simp only [World.size_drew] at this); have := z1.out; have := z2.out; have := z3.out; have := z4.out; have := z5.out; have := z6.out; have := z7.out; have := z8.out; have := z10.out; have := z12.out; have := z13.out; have := z14.out; omega)
    have bg1_1_14 : V14.cell? ⟨V6.heap.size + 1, 1, none⟩ = some (.slice A_g1 (moveF (⟨x0_Appliance, x0_Things⟩ : Load) (⟨x1_Appliance, x1_Things⟩ : Load) x2 x3).2.1.Things.length c_g1) := hf14.keeps bg1_1_13 (fun hm => by have := Hi_x1.out _ hm; (try dsimp only at this); (try simp only [World.size_alloc] at this); (try simp only [World.size_drew] at this); have := z1.out; have := z2.out; have := z3.out; have := z4.out; have := z5.out; have := z6.out; have := z7.out; have := z8.out; have := z10.out; have := z12.out; have := z13.out; have := z14.out; omega)
    have lg1_14 : V6.heap.size + 1 < V14.heap.size := World.block_lt_of_cell? _ _ bg1_0_14
    clear hk13 x1_13 w0_13 w1_13 hm13 g0_13 g1_13 ba0_0_13 ba0_1_13 la0_13 ba1_0_13 ba1_1_13 la1_13 bw0_0_13 bw0_1_13 lw0_13 bw1_0_13 bw1_1_13 lw1_13 bx0_0_13 bx0_1_13 lx0_13 bx1_0_13 bx1_1_13 lx1_13 bg0_0_13 bg0_1_13 lg0_13 bg1_0_13 bg1_1_13 lg1_13 hg14 hf14
    clear x0_14 Hi_x0 bx0_0_14 bx0_1_14 lx0_14
    clear hm14 Hi_x1 bx1_0_14 bx1_1_14 lx1_14
    go_wp2_with fail
    refine (eqLoad_any _ _ _ _ _ _ _ _ _ _ _ (by omega) g0_14.sl w0_14.sl).mono ?_
    rintro e V15 ⟨rfl, hb15⟩
    rw [sameB_refl]
    have hB15 := bl_trans (a := V14) (bl_refl _) hb15
    have hk15 := bl_trans hk14 hB15
    have z15 := Lib.hid hB15.size
    have w0_15 := w0_14.below hB15
    have w1_15 := w1_14.below hB15
    have g0_15 := g0_14.below hB15
    have g1_15 := g1_14.below hB15
    have ba0_0_15 : V15.cell? ⟨w.heap.size, 0, none⟩ = some (.string x0_Appliance) := cell_later hB15 ba0_0_14
    have ba0_1_15 : V15.cell? ⟨w.heap.size, 1, none⟩ = some (.slice A0 n0 c0) := cell_later hB15 ba0_1_14
    have la0_15 : w.heap.size < V15.heap.size := World.block_lt_of_cell? _ _ ba0_0_15
    have ba1_0_15 : V15.cell? ⟨w.heap.size + 1, 0, none⟩ = some (.string x1_Appliance) := cell_later hB15 ba1_0_14
    have ba1_1_15 : V15.cell? ⟨w.heap.size + 1, 1, none⟩ = some (.slice A1 n1 c1) := cell_later hB15 ba1_1_14
    have la1_15 : w.heap.size + 1 < V15.heap.size := World.block_lt_of_cell? _ _ ba1_0_15
    have bw0_0_15 : V15.cell? ⟨gw0, 0, none⟩ = some (.string (moveF (⟨x0_Appliance, x0_Things⟩ : Load) (⟨x1_Appliance, x1_Things⟩ : Load) x2 x3).1.Appliance) := cell_later hB15 bw0_0_14
    have bw0_1_15 : V15.cell? ⟨gw0, 1, none⟩ = some (.slice A_w0 (moveF (⟨x0_Appliance, x0_Things⟩ : Load) (⟨x1_Appliance, x1_Things⟩ : Load) x2 x3).1.Things.length c_w0) := cell_later hB15 bw0_1_14
    have lw0_15 : gw0 < V15.heap.size := World.block_lt_of_cell? _ _ bw0_0_15
    have bw1_0_15 : V15.cell? ⟨gw1, 0, none⟩ = some (.string (moveF (⟨x0_Appliance, x0_Things⟩ : Load) (⟨x1_Appliance, x1_Things⟩ : Load) x2 x3).2.1.Appliance) := cell_later hB15 bw1_0_14
    have bw1_1_15 : V15.cell? ⟨gw1, 1, none⟩ = some (.slice A_w1 (moveF (⟨x0_Appliance, x0_Things⟩ : Load) (⟨x1_Appliance, x1_Things⟩ : Load) x2 x3).2.1.Things.length c_w1) := cell_later hB15 bw1_1_14
    have lw1_15 : gw1 < V15.heap.size := World.block_lt_of_cell? _ _ bw1_0_15
    have bg0_0_15 : V15.cell? ⟨V6.heap.size, 0, none⟩ = some (.string (moveF (⟨x0_Appliance, x0_Things⟩ : Load) (⟨x1_Appliance, x1_Things⟩ : Load) x2 x3).1.Appliance) := cell_later hB15 bg0_0_14
    have bg0_1_15 : V15.cell? ⟨V6.heap.size, 1, none⟩ = some (.slice A_g0 (moveF (⟨x0_Appliance, x0_Things⟩ : Load) (⟨x1_Appliance, x1_Things⟩ : Load) x2 x3).1.Things.length c_g0) := cell_later hB15 bg0_1_14
    have lg0_15 : V6.heap.size < V15.heap.size := World.block_lt_of_cell? _ _ bg0_0_15
    have bg1_0_15 : V15.cell? ⟨V6.heap.size + 1, 0, none⟩ = some (.string (moveF (⟨x0_Appliance, x0_Things⟩ : Load) (⟨x1_Appliance, x1_Things⟩ : Load) x2 x3).2.1.Appliance) := cell_later hB15 bg1_0_14
    have bg1_1_15 : V15.cell? ⟨V6.heap.size + 1, 1, none⟩ = some (.slice A_g1 (moveF (⟨x0_Appliance, x0_Things⟩ : Load) (⟨x1_Appliance, x1_Things⟩ : Load) x2 x3).2.1.Things.length c_g1) := cell_later hB15 bg1_1_14
    have lg1_15 : V6.heap.size + 1 < V15.heap.size := World.block_lt_of_cell? _ _ bg1_0_15
    clear hk14 w0_14 w1_14 g0_14 g1_14 ba0_0_14 ba0_1_14 la0_14 ba1_0_14 ba1_1_14 la1_14 bw0_0_14 bw0_1_14 lw0_14 bw1_0_14 bw1_1_14 lw1_14 bg0_0_14 bg0_1_14 lg0_14 bg1_0_14 bg1_1_14 lg1_14
    clear hb15
    go_wp2_with fail
    refine (eqLoad_any _ _ _ _ _ _ _ _ _ _ _ (by omega) g1_15.sl w1_15.sl).mono ?_
    rintro e V16 ⟨rfl, hb16⟩
    rw [sameB_refl]
    have hB16 := bl_trans (a := V15) (bl_refl _) hb16
    have hk16 := bl_trans hk15 hB16
    have z16 := Lib.hid hB16.size
    have w0_16 := w0_15.below hB16
    have w1_16 := w1_15.below hB16
    have g0_16 := g0_15.below hB16
    have g1_16 := g1_15.below hB16
    have ba0_0_16 : V16.cell? ⟨w.heap.size, 0, none⟩ = some (.string x0_Appliance) := cell_later hB16 ba0_0_15
    have ba0_1_16 : V16.cell? ⟨w.heap.size, 1, none⟩ = some (.slice A0 n0 c0) := cell_later hB16 ba0_1_15
    have la0_16 : w.heap.size < V16.heap.size := World.block_lt_of_cell? _ _ ba0_0_16
    have ba1_0_16 : V16.cell? ⟨w.heap.size + 1, 0, none⟩ = some (.string x1_Appliance) := cell_later hB16 ba1_0_15
    have ba1_1_16 : V16.cell? ⟨w.heap.size + 1, 1, none⟩ = some (.slice A1 n1 c1) := cell_later hB16 ba1_1_15
    have la1_16 : w.heap.size + 1 < V16.heap.size := World.block_lt_of_cell? _ _ ba1_0_16
    have bw0_0_16 : V16.cell? ⟨gw0, 0, none⟩ = some (.string (moveF (⟨x0_Appliance, x0_Things⟩ : Load) (⟨x1_Appliance, x1_Things⟩ : Load) x2 x3).1.Appliance) := cell_later hB16 bw0_0_15
    have bw0_1_16 : V16.cell? ⟨gw0, 1, none⟩ = some (.slice A_w0 (moveF (⟨x0_Appliance, x0_Things⟩ : Load) (⟨x1_Appliance, x1_Things⟩ : Load) x2 x3).1.Things.length c_w0) := cell_later hB16 bw0_1_15
    have lw0_16 : gw0 < V16.heap.size := World.block_lt_of_cell? _ _ bw0_0_16
    have bw1_0_16 : V16.cell? ⟨gw1, 0, none⟩ = some (.string (moveF (⟨x0_Appliance, x0_Things⟩ : Load) (⟨x1_Appliance, x1_Things⟩ : Load) x2 x3).2.1.Appliance) := cell_later hB16 bw1_0_15
    have bw1_1_16 : V16.cell? ⟨gw1, 1, none⟩ = some (.slice A_w1 (moveF (⟨x0_Appliance, x0_Things⟩ : Load) (⟨x1_Appliance, x1_Things⟩ : Load) x2 x3).2.1.Things.length c_w1) := cell_later hB16 bw1_1_15
    have lw1_16 : gw1 < V16.heap.size := World.block_lt_of_cell? _ _ bw1_0_16
    have bg0_0_16 : V16.cell? ⟨V6.heap.size, 0, none⟩ = some (.string (moveF (⟨x0_Appliance, x0_Things⟩ : Load) (⟨x1_Appliance, x1_Things⟩ : Load) x2 x3).1.Appliance) := cell_later hB16 bg0_0_15
    have bg0_1_16 : V16.cell? ⟨V6.heap.size, 1, none⟩ = some (.slice A_g0 (moveF (⟨x0_Appliance, x0_Things⟩ : Load) (⟨x1_Appliance, x1_Things⟩ : Load) x2 x3).1.Things.length c_g0) := cell_later hB16 bg0_1_15
    have lg0_16 : V6.heap.size < V16.heap.size := World.block_lt_of_cell? _ _ bg0_0_16
    have bg1_0_16 : V16.cell? ⟨V6.heap.size + 1, 0, none⟩ = some (.string (moveF (⟨x0_Appliance, x0_Things⟩ : Load) (⟨x1_Appliance, x1_Things⟩ : Load) x2 x3).2.1.Appliance) := cell_later hB16 bg1_0_15
    have bg1_1_16 : V16.cell? ⟨V6.heap.size + 1, 1, none⟩ = some (.slice A_g1 (moveF (⟨x0_Appliance, x0_Things⟩ : Load) (⟨x1_Appliance, x1_Things⟩ : Load) x2 x3).2.1.Things.length c_g1) := cell_later hB16 bg1_1_15
    have lg1_16 : V6.heap.size + 1 < V16.heap.size := World.block_lt_of_cell? _ _ bg1_0_16
    clear hk15 w0_15 w1_15 g0_15 g1_15 ba0_0_15 ba0_1_15 la0_15 ba1_0_15 ba1_1_15 la1_15 bw0_0_15 bw0_1_15 lw0_15 bw1_0_15 bw1_1_15 lw1_15 bg0_0_15 bg0_1_15 lg0_15 bg1_0_15 bg1_1_15 lg1_15
    clear hb16
    go_wp2_with fail
    refine (markLoad_any _ _ _ _ _ _ _ _ (by omega) (by omega) (by omega) g0_16).mono ?_
    rintro e V17 ⟨rfl, hm17, hg17⟩
    have hf17 := OnlyF.of_gb hg17
    have hk17 := below_only hk16 hf17 Hi_g0.out (by (try simp only [World.size_alloc]); (try simp only [World.size_drew]); have := z1.out; have := z2.out; have := z3.out; have := z4.out; have := z5.out; have := z6.out; have := z7.out; have := z8.out; have := z10.out; have := z12.out; have := z13.out; have := z14.out; have := z15.out; have := z16.out; omega)
    have z17 := Lib.hid hf17.size
    have w0_17 := w0_16.only hf17 (Hi_w0.out.apart Hi_g0.out (by (try simp only [World.size_alloc]); (try simp only [World.size_drew]); have := z1.out; have := z2.out; have := z3.out; have := z4.out; have := z5.out; have := z6.out; have := z7.out; have := z8.out; have := z10.out; have := z12.out; have := z13.out; have := z14.out; have := z15.out; have := z16.out; have := z17.out; omega))
    have w1_17 := w1_16.only hf17 (Hi_w1.out.apart Hi_g0.out (by (try simp only [World.size_alloc]); (try simp only [World.size_drew]); have := z1.out; have := z2.out; have := z3.out; have := z4.out; have := z5.out; have := z6.out; have := z7.out; have := z8.out; have := z10.out; have := z12.out; have := z13.out; have := z14.out; have := z15.out; have := z16.out; have := z17.out; omega))
    have g1_17 := g1_16.only hf17 (apR hap_g.out)
    have ba0_0_17 : V17.cell? ⟨w.heap.size, 0, none⟩ = some (.string x0_Appliance) := hf17.keeps ba0_0_16 (fun hm => by have := Hi_g0.out _ hm; (try dsimp only at this); (try simp only [World.size_alloc] at this); (try simp only [World.size_drew] at this); have := z1.out; have := z2.out; have := z3.out; have := z4.out; have := z5.out; have := z6.out; have := z7.out; have := z8.out; have := z10.out; have := z12.out; have := z13.out; have := z14.out; have := z15.out; have := z16.out; have := z17.out; omega)
    have ba0_1_17 : V17.cell? ⟨w.heap.size, 1, none⟩ = some (.slice A0 n0 c0) := hf17.keeps ba0_1_16 (fun hm => by have := Hi_g0.out _ hm; (try dsimp only at this); (try simp only [World.size_alloc] at this); (try simp only [World.size_drew] at this); have := z1.out; have := z2.out; have := z3.out; have := z4.out; have := z5.out; have := z6.out; have := z7.out; have := z8.out; have := z10.out; have := z12.out; have := z13.out; have := z14.out; have := z15.out; have := z16.out; have := z17.out; omega)
    have la0_17 : w.heap.size < V17.heap.size := World.block_lt_of_cell? _ _ ba0_0_17
    have ba1_0_17 : V17.cell? ⟨w.heap.size + 1, 0, none⟩ = some (.string x1_Appliance) := hf17.keeps ba1_0_16 (fun hm => by have := Hi_g0.out _ hm; (try dsimp only at this); (try simp only [World.size_alloc] at this); (try simp only [World.size_drew] at this); have := z1.out; have := z2.out; have := z3.out; have := z4.out; have := z5.out; have := z6.out; have := z7.out; have := z8.out; have := z10.out; have := z12.out; have := z13.out; have := z14.out; have := z15.out; have := z16.out; have := z17.out; omega)
    have ba1_1_17 : V17.cell? ⟨w.heap.size + 1, 1, none⟩ = some (.slice A1 n1 c1) := hf17.keeps ba1_1_16 (fun hm => by have := Hi_g0.out _ hm; (try dsimp only at this); (try simp only [World.size_alloc] at this); (try simp only [World.size_drew] at this); have := z1.out; have := z2.out; have := z3.out; have := z4.out; have := z5.out; have := z6.out; have := z7.out; have := z8.out; have := z10.out; have := z12.out; have := z13.out; have := z14.out; have := z15.out; have := z16.out; have := z17.out; omega)
    have la1_17 : w.heap.size + 1 < V17.heap.size := World.block_lt_of_cell? _ _ ba1_0_17
    have bw0_0_17 : V17.cell? ⟨gw0, 0, none⟩ = some (.string (moveF (⟨x0_Appliance, x0_Things⟩ : Load) (⟨x1_Appliance, x1_Things⟩ : Load) x2 x3).1.Appliance) := hf17.keeps bw0_0_16 (fun hm => by have := Hi_g0.out _ hm; (try dsimp only at this); (try simp only [World.size_alloc] at this); (try simp only [World.size_drew] at this); have := z1.out; have := z2.out; have := z3.out; have := z4.out; have := z5.out; have := z6.out; have := z7.out; have := z8.out; have := z10.out; have := z12.out; have := z13.out; have := z14.out; have := z15.out; have := z16.out; have := z17.out; omega)
    have bw0_1_17 : V17.cell? ⟨gw0, 1, none⟩ = some (.slice A_w0 (moveF (⟨x0_Appliance, x0_Things⟩ : Load) (⟨x1_Appliance, x1_Things⟩ : Load) x2 x3).1.Things.length c_w0) := hf17.keeps bw0_1_16 (fun hm => by have := Hi_g0.out _ hm; (try dsimp only at this); (try simp only [World.size_alloc] at this); (try simp only [World.size_drew] at this); have := z1.out; have := z2.out; have := z3.out; have := z4.out; have := z5.out; have := z6.out; have := z7.out; have := z8.out; have := z10.out; have := z12.out; have := z13.out; have := z14.out; have := z15.out; have := z16.out; have := z17.out; omega)
    have lw0_17 : gw0 < V17.heap.size := World.block_lt_of_cell? _ _ bw0_0_17
    have bw1_0_17 : V17.cell? ⟨gw1, 0, none⟩ = some (.string (moveF (⟨x0_Appliance, x0_Things⟩ : Load) (⟨x1_Appliance, x1_Things⟩ : Load) x2 x3).2.1.Appliance) := hf17.keeps bw1_0_16 (fun hm => by have := Hi_g0.out _ hm; (try dsimp only at this); (try simp only [World.size_alloc] at this); (try simp only [World.size_drew] at this); have := z1.out; have := z2.out; have := z3.out; have := z4.out; have := z5.out; have := z6.out; have := z7.out; have := z8.out; have := z10.out; have := z12.out; have := z13.out; have := z14.out; have := z15.out; have := z16.out; have := z17.out; omega)
    have bw1_1_17 : V17.cell? ⟨gw1, 1, none⟩ = some (.slice A_w1 (moveF (⟨x0_Appliance, x0_Things⟩ : Load) (⟨x1_Appliance, x1_Things⟩ : Load) x2 x3).2.1.Things.length c_w1) := hf17.keeps bw1_1_16 (fun hm => by have := Hi_g0.out _ hm; (try dsimp only at this); (try simp only [World.size_alloc] at this); (try simp only [World.size_drew] at this); have := z1.out; have := z2.out; have := z3.out; have := z4.out; have := z5.out; have := z6.out; have := z7.out; have := z8.out; have := z10.out; have := z12.out; have := z13.out; have := z14.out; have := z15.out; have := z16.out; have := z17.out; omega)
    have lw1_17 : gw1 < V17.heap.size := World.block_lt_of_cell? _ _ bw1_0_17
    have bg0_0_17 : V17.cell? ⟨V6.heap.size, 0, none⟩ = some (.string (moveF (⟨x0_Appliance, x0_Things⟩ : Load) (⟨x1_Appliance, x1_Things⟩ : Load) x2 x3).1.Appliance) := hf17.keeps bg0_0_16 (fun hm => by have := Hi_g0.out _ hm; (try dsimp only at this); (try simp only [World.size_alloc] at this); (try simp only [World.size_drew] at this); have := z1.out; have := z2.out; have := z3.out; have := z4.out; have := z5.out; have := z6.out; have := z7.out; have := z8.out; have := z10.out; have := z12.out; have := z13.out; have := z14.out; have := z15.out; have := z16.out; have := z17.out; omega)
    have bg0_1_17 : V17.cell? ⟨V6.heap.size, 1, none⟩ = some (.slice A_g0 (moveF (⟨x0_Appliance, x0_Things⟩ : Load) (⟨x1_Appliance, x1_Things⟩ : Load) x2 x3).1.Things.length c_g0) := hf17.keeps bg0_1_16 (fun hm => by have := Hi_g0.out _ hm; (try dsimp only at this); (try simp only [World.size_alloc] at this); (try simp only [World.size_drew] at this); have := z1.out; have := z2.out; have := z3.out; have := z4.out; have := z5.out; have := z6.out; have := z7.out; have := z8.out; have := z10.out; have := z12.out; have := z13.out; have := z14.out; have := z15.out; have := z16.out; have := z17.out; omega)
    have lg0_17 : V6.heap.size < V17.heap.size := World.block_lt_of_cell? _ _ bg0_0_17
    have bg1_0_17 : V17.cell? ⟨V6.heap.size + 1, 0, none⟩ = some (.string (moveF (⟨x0_Appliance, x0_Things⟩ : Load) (⟨x1_Appliance, x1_Things⟩ : Load) x2 x3).2.1.Appliance) := hf17.keeps bg1_0_16 (fun hm => by have := Hi_g0.out _ hm; (try dsimp only at this); (try simp only [World.size_alloc] at this); (try simp only [World.size_drew] at this); have := z1.out; have := z2.out; have := z3.out; have := z4.out; have := z5.out; have := z6.out; have := z7.out; have := z8.out; have := z10.out; have := z12.out; have := z13.out; have := z14.out; have := z15.out; have := z16.out; have := z17.out; omega)
    have bg1_1_17 : V17.cell? ⟨V6.heap.size + 1, 1, none⟩ = some (.slice A_g1 (moveF (⟨x0_Appliance, x0_Things⟩ : Load) (⟨x1_Appliance, x1_Things⟩ : Load) x2 x3).2.1.Things.length c_g1) := hf17.keeps bg1_1_16 (fun hm => by have := Hi_g0.out _ hm; (try dsimp only at this); (try simp only [World.size_alloc] at this); (try simp only [World.size_drew] at this); have := z1.out; have := z2.out; have := z3.out; have := z4.out; have := z5.out; have := z6.out; have := z7.out; have := z8.out; have := z10.out; have := z12.out; have := z13.out; have := z14.out; have := z15.out; have := z16.out; have := z17.out; omega)
    have lg1_17 : V6.heap.size + 1 < V17.heap.size := World.block_lt_of_cell? _ _ bg1_0_17
    clear hk16 g0_16 w0_16 w1_16 g1_16 ba0_0_16 ba0_1_16 la0_16 ba1_0_16 ba1_1_16 la1_16 bw0_0_16 bw0_1_16 lw0_16 bw1_0_16 bw1_1_16 lw1_16 bg0_0_16 bg0_1_16 lg0_16 bg1_0_16 bg1_1_16 lg1_16 hg17 hf17
    go_wp2_with fail
    refine (markLoad_any _ _ _ _ _ _ _ _ (by omega) (by omega) (by omega) g1_17).mono ?_
    rintro e V18 ⟨rfl, hm18, hg18⟩
    have hf18 := OnlyF.of_gb hg18
    have hk18 := below_only hk17 hf18 Hi_g1.out (by (try simp only [World.size_alloc]); (try simp only [World.size_drew]); have := z1.out; have := z2.out; have := z3.out; have := z4.out; have := z5.out; have := z6.out; have := z7.out; have := z8.out; have := z10.out; have := z12.out; have := z13.out; have := z14.out; have := z15.out; have := z16.out; have := z17.out; omega)
    have z18 := Lib.hid hf18.size
    have w0_18 := w0_17.only hf18 (Hi_w0.out.apart Hi_g1.out (by (try simp only [World.size_alloc]); (try simp only [World.size_drew]); have := z1.out; have := z2.out; have := z3.out; have := z4.out; have := z5.out; have := z6.out; have := z7.out; have := z8.out; have := z10.out; have := z12.out; have := z13.out; have := z14.out; have := z15.out; have := z16.out; have := z17.out; have := z18.out; omega))
    have w1_18 := w1_17.only hf18 (Hi_w1.out.apart Hi_g1.out (by (try simp only [World.size_alloc]); (try simp only [World.size_drew]); have := z1.out; have := z2.out; have := z3.out; have := z4.out; have := z5.out; have := z6.out; have := z7.out; have := z8.out; have := z10.out; have := z12.out; have := z13.out; have := z14.out; have := z15.out; have := z16.out; have := z17.out; have := z18.out; omega))
    have g0_18 := hm17.only hf18 (apL hap_g.out)
    have ba0_0_18 : V18.cell? ⟨w.heap.size, 0, none⟩ = some (.string x0_Appliance) := hf18.keeps ba0_0_17 (fun hm => by have := Hi_g1.out _ hm; (try dsimp only at this); (try simp only [World.size_alloc] at this); (try simp only [World.size_drew] at this); have := z1.out; have := z2.out; have := z3.out; have := z4.out; have := z5.out; have := z6.out; have := z7.out; have := z8.out; have := z10.out; have := z12.out; have := z13.out; have := z14.out; have := z15.out; have := z16.out; have := z17.out; have := z18.out; omega)
    have ba0_1_18 : V18.cell? ⟨w.heap.size, 1, none⟩ = some (.slice A0 n0 c0) := hf18.keeps ba0_1_17 (fun hm => by have := Hi_g1.out _ hm; (try dsimp only at this); (try simp only [World.size_alloc] at this); (try simp only [World.size_drew] at this); have := z1.out; have := z2.out; have := z3.out; have := z4.out; have := z5.out; have := z6.out; have := z7.out; have := z8.out; have := z10.out; have := z12.out; have := z13.out; have := z14.out; have := z15.out; have := z16.out; have := z17.out; have := z18.out; omega)
    have la0_18 : w.heap.size < V18.heap.size := World.block_lt_of_cell? _ _ ba0_0_18
    have ba1_0_18 : V18.cell? ⟨w.heap.size + 1, 0, none⟩ = some (.string x1_Appliance) := hf18.keeps ba1_0_17 (fun hm => by have := Hi_g1.out _ hm; (try dsimp only at this); (try simp only [World.size_alloc] at this); (try simp only [World.size_drew] at this); have := z1.out; have := z2.out; have := z3.out; have := z4.out; have := z5.out; have := z6.out; have := z7.out; have := z8.out; have := z10.out; have := z12.out; have := z13.out; have := z14.out; have := z15.out; have := z16.out; have := z17.out; have := z18.out; omega)
    have ba1_1_18 : V18.cell? ⟨w.heap.size + 1, 1, none⟩ = some (.slice A1 n1 c1) := hf18.keeps ba1_1_17 (fun hm => by have := Hi_g1.out _ hm; (try dsimp only at this); (try simp only [World.size_alloc] at this); (try simp only [World.size_drew] at this); have := z1.out; have := z2.out; have := z3.out; have := z4.out; have := z5.out; have := z6.out; have := z7.out; have := z8.out; have := z10.out; have := z12.out; have := z13.out; have := z14.out; have := z15.out; have := z16.out; have := z17.out; have := z18.out; omega)
    have la1_18 : w.heap.size + 1 < V18.heap.size := World.block_lt_of_cell? _ _ ba1_0_18
    have bw0_0_18 : V18.cell? ⟨gw0, 0, none⟩ = some (.string (moveF (⟨x0_Appliance, x0_Things⟩ : Load) (⟨x1_Appliance, x1_Things⟩ : Load) x2 x3).1.Appliance) := hf18.keeps bw0_0_17 (fun hm => by have := Hi_g1.out _ hm; (try dsimp only at this); (try simp only [World.size_alloc] at this); (try simp only [World.size_drew] at this); have := z1.out; have := z2.out; have := z3.out; have := z4.out; have := z5.out; have := z6.out; have := z7.out; have := z8.out; have := z10.out; have := z12.out; have := z13.out; have := z14.out; have := z15.out; have := z16.out; have := z17.out; have := z18.out; omega)
    have bw0_1_18 : V18.cell? ⟨gw0, 1, none⟩ = some (.slice A_w0 (moveF (⟨x0_Appliance, x0_Things⟩ : Load) (⟨x1_Appliance, x1_Things⟩ : Load) x2 x3).1.Things.length c_w0) := hf18.keeps bw0_1_17 (fun hm => by have := Hi_g1.out _ hm; (try dsimp only at this); (try simp only [World.size_alloc] at this); (try simp only [World.size_drew] at this); have := z1.out; have := z2.out; have := z3.out; have := z4.out; have := z5.out; have := z6.out; have := z7.out; have := z8.out; have := z10.out; have := z12.out; have := z13.out; have := z14.out; have := z15.out; have := z16.out; have := z17.out; have := z18.out; omega)
    have lw0_18 : gw0 < V18.heap.size := World.block_lt_of_cell? _ _ bw0_0_18
    have bw1_0_18 : V18.cell? ⟨gw1, 0, none⟩ = some (.string (moveF (⟨x0_Appliance, x0_Things⟩ : Load) (⟨x1_Appliance, x1_Things⟩ : Load) x2 x3).2.1.Appliance) := hf18.keeps bw1_0_17 (fun hm => by have := Hi_g1.out _ hm; (try dsimp only at this); (try simp only [World.size_alloc] at this); (try simp only [World.size_drew] at this); have := z1.out; have := z2.out; have := z3.out; have := z4.out; have := z5.out; have := z6.out; have := z7.out; have := z8.out; have := z10.out; have := z12.out; have := z13.out; have := z14.out; have := z15.out; have := z16.out; have := z17.out; have := z18.out; omega)
    have bw1_1_18 : V18.cell? ⟨gw1, 1, none⟩ = some (.slice A_w1 (moveF (⟨x0_Appliance, x0_Things⟩ : Load) (⟨x1_Appliance, x1_Things⟩ : Load) x2 x3).2.1.Things.length c_w1) := hf18.keeps bw1_1_17 (fun hm => by have := Hi_g1.out _ hm; (try dsimp only at this); (try simp only [World.size_alloc] at this); (try simp only [World.size_drew] at this); have := z1.out; have := z2.out; have := z3.out; have := z4.out; have := z5.out; have := z6.out; have := z7.out; have := z8.out; have := z10.out; have := z12.out; have := z13.out; have := z14.out; have := z15.out; have := z16.out; have := z17.out; have := z18.out; omega)
    have lw1_18 : gw1 < V18.heap.size := World.block_lt_of_cell? _ _ bw1_0_18
    have bg0_0_18 : V18.cell? ⟨V6.heap.size, 0, none⟩ = some (.string (moveF (⟨x0_Appliance, x0_Things⟩ : Load) (⟨x1_Appliance, x1_Things⟩ : Load) x2 x3).1.Appliance) := hf18.keeps bg0_0_17 (fun hm => by have := Hi_g1.out _ hm; (try dsimp only at this); (try simp only [World.size_alloc] at this); (try simp only [World.size_drew] at this); have := z1.out; have := z2.out; have := z3.out; have := z4.out; have := z5.out; have := z6.out; have := z7.out; have := z8.out; have := z10.out; have := z12.out; have := z13.out; have := z14.out; have := z15.out; have := z16.out; have := z17.out; have := z18.out; omega)
    have bg0_1_18 : V18.cell? ⟨V6.heap.size, 1, none⟩ = some (.slice A_g0 (moveF (⟨x0_Appliance, x0_Things⟩ : Load) (⟨x1_Appliance, x1_Things⟩ : Load) x2 x3).1.Things.length c_g0) := hf18.keeps bg0_1_17 (fun hm => by have := Hi_g1.out _ hm; (try dsimp only at this); (try simp only [World.size_alloc] at this); (try simp only [World.size_drew] at this); have := z1.out; have := z2.out; have := z3.out; have := z4.out; have := z5.out; have := z6.out; have := z7.out; have := z8.out; have := z10.out; have := z12.out; have := z13.out; have := z14.out; have := z15.out; have := z16.out; have := z17.out; have := z18.out; omega)
    have lg0_18 : V6.heap.size < V18.heap.size := World.block_lt_of_cell? _ _ bg0_0_18
    have bg1_0_18 : V18.cell? ⟨V6.heap.size + 1, 0, none⟩ = some (.string (moveF (⟨x0_Appliance, x0_Things⟩ : Load) (⟨x1_Appliance, x1_Things⟩ : Load) x2 x3).2.1.Appliance) := hf18.keeps bg1_0_17 (fun hm => by have := Hi_g1.out _ hm; (try dsimp only at this); (try simp only [World.size_alloc] at this); (try simp only [World.size_drew] at this); have := z1.out; have := z2.out; have := z3.out; have := z4.out; have := z5.out; have := z6.out; have := z7.out; have := z8.out; have := z10.out; have := z12.out; have := z13.out; have := z14.out; have := z15.out; have := z16.out; have := z17.out; have := z18.out; omega)
    have bg1_1_18 : V18.cell? ⟨V6.heap.size + 1, 1, none⟩ = some (.slice A_g1 (moveF (⟨x0_Appliance, x0_Things⟩ : Load) (⟨x1_Appliance, x1_Things⟩ : Load) x2 x3).2.1.Things.length c_g1) := hf18.keeps bg1_1_17 (fun hm => by have := Hi_g1.out _ hm; (try dsimp only at this); (try simp only [World.size_alloc] at this); (try simp only [World.size_drew] at this); have := z1.out; have := z2.out; have := z3.out; have := z4.out; have := z5.out; have := z6.out; have := z7.out; have := z8.out; have := z10.out; have := z12.out; have := z13.out; have := z14.out; have := z15.out; have := z16.out; have := z17.out; have := z18.out; omega)
    have lg1_18 : V6.heap.size + 1 < V18.heap.size := World.block_lt_of_cell? _ _ bg1_0_18
    clear hk17 g1_17 w0_17 w1_17 hm17 ba0_0_17 ba0_1_17 la0_17 ba1_0_17 ba1_1_17 la1_17 bw0_0_17 bw0_1_17 lw0_17 bw1_0_17 bw1_1_17 lw1_17 bg0_0_17 bg0_1_17 lg0_17 bg1_0_17 bg1_1_17 lg1_17 hg18 hf18
    go_wp2_with fail
    refine (heldLoad_any _ _ _ _ _ _ (by omega) (by omega) (by omega) g0_18.sl).mono ?_
    rintro e V19 ⟨rfl, hb19⟩
    have hB19 := bl_trans (a := V18) (bl_refl _) hb19
    have hk19 := bl_trans hk18 hB19
    have z19 := Lib.hid hB19.size
    have w0_19 := w0_18.below hB19
    have w1_19 := w1_18.below hB19
    have g0_19 := g0_18.below hB19
    have g1_19 := hm18.below hB19
    have ba0_0_19 : V19.cell? ⟨w.heap.size, 0, none⟩ = some (.string x0_Appliance) := cell_later hB19 ba0_0_18
    have ba0_1_19 : V19.cell? ⟨w.heap.size, 1, none⟩ = some (.slice A0 n0 c0) := cell_later hB19 ba0_1_18
    have la0_19 : w.heap.size < V19.heap.size := World.block_lt_of_cell? _ _ ba0_0_19
    have ba1_0_19 : V19.cell? ⟨w.heap.size + 1, 0, none⟩ = some (.string x1_Appliance) := cell_later hB19 ba1_0_18
    have ba1_1_19 : V19.cell? ⟨w.heap.size + 1, 1, none⟩ = some (.slice A1 n1 c1) := cell_later hB19 ba1_1_18
    have la1_19 : w.heap.size + 1 < V19.heap.size := World.block_lt_of_cell? _ _ ba1_0_19
    have bw0_0_19 : V19.cell? ⟨gw0, 0, none⟩ = some (.string (moveF (⟨x0_Appliance, x0_Things⟩ : Load) (⟨x1_Appliance, x1_Things⟩ : Load) x2 x3).1.Appliance) := cell_later hB19 bw0_0_18
    have bw0_1_19 : V19.cell? ⟨gw0, 1, none⟩ = some (.slice A_w0 (moveF (⟨x0_Appliance, x0_Things⟩ : Load) (⟨x1_Appliance, x1_Things⟩ : Load) x2 x3).1.Things.length c_w0) := cell_later hB19 bw0_1_18
    have lw0_19 : gw0 < V19.heap.size := World.block_lt_of_cell? _ _ bw0_0_19
    have bw1_0_19 : V19.cell? ⟨gw1, 0, none⟩ = some (.string (moveF (⟨x0_Appliance, x0_Things⟩ : Load) (⟨x1_Appliance, x1_Things⟩ : Load) x2 x3).2.1.Appliance) := cell_later hB19 bw1_0_18
    have bw1_1_19 : V19.cell? ⟨gw1, 1, none⟩ = some (.slice A_w1 (moveF (⟨x0_Appliance, x0_Things⟩ : Load) (⟨x1_Appliance, x1_Things⟩ : Load) x2 x3).2.1.Things.length c_w1) := cell_later hB19 bw1_1_18
    have lw1_19 : gw1 < V19.heap.size := World.block_lt_of_cell? _ _ bw1_0_19
    have bg0_0_19 : V19.cell? ⟨V6.heap.size, 0, none⟩ = some (.string (moveF (⟨x0_Appliance, x0_Things⟩ : Load) (⟨x1_Appliance, x1_Things⟩ : Load) x2 x3).1.Appliance) := cell_later hB19 bg0_0_18
    have bg0_1_19 : V19.cell? ⟨V6.heap.size, 1, none⟩ = some (.slice A_g0 (moveF (⟨x0_Appliance, x0_Things⟩ : Load) (⟨x1_Appliance, x1_Things⟩ : Load) x2 x3).1.Things.length c_g0) := cell_later hB19 bg0_1_18
    have lg0_19 : V6.heap.size < V19.heap.size := World.block_lt_of_cell? _ _ bg0_0_19
    have bg1_0_19 : V19.cell? ⟨V6.heap.size + 1, 0, none⟩ = some (.string (moveF (⟨x0_Appliance, x0_Things⟩ : Load) (⟨x1_Appliance, x1_Things⟩ : Load) x2 x3).2.1.Appliance) := cell_later hB19 bg1_0_18
    have bg1_1_19 : V19.cell? ⟨V6.heap.size + 1, 1, none⟩ = some (.slice A_g1 (moveF (⟨x0_Appliance, x0_Things⟩ : Load) (⟨x1_Appliance, x1_Things⟩ : Load) x2 x3).2.1.Things.length c_g1) := cell_later hB19 bg1_1_18
    have lg1_19 : V6.heap.size + 1 < V19.heap.size := World.block_lt_of_cell? _ _ bg1_0_19
    clear hk18 w0_18 w1_18 g0_18 hm18 ba0_0_18 ba0_1_18 la0_18 ba1_0_18 ba1_1_18 la1_18 bw0_0_18 bw0_1_18 lw0_18 bw1_0_18 bw1_1_18 lw1_18 bg0_0_18 bg0_1_18 lg0_18 bg1_0_18 bg1_1_18 lg1_18
    clear hb19
    go_wp2_with fail
    refine (heldLoad_any _ _ _ _ _ _ (by omega) (by omega) (by omega) g1_19.sl).mono ?_
    rintro e V20 ⟨rfl, hb20⟩
    have hB20 := bl_trans (a := V19) (bl_refl _) hb20
    have hk20 := bl_trans hk19 hB20
    have z20 := Lib.hid hB20.size
    have w0_20 := w0_19.below hB20
    have w1_20 := w1_19.below hB20
    have g0_20 := g0_19.below hB20
    have g1_20 := g1_19.below hB20
    have ba0_0_20 : V20.cell? ⟨w.heap.size, 0, none⟩ = some (.string x0_Appliance) := cell_later hB20 ba0_0_19
    have ba0_1_20 : V20.cell? ⟨w.heap.size, 1, none⟩ = some (.slice A0 n0 c0) := cell_later hB20 ba0_1_19
    have la0_20 : w.heap.size < V20.heap.size := World.block_lt_of_cell? _ _ ba0_0_20
    have ba1_0_20 : V20.cell? ⟨w.heap.size + 1, 0, none⟩ = some (.string x1_Appliance) := cell_later hB20 ba1_0_19
    have ba1_1_20 : V20.cell? ⟨w.heap.size + 1, 1, none⟩ = some (.slice A1 n1 c1) := cell_later hB20 ba1_1_19
    have la1_20 : w.heap.size + 1 < V20.heap.size := World.block_lt_of_cell? _ _ ba1_0_20
    have bw0_0_20 : V20.cell? ⟨gw0, 0, none⟩ = some (.string (moveF (⟨x0_Appliance, x0_Things⟩ : Load) (⟨x1_Appliance, x1_Things⟩ : Load) x2 x3).1.Appliance) := cell_later hB20 bw0_0_19
    have bw0_1_20 : V20.cell? ⟨gw0, 1, none⟩ = some (.slice A_w0 (moveF (⟨x0_Appliance, x0_Things⟩ : Load) (⟨x1_Appliance, x1_Things⟩ : Load) x2 x3).1.Things.length c_w0) := cell_later hB20 bw0_1_19
    have lw0_20 : gw0 < V20.heap.size := World.block_lt_of_cell? _ _ bw0_0_20
    have bw1_0_20 : V20.cell? ⟨gw1, 0, none⟩ = some (.string (moveF (⟨x0_Appliance, x0_Things⟩ : Load) (⟨x1_Appliance, x1_Things⟩ : Load) x2 x3).2.1.Appliance) := cell_later hB20 bw1_0_19
    have bw1_1_20 : V20.cell? ⟨gw1, 1, none⟩ = some (.slice A_w1 (moveF (⟨x0_Appliance, x0_Things⟩ : Load) (⟨x1_Appliance, x1_Things⟩ : Load) x2 x3).2.1.Things.length c_w1) := cell_later hB20 bw1_1_19
    have lw1_20 : gw1 < V20.heap.size := World.block_lt_of_cell? _ _ bw1_0_20
    have bg0_0_20 : V20.cell? ⟨V6.heap.size, 0, none⟩ = some (.string (moveF (⟨x0_Appliance, x0_Things⟩ : Load) (⟨x1_Appliance, x1_Things⟩ : Load) x2 x3).1.Appliance) := cell_later hB20 bg0_0_19
    have bg0_1_20 : V20.cell? ⟨V6.heap.size, 1, none⟩ = some (.slice A_g0 (moveF (⟨x0_Appliance, x0_Things⟩ : Load) (⟨x1_Appliance, x1_Things⟩ : Load) x2 x3).1.Things.length c_g0) := cell_later hB20 bg0_1_19
    have lg0_20 : V6.heap.size < V20.heap.size := World.block_lt_of_cell? _ _ bg0_0_20
    have bg1_0_20 : V20.cell? ⟨V6.heap.size + 1, 0, none⟩ = some (.string (moveF (⟨x0_Appliance, x0_Things⟩ : Load) (⟨x1_Appliance, x1_Things⟩ : Load) x2 x3).2.1.Appliance) := cell_later hB20 bg1_0_19
    have bg1_1_20 : V20.cell? ⟨V6.heap.size + 1, 1, none⟩ = some (.slice A_g1 (moveF (⟨x0_Appliance, x0_Things⟩ : Load) (⟨x1_Appliance, x1_Things⟩ : Load) x2 x3).2.1.Things.length c_g1) := cell_later hB20 bg1_1_19
    have lg1_20 : V6.heap.size + 1 < V20.heap.size := World.block_lt_of_cell? _ _ bg1_0_20
    clear hk19 w0_19 w1_19 g0_19 g1_19 ba0_0_19 ba0_1_19 la0_19 ba1_0_19 ba1_1_19 la1_19 bw0_0_19 bw0_1_19 lw0_19 bw1_0_19 bw1_1_19 lw1_19 bg0_0_19 bg0_1_19 lg0_19 bg1_0_19 bg1_1_19 lg1_19
    clear hb20
    go_upto_region 37 with fail
    go_cut [21, 22, 23] (fun s21 s22 s23 wx => s23 = .bool (moveF (⟨x0_Appliance, x0_Things⟩ : Load) (⟨x1_Appliance, x1_Things⟩ : Load) x2 x3).2.2 ∧ TwoP V20 59 (moveF (⟨x0_Appliance, x0_Things⟩ : Load) (⟨x1_Appliance, x1_Things⟩ : Load) x2 x3).1.Appliance (moveF (⟨x0_Appliance, x0_Things⟩ : Load) (⟨x1_Appliance, x1_Things⟩ : Load) x2 x3).2.1.Appliance (moveF (⟨x0_Appliance, x0_Things⟩ : Load) (⟨x1_Appliance, x1_Things⟩ : Load) x2 x3).1.Things (moveF (⟨x0_Appliance, x0_Things⟩ : Load) (⟨x1_Appliance, x1_Things⟩ : Load) x2 x3).2.1.Things s21 s22 wx)
    case first =>
      rename_i J K hJ hK
      refine wp_region_any (by kernel_rfl) ?_
      refine two_any (V0 := V20) (fun k => [131, 132, 133, 134, 135, 136, 137, 130, 138, 139, 140, 21, 22, 1000, 1001, 23].getD k 0) (p0 := 4) (p1 := 5) (p2 := 2) (p3 := 3) (F := 9) (r := (moveF (⟨x0_Appliance, x0_Things⟩ : Load) (⟨x1_Appliance, x1_Things⟩ : Load) x2 x3)) (by kernel_rfl) Try.func9 rfl (by decide) ⟨_, rfl, rfl, rfl, rfl⟩ ⟨_, _, rfl, rfl, rfl, rfl⟩ ⟨_, rfl, rfl, rfl, rfl⟩ ⟨_, _, rfl, rfl, rfl, rfl⟩ ⟨_, rfl, rfl, rfl, rfl⟩ ⟨_, rfl, rfl, rfl, rfl⟩ ⟨_, _, rfl, rfl, rfl, rfl⟩ ⟨_, rfl, rfl, rfl, rfl⟩ ⟨_, rfl, rfl, rfl, rfl⟩ ⟨_, rfl, rfl, rfl, rfl⟩ ⟨_, rfl, rfl, rfl, rfl⟩ ⟨_, rfl, rfl, rfl, rfl⟩ ⟨_, rfl, rfl, rfl, rfl⟩ ⟨_, rfl, rfl, rfl, rfl⟩ ⟨_, rfl, rfl, rfl, rfl⟩ ⟨_, rfl, rfl, rfl, rfl⟩ (N := 169) (by decide) (by rfl) (by decide) (by decide) rfl rfl rfl rfl ba0_0_20 ba0_1_20 ba1_0_20 ba1_1_20 (hs0.below hk20) (hs1.below hk20) hl0 hl1 (fun A1 B1 c1 d1 w1 ho1 ho2 => implMoveThing_any x0_Appliance x1_Appliance x0_Things x1_Things x2 x3 _ _ _ _ _ _ _ hL0 hL1 ho1.cap.1 (by have := ho1.cap.2; unfold maxLen at this; omega) ho2.cap.1 (by have := ho2.cap.2; unfold maxLen at this; omega) ho1.sl ho2.sl hz0Appliance hz1Appliance hv0 hv1 _hx2) ?_
      intro a w h1 h2 h3 h4 h5
      have ha := fr_eq [131, 132, 133, 134, 135, 136, 137, 130, 138, 139, 140, 21, 22, 1000, 1001, 23] h1 h2 (fun t ht => h3 t (fun k hk he => ht (by subst he; revert k; decide)))
      simp only [fr, Act.put, List.setIfInBounds_toArray, List.set_cons_zero, List.set_cons_succ] at ha
      refine hK _ _ (Met.intro (hJ _ _ ?_))
      (repeat apply Exists.intro)
      refine ⟨?_, ha⟩
      exact ⟨h4, h5⟩
    case rest =>
      obtain ⟨rfl, gh0, gh1, A_h0, c_h0, A_h1, c_h1, rfl, rfl, HT21⟩ := hcut
      obtain ⟨lo_gh0, lo_gh1, ne_h, hb21, BA21, BB21, ho_h0, ho_h1, HA21, HB21⟩ := HT21
      obtain ⟨V21, hVV⟩ : ∃ V, V = wc := ⟨_, rfl⟩
      subst hVV
      have hap_h := Lib.hid (fun k (h : Value.ownBlock (.slice A_h0 (moveF (⟨x0_Appliance, x0_Things⟩ : Load) (⟨x1_Appliance, x1_Things⟩ : Load) x2 x3).1.Things.length c_h0) = some k) => (HA21 k h).2.2)
      have sm_h0 := Lib.hid (fun k (h : Value.ownBlock (.slice A_h0 (moveF (⟨x0_Appliance, x0_Things⟩ : Load) (⟨x1_Appliance, x1_Things⟩ : Load) x2 x3).1.Things.length c_h0) = some k) => (HA21 k h).1)
      have sm_h1 := Lib.hid (fun k (h : Value.ownBlock (.slice A_h0 (moveF (⟨x0_Appliance, x0_Things⟩ : Load) (⟨x1_Appliance, x1_Things⟩ : Load) x2 x3).1.Things.length c_h0) = some k) => (HA21 k h).2.1)
      have sn_h0 := Lib.hid (fun k (h : Value.ownBlock (.slice A_h1 (moveF (⟨x0_Appliance, x0_Things⟩ : Load) (⟨x1_Appliance, x1_Things⟩ : Load) x2 x3).2.1.Things.length c_h1) = some k) => (HB21 k h).1)
      have sn_h1 := Lib.hid (fun k (h : Value.ownBlock (.slice A_h1 (moveF (⟨x0_Appliance, x0_Things⟩ : Load) (⟨x1_Appliance, x1_Things⟩ : Load) x2 x3).2.1.Things.length c_h1) = some k) => (HB21 k h).2)
      clear HA21 HB21
      have hi_h0 := ho_h0.lies
      have Hi_h0 := Lib.hid hi_h0
      clear hi_h0
      have hi_h1 := ho_h1.lies
      have Hi_h1 := Lib.hid hi_h1
      clear hi_h1
      have hB21 := bl_trans (a := V20) (bl_refl _) hb21
      have hk21 := bl_trans hk20 hB21
      have z21 := Lib.hid hB21.size
      have w0_21 := w0_20.below hB21
      have w1_21 := w1_20.below hB21
      have g0_21 := g0_20.below hB21
      have g1_21 := g1_20.below hB21
      have ba0_0_21 : V21.cell? ⟨w.heap.size, 0, none⟩ = some (.string x0_Appliance) := cell_later hB21 ba0_0_20
      have ba0_1_21 : V21.cell? ⟨w.heap.size, 1, none⟩ = some (.slice A0 n0 c0) := cell_later hB21 ba0_1_20
      have la0_21 : w.heap.size < V21.heap.size := World.block_lt_of_cell? _ _ ba0_0_21
      have ba1_0_21 : V21.cell? ⟨w.heap.size + 1, 0, none⟩ = some (.string x1_Appliance) := cell_later hB21 ba1_0_20
      have ba1_1_21 : V21.cell? ⟨w.heap.size + 1, 1, none⟩ = some (.slice A1 n1 c1) := cell_later hB21 ba1_1_20
      have la1_21 : w.heap.size + 1 < V21.heap.size := World.block_lt_of_cell? _ _ ba1_0_21
      have bw0_0_21 : V21.cell? ⟨gw0, 0, none⟩ = some (.string (moveF (⟨x0_Appliance, x0_Things⟩ : Load) (⟨x1_Appliance, x1_Things⟩ : Load) x2 x3).1.Appliance) := cell_later hB21 bw0_0_20
      have bw0_1_21 : V21.cell? ⟨gw0, 1, none⟩ = some (.slice A_w0 (moveF (⟨x0_Appliance, x0_Things⟩ : Load) (⟨x1_Appliance, x1_Things⟩ : Load) x2 x3).1.Things.length c_w0) := cell_later hB21 bw0_1_20
      have lw0_21 : gw0 < V21.heap.size := World.block_lt_of_cell? _ _ bw0_0_21
      have bw1_0_21 : V21.cell? ⟨gw1, 0, none⟩ = some (.string (moveF (⟨x0_Appliance, x0_Things⟩ : Load) (⟨x1_Appliance, x1_Things⟩ : Load) x2 x3).2.1.Appliance) := cell_later hB21 bw1_0_20
      have bw1_1_21 : V21.cell? ⟨gw1, 1, none⟩ = some (.slice A_w1 (moveF (⟨x0_Appliance, x0_Things⟩ : Load) (⟨x1_Appliance, x1_Things⟩ : Load) x2 x3).2.1.Things.length c_w1) := cell_later hB21 bw1_1_20
      have lw1_21 : gw1 < V21.heap.size := World.block_lt_of_cell? _ _ bw1_0_21
      have bg0_0_21 : V21.cell? ⟨V6.heap.size, 0, none⟩ = some (.string (moveF (⟨x0_Appliance, x0_Things⟩ : Load) (⟨x1_Appliance, x1_Things⟩ : Load) x2 x3).1.Appliance) := cell_later hB21 bg0_0_20
      have bg0_1_21 : V21.cell? ⟨V6.heap.size, 1, none⟩ = some (.slice A_g0 (moveF (⟨x0_Appliance, x0_Things⟩ : Load) (⟨x1_Appliance, x1_Things⟩ : Load) x2 x3).1.Things.length c_g0) := cell_later hB21 bg0_1_20
      have lg0_21 : V6.heap.size < V21.heap.size := World.block_lt_of_cell? _ _ bg0_0_21
      have bg1_0_21 : V21.cell? ⟨V6.heap.size + 1, 0, none⟩ = some (.string (moveF (⟨x0_Appliance, x0_Things⟩ : Load) (⟨x1_Appliance, x1_Things⟩ : Load) x2 x3).2.1.Appliance) := cell_later hB21 bg1_0_20
      have bg1_1_21 : V21.cell? ⟨V6.heap.size + 1, 1, none⟩ = some (.slice A_g1 (moveF (⟨x0_Appliance, x0_Things⟩ : Load) (⟨x1_Appliance, x1_Things⟩ : Load) x2 x3).2.1.Things.length c_g1) := cell_later hB21 bg1_1_20
      have lg1_21 : V6.heap.size + 1 < V21.heap.size := World.block_lt_of_cell? _ _ bg1_0_21
      clear hk20 w0_20 w1_20 g0_20 g1_20 ba0_0_20 ba0_1_20 la0_20 ba1_0_20 ba1_1_20 la1_20 bw0_0_20 bw0_1_20 lw0_20 bw1_0_20 bw1_1_20 lw1_20 bg0_0_20 bg0_1_20 lg0_20 bg1_0_20 bg1_1_20 lg1_20
      clear hb21
      have bh0_0_21 := BA21.c0
      have bh0_1_21 := BA21.c1
      have lh0_21 : gh0 < V21.heap.size := World.block_lt_of_cell? _ _ bh0_0_21
      have hi_gh0 := lh0_21
      have bh1_0_21 := BB21.c0
      have bh1_1_21 := BB21.c1
      have lh1_21 : gh1 < V21.heap.size := World.block_lt_of_cell? _ _ bh1_0_21
      have hi_gh1 := lh1_21
      clear BA21 BB21
      go_wp2_with fail
      refine (eqLoad_any _ _ _ _ _ _ _ _ _ _ _ (by omega) ho_h0.sl w0_21.sl).mono ?_
      rintro e V22 ⟨rfl, hb22⟩
      rw [sameB_refl]
      have hB22 := bl_trans (a := V21) (bl_refl _) hb22
      have hk22 := bl_trans hk21 hB22
      have z22 := Lib.hid hB22.size
      have w0_22 := w0_21.below hB22
      have w1_22 := w1_21.below hB22
      have g0_22 := g0_21.below hB22
      have g1_22 := g1_21.below hB22
      have h0_22 := ho_h0.below hB22
      have h1_22 := ho_h1.below hB22
      have ba0_0_22 : V22.cell? ⟨w.heap.size, 0, none⟩ = some (.string x0_Appliance) := cell_later hB22 ba0_0_21
      have ba0_1_22 : V22.cell? ⟨w.heap.size, 1, none⟩ = some (.slice A0 n0 c0) := cell_later hB22 ba0_1_21
      have la0_22 : w.heap.size < V22.heap.size := World.block_lt_of_cell? _ _ ba0_0_22
      have ba1_0_22 : V22.cell? ⟨w.heap.size + 1, 0, none⟩ = some (.string x1_Appliance) := cell_later hB22 ba1_0_21
      have ba1_1_22 : V22.cell? ⟨w.heap.size + 1, 1, none⟩ = some (.slice A1 n1 c1) := cell_later hB22 ba1_1_21
      have la1_22 : w.heap.size + 1 < V22.heap.size := World.block_lt_of_cell? _ _ ba1_0_22
      have bw0_0_22 : V22.cell? ⟨gw0, 0, none⟩ = some (.string (moveF (⟨x0_Appliance, x0_Things⟩ : Load) (⟨x1_Appliance, x1_Things⟩ : Load) x2 x3).1.Appliance) := cell_later hB22 bw0_0_21
      have bw0_1_22 : V22.cell? ⟨gw0, 1, none⟩ = some (.slice A_w0 (moveF (⟨x0_Appliance, x0_Things⟩ : Load) (⟨x1_Appliance, x1_Things⟩ : Load) x2 x3).1.Things.length c_w0) := cell_later hB22 bw0_1_21
      have lw0_22 : gw0 < V22.heap.size := World.block_lt_of_cell? _ _ bw0_0_22
      have bw1_0_22 : V22.cell? ⟨gw1, 0, none⟩ = some (.string (moveF (⟨x0_Appliance, x0_Things⟩ : Load) (⟨x1_Appliance, x1_Things⟩ : Load) x2 x3).2.1.Appliance) := cell_later hB22 bw1_0_21
      have bw1_1_22 : V22.cell? ⟨gw1, 1, none⟩ = some (.slice A_w1 (moveF (⟨x0_Appliance, x0_Things⟩ : Load) (⟨x1_Appliance, x1_Things⟩ : Load) x2 x3).2.1.Things.length c_w1) := cell_later hB22 bw1_1_21
      have lw1_22 : gw1 < V22.heap.size := World.block_lt_of_cell? _ _ bw1_0_22
      have bg0_0_22 : V22.cell? ⟨V6.heap.size, 0, none⟩ = some (.string (moveF (⟨x0_Appliance, x0_Things⟩ : Load) (⟨x1_Appliance, x1_Things⟩ : Load) x2 x3).1.Appliance) := cell_later hB22 bg0_0_21
      have bg0_1_22 : V22.cell? ⟨V6.heap.size, 1, none⟩ = some (.slice A_g0 (moveF (⟨x0_Appliance, x0_Things⟩ : Load) (⟨x1_Appliance, x1_Things⟩ : Load) x2 x3).1.Things.length c_g0) := cell_later hB22 bg0_1_21
      have lg0_22 : V6.heap.size < V22.heap.size := World.block_lt_of_cell? _ _ bg0_0_22
      have bg1_0_22 : V22.cell? ⟨V6.heap.size + 1, 0, none⟩ = some (.string (moveF (⟨x0_Appliance, x0_Things⟩ : Load) (⟨x1_Appliance, x1_Things⟩ : Load) x2 x3).2.1.Appliance) := cell_later hB22 bg1_0_21
      have bg1_1_22 : V22.cell? ⟨V6.heap.size + 1, 1, none⟩ = some (.slice A_g1 (moveF (⟨x0_Appliance, x0_Things⟩ : Load) (⟨x1_Appliance, x1_Things⟩ : Load) x2 x3).2.1.Things.length c_g1) := cell_later hB22 bg1_1_21
      have lg1_22 : V6.heap.size + 1 < V22.heap.size := World.block_lt_of_cell? _ _ bg1_0_22
      have bh0_0_22 : V22.cell? ⟨gh0, 0, none⟩ = some (.string (moveF (⟨x0_Appliance, x0_Things⟩ : Load) (⟨x1_Appliance, x1_Things⟩ : Load) x2 x3).1.Appliance) := cell_later hB22 bh0_0_21
      have bh0_1_22 : V22.cell? ⟨gh0, 1, none⟩ = some (.slice A_h0 (moveF (⟨x0_Appliance, x0_Things⟩ : Load) (⟨x1_Appliance, x1_Things⟩ : Load) x2 x3).1.Things.length c_h0) := cell_later hB22 bh0_1_21
      have lh0_22 : gh0 < V22.heap.size := World.block_lt_of_cell? _ _ bh0_0_22
      have bh1_0_22 : V22.cell? ⟨gh1, 0, none⟩ = some (.string (moveF (⟨x0_Appliance, x0_Things⟩ : Load) (⟨x1_Appliance, x1_Things⟩ : Load) x2 x3).2.1.Appliance) := cell_later hB22 bh1_0_21
      have bh1_1_22 : V22.cell? ⟨gh1, 1, none⟩ = some (.slice A_h1 (moveF (⟨x0_Appliance, x0_Things⟩ : Load) (⟨x1_Appliance, x1_Things⟩ : Load) x2 x3).2.1.Things.length c_h1) := cell_later hB22 bh1_1_21
      have lh1_22 : gh1 < V22.heap.size := World.block_lt_of_cell? _ _ bh1_0_22
      clear hk21 w0_21 w1_21 g0_21 g1_21 ho_h0 ho_h1 ba0_0_21 ba0_1_21 la0_21 ba1_0_21 ba1_1_21 la1_21 bw0_0_21 bw0_1_21 lw0_21 bw1_0_21 bw1_1_21 lw1_21 bg0_0_21 bg0_1_21 lg0_21 bg1_0_21 bg1_1_21 lg1_21 bh0_0_21 bh0_1_21 lh0_21 bh1_0_21 bh1_1_21 lh1_21
      clear hb22
      go_wp2_with fail
      refine (eqLoad_any _ _ _ _ _ _ _ _ _ _ _ (by omega) h1_22.sl w1_22.sl).mono ?_
      rintro e V23 ⟨rfl, hb23⟩
      rw [sameB_refl]
      have hB23 := bl_trans (a := V22) (bl_refl _) hb23
      have hk23 := bl_trans hk22 hB23
      have z23 := Lib.hid hB23.size
      have w0_23 := w0_22.below hB23
      have w1_23 := w1_22.below hB23
      have g0_23 := g0_22.below hB23
      have g1_23 := g1_22.below hB23
      have h0_23 := h0_22.below hB23
      have h1_23 := h1_22.below hB23
      have ba0_0_23 : V23.cell? ⟨w.heap.size, 0, none⟩ = some (.string x0_Appliance) := cell_later hB23 ba0_0_22
      have ba0_1_23 : V23.cell? ⟨w.heap.size, 1, none⟩ = some (.slice A0 n0 c0) := cell_later hB23 ba0_1_22
      have la0_23 : w.heap.size < V23.heap.size := World.block_lt_of_cell? _ _ ba0_0_23
      have ba1_0_23 : V23.cell? ⟨w.heap.size + 1, 0, none⟩ = some (.string x1_Appliance) := cell_later hB23 ba1_0_22
      have ba1_1_23 : V23.cell? ⟨w.heap.size + 1, 1, none⟩ = some (.slice A1 n1 c1) := cell_later hB23 ba1_1_22
      have la1_23 : w.heap.size + 1 < V23.heap.size := World.block_lt_of_cell? _ _ ba1_0_23
      have bw0_0_23 : V23.cell? ⟨gw0, 0, none⟩ = some (.string (moveF (⟨x0_Appliance, x0_Things⟩ : Load) (⟨x1_Appliance, x1_Things⟩ : Load) x2 x3).1.Appliance) := cell_later hB23 bw0_0_22
      have bw0_1_23 : V23.cell? ⟨gw0, 1, none⟩ = some (.slice A_w0 (moveF (⟨x0_Appliance, x0_Things⟩ : Load) (⟨x1_Appliance, x1_Things⟩ : Load) x2 x3).1.Things.length c_w0) := cell_later hB23 bw0_1_22
      have lw0_23 : gw0 < V23.heap.size := World.block_lt_of_cell? _ _ bw0_0_23
      have bw1_0_23 : V23.cell? ⟨gw1, 0, none⟩ = some (.string (moveF (⟨x0_Appliance, x0_Things⟩ : Load) (⟨x1_Appliance, x1_Things⟩ : Load) x2 x3).2.1.Appliance) := cell_later hB23 bw1_0_22
      have bw1_1_23 : V23.cell? ⟨gw1, 1, none⟩ = some (.slice A_w1 (moveF (⟨x0_Appliance, x0_Things⟩ : Load) (⟨x1_Appliance, x1_Things⟩ : Load) x2 x3).2.1.Things.length c_w1) := cell_later hB23 bw1_1_22
      have lw1_23 : gw1 < V23.heap.size := World.block_lt_of_cell? _ _ bw1_0_23
      have bg0_0_23 : V23.cell? ⟨V6.heap.size, 0, none⟩ = some (.string (moveF (⟨x0_Appliance, x0_Things⟩ : Load) (⟨x1_Appliance, x1_Things⟩ : Load) x2 x3).1.Appliance) := cell_later hB23 bg0_0_22
      have bg0_1_23 : V23.cell? ⟨V6.heap.size, 1, none⟩ = some (.slice A_g0 (moveF (⟨x0_Appliance, x0_Things⟩ : Load) (⟨x1_Appliance, x1_Things⟩ : Load) x2 x3).1.Things.length c_g0) := cell_later hB23 bg0_1_22
      have lg0_23 : V6.heap.size < V23.heap.size := World.block_lt_of_cell? _ _ bg0_0_23
      have bg1_0_23 : V23.cell? ⟨V6.heap.size + 1, 0, none⟩ = some (.string (moveF (⟨x0_Appliance, x0_Things⟩ : Load) (⟨x1_Appliance, x1_Things⟩ : Load) x2 x3).2.1.Appliance) := cell_later hB23 bg1_0_22
      have bg1_1_23 : V23.cell? ⟨V6.heap.size + 1, 1, none⟩ = some (.slice A_g1 (moveF (⟨x0_Appliance, x0_Things⟩ : Load) (⟨x1_Appliance, x1_Things⟩ : Load) x2 x3).2.1.Things.length c_g1) := cell_later hB23 bg1_1_22
      have lg1_23 : V6.heap.size + 1 < V23.heap.size := World.block_lt_of_cell? _ _ bg1_0_23
      have bh0_0_23 : V23.cell? ⟨gh0, 0, none⟩ = some (.string (moveF (⟨x0_Appliance, x0_Things⟩ : Load) (⟨x1_Appliance, x1_Things⟩ : Load) x2 x3).1.Appliance) := cell_later hB23 bh0_0_22
      have bh0_1_23 : V23.cell? ⟨gh0, 1, none⟩ = some (.slice A_h0 (moveF (⟨x0_Appliance, x0_Things⟩ : Load) (⟨x1_Appliance, x1_Things⟩ : Load) x2 x3).1.Things.length c_h0) := cell_later hB23 bh0_1_22
      have lh0_23 : gh0 < V23.heap.size := World.block_lt_of_cell? _ _ bh0_0_23
      have bh1_0_23 : V23.cell? ⟨gh1, 0, none⟩ = some (.string (moveF (⟨x0_Appliance, x0_Things⟩ : Load) (⟨x1_Appliance, x1_Things⟩ : Load) x2 x3).2.1.Appliance) := cell_later hB23 bh1_0_22
      have bh1_1_23 : V23.cell? ⟨gh1, 1, none⟩ = some (.slice A_h1 (moveF (⟨x0_Appliance, x0_Things⟩ : Load) (⟨x1_Appliance, x1_Things⟩ : Load) x2 x3).2.1.Things.length c_h1) := cell_later hB23 bh1_1_22
      have lh1_23 : gh1 < V23.heap.size := World.block_lt_of_cell? _ _ bh1_0_23
      clear hk22 w0_22 w1_22 g0_22 g1_22 h0_22 h1_22 ba0_0_22 ba0_1_22 la0_22 ba1_0_22 ba1_1_22 la1_22 bw0_0_22 bw0_1_22 lw0_22 bw1_0_22 bw1_1_22 lw1_22 bg0_0_22 bg0_1_22 lg0_22 bg1_0_22 bg1_1_22 lg1_22 bh0_0_22 bh0_1_22 lh0_22 bh1_0_22 bh1_1_22 lh1_22
      clear hb23
      clear h0_23 Hi_h0 bh0_0_23 bh0_1_23 lh0_23
      clear w0_23 Hi_w0 bw0_0_23 bw0_1_23 lw0_23
      clear h1_23 Hi_h1 bh1_0_23 bh1_1_23 lh1_23
      clear w1_23 Hi_w1 bw1_0_23 bw1_1_23 lw1_23
      go_wp2_with fail
      refine (heldLoad_any _ _ _ _ _ _ (by omega) (by omega) (by omega) g0_23.sl).mono ?_
      rintro e V24 ⟨rfl, hb24⟩
      have hB24 := bl_trans (a := V23) (bl_refl _) hb24
      have hk24 := bl_trans hk23 hB24
      have z24 := Lib.hid hB24.size
      have g0_24 := g0_23.below hB24
      have g1_24 := g1_23.below hB24
      have ba0_0_24 : V24.cell? ⟨w.heap.size, 0, none⟩ = some (.string x0_Appliance) := cell_later hB24 ba0_0_23
      have ba0_1_24 : V24.cell? ⟨w.heap.size, 1, none⟩ = some (.slice A0 n0 c0) := cell_later hB24 ba0_1_23
      have la0_24 : w.heap.size < V24.heap.size := World.block_lt_of_cell? _ _ ba0_0_24
      have ba1_0_24 : V24.cell? ⟨w.heap.size + 1, 0, none⟩ = some (.string x1_Appliance) := cell_later hB24 ba1_0_23
      have ba1_1_24 : V24.cell? ⟨w.heap.size + 1, 1, none⟩ = some (.slice A1 n1 c1) := cell_later hB24 ba1_1_23
      have la1_24 : w.heap.size + 1 < V24.heap.size := World.block_lt_of_cell? _ _ ba1_0_24
      have bg0_0_24 : V24.cell? ⟨V6.heap.size, 0, none⟩ = some (.string (moveF (⟨x0_Appliance, x0_Things⟩ : Load) (⟨x1_Appliance, x1_Things⟩ : Load) x2 x3).1.Appliance) := cell_later hB24 bg0_0_23
      have bg0_1_24 : V24.cell? ⟨V6.heap.size, 1, none⟩ = some (.slice A_g0 (moveF (⟨x0_Appliance, x0_Things⟩ : Load) (⟨x1_Appliance, x1_Things⟩ : Load) x2 x3).1.Things.length c_g0) := cell_later hB24 bg0_1_23
      have lg0_24 : V6.heap.size < V24.heap.size := World.block_lt_of_cell? _ _ bg0_0_24
      have bg1_0_24 : V24.cell? ⟨V6.heap.size + 1, 0, none⟩ = some (.string (moveF (⟨x0_Appliance, x0_Things⟩ : Load) (⟨x1_Appliance, x1_Things⟩ : Load) x2 x3).2.1.Appliance) := cell_later hB24 bg1_0_23
      have bg1_1_24 : V24.cell? ⟨V6.heap.size + 1, 1, none⟩ = some (.slice A_g1 (moveF (⟨x0_Appliance, x0_Things⟩ : Load) (⟨x1_Appliance, x1_Things⟩ : Load) x2 x3).2.1.Things.length c_g1) := cell_later hB24 bg1_1_23
      have lg1_24 : V6.heap.size + 1 < V24.heap.size := World.block_lt_of_cell? _ _ bg1_0_24
      clear hk23 g0_23 g1_23 ba0_0_23 ba0_1_23 la0_23 ba1_0_23 ba1_1_23 la1_23 bg0_0_23 bg0_1_23 lg0_23 bg1_0_23 bg1_1_23 lg1_23
      clear hb24
      go_wp2_with fail
      refine (heldLoad_any _ _ _ _ _ _ (by omega) (by omega) (by omega) g1_24.sl).mono ?_
      rintro e V25 ⟨rfl, hb25⟩
      have hB25 := bl_trans (a := V24) (bl_refl _) hb25
      have hk25 := bl_trans hk24 hB25
      have z25 := Lib.hid hB25.size
      have g0_25 := g0_24.below hB25
      have g1_25 := g1_24.below hB25
      have ba0_0_25 : V25.cell? ⟨w.heap.size, 0, none⟩ = some (.string x0_Appliance) := cell_later hB25 ba0_0_24
      have ba0_1_25 : V25.cell? ⟨w.heap.size, 1, none⟩ = some (.slice A0 n0 c0) := cell_later hB25 ba0_1_24
      have la0_25 : w.heap.size < V25.heap.size := World.block_lt_of_cell? _ _ ba0_0_25
      have ba1_0_25 : V25.cell? ⟨w.heap.size + 1, 0, none⟩ = some (.string x1_Appliance) := cell_later hB25 ba1_0_24
      have ba1_1_25 : V25.cell? ⟨w.heap.size + 1, 1, none⟩ = some (.slice A1 n1 c1) := cell_later hB25 ba1_1_24
      have la1_25 : w.heap.size + 1 < V25.heap.size := World.block_lt_of_cell? _ _ ba1_0_25
      have bg0_0_25 : V25.cell? ⟨V6.heap.size, 0, none⟩ = some (.string (moveF (⟨x0_Appliance, x0_Things⟩ : Load) (⟨x1_Appliance, x1_Things⟩ : Load) x2 x3).1.Appliance) := cell_later hB25 bg0_0_24
      have bg0_1_25 : V25.cell? ⟨V6.heap.size, 1, none⟩ = some (.slice A_g0 (moveF (⟨x0_Appliance, x0_Things⟩ : Load) (⟨x1_Appliance, x1_Things⟩ : Load) x2 x3).1.Things.length c_g0) := cell_later hB25 bg0_1_24
      have lg0_25 : V6.heap.size < V25.heap.size := World.block_lt_of_cell? _ _ bg0_0_25
      have bg1_0_25 : V25.cell? ⟨V6.heap.size + 1, 0, none⟩ = some (.string (moveF (⟨x0_Appliance, x0_Things⟩ : Load) (⟨x1_Appliance, x1_Things⟩ : Load) x2 x3).2.1.Appliance) := cell_later hB25 bg1_0_24
      have bg1_1_25 : V25.cell? ⟨V6.heap.size + 1, 1, none⟩ = some (.slice A_g1 (moveF (⟨x0_Appliance, x0_Things⟩ : Load) (⟨x1_Appliance, x1_Things⟩ : Load) x2 x3).2.1.Things.length c_g1) := cell_later hB25 bg1_1_24
      have lg1_25 : V6.heap.size + 1 < V25.heap.size := World.block_lt_of_cell? _ _ bg1_0_25
      clear hk24 g0_24 g1_24 ba0_0_24 ba0_1_24 la0_24 ba1_0_24 ba1_1_24 la1_24 bg0_0_24 bg0_1_24 lg0_24 bg1_0_24 bg1_1_24 lg1_24
      clear hb25
      clear g0_25 Hi_g0 bg0_0_25 bg0_1_25 lg0_25
      clear g1_25 Hi_g1 bg1_0_25 bg1_1_25 lg1_25
      go_wp2
      go_ret
      exact ⟨rfl, hk25⟩

open Go.WideShapes Go.ChangeShapes Go.ChangeAt
theorem own_ : ownKnob Try.prog.godebug = none := by kernel_rfl
theorem laid_ : laidOutB Try.prog = true := by kernel_rfl
set_option maxRecDepth 100000 in
theorem contract_ (H : Type) (enc : TypeId × Value → H) (W : World) (base : Nat) (args : Array Value) (ds gs : List (DataW H)) (before : List MemPlace)
    (hval : ∀ (j : Nat) t v, Try.f3.params[j]? = some t → args[j]? = some v → Value.okWide Try.prog W .any base t v)
    (hW : DataW.Whole enc Try.prog Try.f3.params.toList Rows.fnExactMoveThingSpec.vars false W args.toList ds gs before) :
    Calls Try.prog 3 args W fun e W' => ∃ v, e = .returned v ∧ Rows.fnExactMoveThingSpec.post enc Try.prog Try.f3 false true false false W args v W' := by
  have hW' := hW
  obtain ⟨p, q, hA0, hV, rfl, hfz, hnd⟩ := hW
  have hA : DataW.TrodAll enc Try.prog W 0 (fun _ => true) true Try.f3.params.toList args.toList ds p := hA0
  rw [Try.params3] at hA hval
  obtain ⟨v0, vs0, d0, ds0, p0, q0, hargs, rfl, rfl, h0, r0⟩ := trodAll_cons hA
  obtain ⟨v1, vs1, d1, ds1, p1, q1, rfl, rfl, rfl, h1, r1⟩ := trodAll_cons r0
  obtain ⟨v2, vs2, d2, ds2, p2, q2, rfl, rfl, rfl, h2, r2⟩ := trodAll_cons r1
  obtain ⟨v3, vs3, d3, ds3, p3, q3, rfl, rfl, rfl, h3, r3⟩ := trodAll_cons r2
  obtain ⟨rfl, rfl, rfl⟩ := trodAll_nil r3
  obtain rfl : args = #[v0, v1, v2, v3] := by cases args; simp_all
  obtain ⟨rfl, rfl⟩ := trodVars_none hV
  obtain ⟨cs0, rfl, hsz0⟩ := okWide_struct Try.underlying24 (hval 0 _ v0 rfl rfl)
  obtain ⟨fuel0, h0⟩ := h0
  obtain ⟨x0, hr0⟩ := opens_load h0
  obtain ⟨A0, c0, e0, hs0, hm0⟩ := hr0.1
  obtain rfl : cs0 = #[.string x0.Appliance, .slice A0 x0.Things.length c0] := Array.toList_inj.1 (by simpa [Value.cells] using e0)
  have ho0 := hr0.2
  have hm0 : (x0.Things.length : Int) ≤ 9223372036854775807 := by unfold maxLen at hm0; omega
  obtain ⟨cs1, rfl, hsz1⟩ := okWide_struct Try.underlying24 (hval 1 _ v1 rfl rfl)
  obtain ⟨fuel1, h1⟩ := h1
  obtain ⟨x1, hr1⟩ := opens_load h1
  obtain ⟨A1, c1, e1, hs1, hm1⟩ := hr1.1
  obtain rfl : cs1 = #[.string x1.Appliance, .slice A1 x1.Things.length c1] := Array.toList_inj.1 (by simpa [Value.cells] using e1)
  have ho1 := hr1.2
  have hm1 : (x1.Things.length : Int) ≤ 9223372036854775807 := by unfold maxLen at hm1; omega
  obtain ⟨x2, rfl, rfl, rfl, hx2⟩ := ChangeMaps.open_string Try.underlying9 (hval 2 _ v2 rfl rfl) h2
  obtain ⟨x3, rfl, rfl, rfl, wx3⟩ := open_int Try.underlying3 (hval 3 _ v3 rfl rfl) h3
  have hx3 : -9223372036854775808 ≤ x3 ∧ x3 ≤ 9223372036854775807 := by simpa [Lit.wf, IntKind.min, IntKind.max, IntKind.signed, IntKind.bits] using wx3
  refine (walk x0.Appliance x0.Things A0 _ c0 x1.Appliance x1.Things A1 _ c1 x2 x3 W hm0 hs0 (fun x hx => (ho0.2 x hx).1) ho0.1 hm1 hs1 (fun x hx => (ho1.2 x hx).1) ho1.1 hx2 hx3).mono fun e W' ⟨he, hb⟩ => ?_
  exact ⟨_, he, post_law laid_ Try.underlying4 rfl rfl (by kernel_rfl) ⟨rfl, rfl, rfl⟩ hW' hb⟩

set_option maxRecDepth 100000 in
theorem lifted_ (os : Os) (started : os.Started) (H : Type) (enc : TypeId × Value → H) :
    ReturnsInHanded {} Try.checked os 3 .any (Rows.fnExactMoveThingSpec.pre6 enc Try.prog Try.f3 Rows.fnExactMoveThingRow.domain false) (Rows.fnExactMoveThingSpec.post enc Try.prog Try.f3 false true false false) := by
  refine returnsInHanded_of_change (C := Try.checked) own_ started (by kernel_rfl) Try.func3
    (ChangeSpec.witness6 (enc := enc) (C := Try.checked) false ⟨#[], #[.agg #[.string ByteArray.empty, .slice none 0 0], .agg #[.string ByteArray.empty, .slice none 0 0], .string ByteArray.empty, .int .i64 0], []⟩ 8 (by kernel_rfl) (by kernel_rfl) (by kernel_rfl) (by kernel_rfl)) ?_
  intro W base args ds gs before hval0 hW _ _
  exact contract_ H enc W base args ds gs before hval0 hW

theorem proved : Rows.FnExactMoveThingSaid :=
  OpenClaim.holds_of_wide 3 Try.f3 rfl rfl rfl rfl rfl rfl rfl ⟨rfl, rfl, rfl, rfl, rfl⟩ rfl rfl rfl rfl rfl (by kernel_rfl) Try.func3 (by kernel_rfl)
    (of_decide_eq_true (by kernel_rfl)) (by unfold Func.isWrapper; first | (rw [if_pos (by decide +kernel)]; kernel_rfl) | (rw [if_neg (by decide +kernel)]; exact ⟨rfl, rfl⟩))
    (fun os started H enc _ => lifted_ os started H enc)

end Go.Proofs.Ytokcgjjnljflaaa.lawMoveThing
