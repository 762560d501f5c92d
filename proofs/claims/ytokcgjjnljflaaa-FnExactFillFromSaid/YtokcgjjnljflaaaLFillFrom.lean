/-
  The law on FillFrom: it answers true at every input, and every argument reads as before. No conditions.
-/
import Derived.Test.YtokcgjjnljflaaaLdQ
import Derived.Test.YtokcgjjnljflaaaRows
import Derived.Test.YtokcgjjnljflaaaMem3
namespace Go.Proofs.Ytokcgjjnljflaaa.lawFillFrom
open Go.RowKit

set_option maxRecDepth 100000 in
set_option maxHeartbeats 4000000 in
theorem walk (x0_Appliance : ByteArray) (x0_Things : List Thing) (A0 : Option Addr) (n0 c0 : Nat) (x1 : List Thing) (A1 : Option Addr) (n1 c1 : Nat) (x2 : List Load) (A2 : Option Addr) (n2 c2 : Nat) (w : World) (hn0 : (n0 : Int) ≤ 9223372036854775807) (hs0 : Sl w A0 n0 x0_Things) (hv0 : ∀ x, x ∈ x0_Things → x.Name.size ≤ maxLen) (hz0Appliance : x0_Appliance.size ≤ maxLen) (hn1 : (n1 : Int) ≤ 9223372036854775807) (hs1 : Sl w A1 n1 x1) (hv1 : ∀ x, x ∈ x1 → x.Name.size ≤ maxLen) (hn2 : (n2 : Int) ≤ 9223372036854775807) (hs2 : Sl w A2 n2 x2) (hv2 : ∀ x, x ∈ x2 → x.Appliance.size ≤ maxLen ∧ ∀ y, y ∈ x.Things → y.Name.size ≤ maxLen) :
    Calls Try.prog 5 #[.agg #[.string x0_Appliance, .slice A0 n0 c0], .slice A1 n1 c1, .slice A2 n2 c2] w fun e w' => e = .returned (.bool true) ∧ Below w.heap.size w w' := by
  go_enter Try.func5, Try.ntmps5
  have hk0 := bl_refl w
  go_wp2_with fail
  refine (szLoad_sum x0_Appliance _ _ _ x0_Things _ _ hz0Appliance hn0 (hs0.below (bl_trans hk0 (by repeat' (first | exact bl_refl _ | refine bl_alloc ?_ _ | refine bl_drew ?_ | refine bl_drewN ?_ _ | refine bl_set ?_ ?_ _ | (simp; done) | (simp; omega))))) hv0 (by omega) (by omega)).mono ?_
  rintro e V1 ⟨r0, rfl, hr0, hb1⟩
  have hB1 := bl_trans (a := w) (by repeat' (first | exact bl_refl _ | refine bl_alloc ?_ _ | refine bl_drew ?_ | refine bl_drewN ?_ _ | refine bl_set ?_ ?_ _ | (simp; done) | (simp; omega))) hb1
  have hk1 := bl_trans hk0 hB1
  have z1 : Hid (w.heap.size + 1 ≤ V1.heap.size) := by have := hb1.size; simp only [World.size_alloc] at this; exact (by omega : _)
  have ba0_0_1 : V1.cell? ⟨w.heap.size, 0, none⟩ = some (.string x0_Appliance) := cell_later hb1 (by go_simp)
  have ba0_1_1 : V1.cell? ⟨w.heap.size, 1, none⟩ = some (.slice A0 n0 c0) := cell_later hb1 (by go_simp)
  have la0_1 : w.heap.size < V1.heap.size := World.block_lt_of_cell? _ _ ba0_0_1
  clear hb1
  rcases hr0 with rfl | ⟨ha0, hp0⟩
  · go_wp2
    go_ret
    exact ⟨rfl, hk1⟩
  have hl0 : n0 ≤ 1048576 := by have := hp0; omega
  have hL0 : x0_Things.length ≤ 1048576 := by rw [hs0.1]; exact hl0
  skip
  go_wp2_with fail
  refine (szThingS_any _ _ _ x1 _ _ hn1 (hs1.below hk1) hv1 (by omega) (by omega)).mono ?_
  rintro e V2 ⟨r1, rfl, hr1, hb2⟩
  have hB2 := bl_trans (a := V1) (bl_refl _) hb2
  have hk2 := bl_trans hk1 hB2
  have z2 := Lib.hid hB2.size
  have ba0_0_2 : V2.cell? ⟨w.heap.size, 0, none⟩ = some (.string x0_Appliance) := cell_later hB2 ba0_0_1
  have ba0_1_2 : V2.cell? ⟨w.heap.size, 1, none⟩ = some (.slice A0 n0 c0) := cell_later hB2 ba0_1_1
  have la0_2 : w.heap.size < V2.heap.size := World.block_lt_of_cell? _ _ ba0_0_2
  clear hk1 ba0_0_1 ba0_1_1 la0_1
  clear hb2
  rcases hr1 with rfl | ⟨ha1, hc1, hp1⟩
  · go_wp2
    go_ret
    exact ⟨rfl, hk2⟩
  have hl1 : n1 ≤ 1048576 := by have := hp1.1; omega
  have hL1 : x1.length ≤ 1048576 := by rw [hs1.1]; exact hl1
  have hp1 := hp1.1
  go_wp2_with fail
  refine (szLoadS_any _ _ _ x2 _ _ hn2 (hs2.below hk2) hv2 (by omega) (by omega)).mono ?_
  rintro e V3 ⟨r2, rfl, hr2, hb3⟩
  have hB3 := bl_trans (a := V2) (bl_refl _) hb3
  have hk3 := bl_trans hk2 hB3
  have z3 := Lib.hid hB3.size
  have ba0_0_3 : V3.cell? ⟨w.heap.size, 0, none⟩ = some (.string x0_Appliance) := cell_later hB3 ba0_0_2
  have ba0_1_3 : V3.cell? ⟨w.heap.size, 1, none⟩ = some (.slice A0 n0 c0) := cell_later hB3 ba0_1_2
  have la0_3 : w.heap.size < V3.heap.size := World.block_lt_of_cell? _ _ ba0_0_3
  clear hk2 ba0_0_2 ba0_1_2 la0_2
  clear hb3
  rcases hr2 with rfl | ⟨ha2, hc2, hp2⟩
  · go_wp2
    go_ret
    exact ⟨rfl, hk3⟩
  have hl2 : n2 ≤ 1048576 := by omega
  have hL2 : x2.length ≤ 1048576 := by rw [hs2.1]; exact hl2
  have hI2 : sumLoad x2 ≤ 1048576 := by omega
  have hS2 : (n2 : Int) + sumLoad x2 ≤ 1048576 := by omega
  have hin2 := Lib.hid (fun x (hx : x ∈ x2) => Nat.le_trans (sumLoad_at hx) hI2)
  clear hp2
  go_wp2_with fail
  refine (toLoad_any x0_Appliance _ _ _ x0_Things _ hl0 (hs0.below hk3)).mono ?_
  rintro e V4 ⟨A_s0, c_s0, rfl, ho_s0, hb4⟩
  have hi_s0 := ho_s0.lies
  have Hi_s0 := Lib.hid hi_s0
  clear hi_s0
  have hB4 := bl_trans (a := V3) (bl_refl _) hb4
  have hk4 := bl_trans hk3 hB4
  have z4 := Lib.hid hB4.size
  have ba0_0_4 : V4.cell? ⟨w.heap.size, 0, none⟩ = some (.string x0_Appliance) := cell_later hB4 ba0_0_3
  have ba0_1_4 : V4.cell? ⟨w.heap.size, 1, none⟩ = some (.slice A0 n0 c0) := cell_later hB4 ba0_1_3
  have la0_4 : w.heap.size < V4.heap.size := World.block_lt_of_cell? _ _ ba0_0_4
  clear hk3 ba0_0_3 ba0_1_3 la0_3
  clear hb4
  go_wp2_with fail
  refine (toThingS_any _ _ _ x1 _ hl1 (hs1.below hk4)).mono ?_
  rintro e V5 ⟨A_s1, c_s1, rfl, ho_s1, hb5⟩
  have hi_s1 := ho_s1.lies
  have Hi_s1 := Lib.hid hi_s1
  clear hi_s1
  have hB5 := bl_trans (a := V4) (bl_refl _) hb5
  have hk5 := bl_trans hk4 hB5
  have z5 := Lib.hid hB5.size
  have s0_5 := ho_s0.below hB5
  have ba0_0_5 : V5.cell? ⟨w.heap.size, 0, none⟩ = some (.string x0_Appliance) := cell_later hB5 ba0_0_4
  have ba0_1_5 : V5.cell? ⟨w.heap.size, 1, none⟩ = some (.slice A0 n0 c0) := cell_later hB5 ba0_1_4
  have la0_5 : w.heap.size < V5.heap.size := World.block_lt_of_cell? _ _ ba0_0_5
  clear hk4 ho_s0 ba0_0_4 ba0_1_4 la0_4
  clear hb5
  go_wp2_with fail
  refine (toLoadS_any _ _ _ x2 _ hl2 (hs2.below hk5) hin2.out).mono ?_
  rintro e V6 ⟨A_s2, c_s2, F_s2, rfl, ho_s2, hb6⟩
  have hi_s2 := ho_s2.lies
  have Hi_s2 := Lib.hid hi_s2
  clear hi_s2
  have hB6 := bl_trans (a := V5) (bl_refl _) hb6
  have hk6 := bl_trans hk5 hB6
  have z6 := Lib.hid hB6.size
  have s0_6 := s0_5.below hB6
  have s1_6 := ho_s1.below hB6
  have ba0_0_6 : V6.cell? ⟨w.heap.size, 0, none⟩ = some (.string x0_Appliance) := cell_later hB6 ba0_0_5
  have ba0_1_6 : V6.cell? ⟨w.heap.size, 1, none⟩ = some (.slice A0 n0 c0) := cell_later hB6 ba0_1_5
  have la0_6 : w.heap.size < V6.heap.size := World.block_lt_of_cell? _ _ ba0_0_6
  clear hk5 s0_5 ho_s1 ba0_0_5 ba0_1_5 la0_5
  clear hb6
  have hR : (fillT (⟨x0_Appliance, x0_Things⟩ : Load) x1 x2).1.Things.length ≤ 1048576 ∧ (fillT (⟨x0_Appliance, x0_Things⟩ : Load) x1 x2).2.1.length ≤ 1048576 ∧ ((fillT (⟨x0_Appliance, x0_Things⟩ : Load) x1 x2).2.1.length : Int) + sumLoad (fillT (⟨x0_Appliance, x0_Things⟩ : Load) x1 x2).2.1 ≤ 1048576 := fillT_len (⟨x0_Appliance, x0_Things⟩ : Load) x1 x2
  obtain ⟨hR0, hR1, hRS1⟩ := hR
  go_wp2_with fail
  refine (specFillFrom_any x0_Appliance x0_Things x1 x2 _ _ _ _ _ _ _ _ _ _ hz0Appliance hL0 hL1 hL2 s0_6.sl s1_6.sl ho_s2.sl hv0 hv1 hv2).mono ?_
  rintro e V7 ⟨A_w0, c_w0, A_w1, c_w1, F_w1, rfl, ho_w0, ho_w1, ap_w, hb7⟩
  have hap_w := Lib.hid ap_w
  clear ap_w
  have hi_w0 := ho_w0.lies
  have Hi_w0 := Lib.hid hi_w0
  clear hi_w0
  have hi_w1 := ho_w1.lies
  have Hi_w1 := Lib.hid hi_w1
  clear hi_w1
  clear s0_6 Hi_s0
  clear s1_6 Hi_s1
  clear ho_s2 Hi_s2
  have hB7 := bl_trans (a := V6) (bl_refl _) hb7
  have hk7 := bl_trans hk6 hB7
  have z7 := Lib.hid hB7.size
  have ba0_0_7 : V7.cell? ⟨w.heap.size, 0, none⟩ = some (.string x0_Appliance) := cell_later hB7 ba0_0_6
  have ba0_1_7 : V7.cell? ⟨w.heap.size, 1, none⟩ = some (.slice A0 n0 c0) := cell_later hB7 ba0_1_6
  have la0_7 : w.heap.size < V7.heap.size := World.block_lt_of_cell? _ _ ba0_0_7
  clear hk6 ba0_0_6 ba0_1_6 la0_6
  clear hb7
  go_wp2_with fail
  refine (toLoad_any x0_Appliance _ _ _ x0_Things _ hl0 (hs0.below (bl_trans hk7 (by repeat' (first | exact bl_refl _ | refine bl_alloc ?_ _ | refine bl_drew ?_ | refine bl_drewN ?_ _ | refine bl_set ?_ ?_ _ | (simp; done) | (simp; omega)))))).mono ?_
  rintro e V8 ⟨A_x0, c_x0, rfl, ho_x0, hb8⟩
  have hi_x0 := ho_x0.lies
  have Hi_x0 := Lib.hid hi_x0
  clear hi_x0
  have hB8 := bl_trans (a := V7) (by repeat' (first | exact bl_refl _ | refine bl_alloc ?_ _ | refine bl_drew ?_ | refine bl_drewN ?_ _ | refine bl_set ?_ ?_ _ | (simp; done) | (simp; omega))) hb8
  have hk8 := bl_trans hk7 hB8
  have z8 : Hid (V7.heap.size + 1 ≤ V8.heap.size) := by have := hb8.size; simp only [World.size_alloc] at this; exact (by omega : _)
  have w0_8 := ho_w0.below hB8
  have w1_8 := ho_w1.below hB8
  have ba0_0_8 : V8.cell? ⟨w.heap.size, 0, none⟩ = some (.string x0_Appliance) := cell_later hB8 ba0_0_7
  have ba0_1_8 : V8.cell? ⟨w.heap.size, 1, none⟩ = some (.slice A0 n0 c0) := cell_later hB8 ba0_1_7
  have la0_8 : w.heap.size < V8.heap.size := World.block_lt_of_cell? _ _ ba0_0_8
  have bw0_0_8 : V8.cell? ⟨V7.heap.size, 0, none⟩ = some (.string (fillT (⟨x0_Appliance, x0_Things⟩ : Load) x1 x2).1.Appliance) := cell_later hb8 (by go_simp)
  have bw0_1_8 : V8.cell? ⟨V7.heap.size, 1, none⟩ = some (.slice A_w0 (fillT (⟨x0_Appliance, x0_Things⟩ : Load) x1 x2).1.Things.length c_w0) := cell_later hb8 (by go_simp)
  have lw0_8 : V7.heap.size < V8.heap.size := World.block_lt_of_cell? _ _ bw0_0_8
  clear hk7 ho_w0 ho_w1 ba0_0_7 ba0_1_7 la0_7
  clear hb8
  go_wp2_with fail
  refine (toThingS_any _ _ _ x1 _ hl1 (hs1.below (bl_trans hk8 (by repeat' (first | exact bl_refl _ | refine bl_alloc ?_ _ | refine bl_drew ?_ | refine bl_drewN ?_ _ | refine bl_set ?_ ?_ _ | (simp; done) | (simp; omega)))))).mono ?_
  rintro e V9 ⟨A_x1, c_x1, rfl, ho_x1, hb9⟩
  have hi_x1 := ho_x1.lies
  have Hi_x1 := Lib.hid hi_x1
  clear hi_x1
  have hB9 := bl_trans (a := V8) (by repeat' (first | exact bl_refl _ | refine bl_alloc ?_ _ | refine bl_drew ?_ | refine bl_drewN ?_ _ | refine bl_set ?_ ?_ _ | (simp; done) | (simp; omega))) hb9
  have hk9 := bl_trans hk8 hB9
  have z9 : Hid (V8.heap.size + 1 ≤ V9.heap.size) := by have := hb9.size; simp only [World.size_alloc] at this; exact (by omega : _)
  have w0_9 := w0_8.below hB9
  have w1_9 := w1_8.below hB9
  have x0_9 := ho_x0.below hB9
  have ba0_0_9 : V9.cell? ⟨w.heap.size, 0, none⟩ = some (.string x0_Appliance) := cell_later hB9 ba0_0_8
  have ba0_1_9 : V9.cell? ⟨w.heap.size, 1, none⟩ = some (.slice A0 n0 c0) := cell_later hB9 ba0_1_8
  have la0_9 : w.heap.size < V9.heap.size := World.block_lt_of_cell? _ _ ba0_0_9
  have bw0_0_9 : V9.cell? ⟨V7.heap.size, 0, none⟩ = some (.string (fillT (⟨x0_Appliance, x0_Things⟩ : Load) x1 x2).1.Appliance) := cell_later hB9 bw0_0_8
  have bw0_1_9 : V9.cell? ⟨V7.heap.size, 1, none⟩ = some (.slice A_w0 (fillT (⟨x0_Appliance, x0_Things⟩ : Load) x1 x2).1.Things.length c_w0) := cell_later hB9 bw0_1_8
  have lw0_9 : V7.heap.size < V9.heap.size := World.block_lt_of_cell? _ _ bw0_0_9
  have bx0_0_9 : V9.cell? ⟨V8.heap.size, 0, none⟩ = some (.string x0_Appliance) := cell_later hb9 (by go_simp)
  have bx0_1_9 : V9.cell? ⟨V8.heap.size, 1, none⟩ = some (.slice A_x0 x0_Things.length c_x0) := cell_later hb9 (by go_simp)
  have lx0_9 : V8.heap.size < V9.heap.size := World.block_lt_of_cell? _ _ bx0_0_9
  clear hk8 w0_8 w1_8 ho_x0 ba0_0_8 ba0_1_8 la0_8 bw0_0_8 bw0_1_8 lw0_8
  clear hb9
  go_wp2_with fail
  refine (toLoadS_any _ _ _ x2 _ hl2 (hs2.below hk9) hin2.out).mono ?_
  rintro e V10 ⟨A_x2, c_x2, F_x2, rfl, ho_x2, hb10⟩
  have hi_x2 := ho_x2.lies
  have Hi_x2 := Lib.hid hi_x2
  clear hi_x2
  have hB10 := bl_trans (a := V9) (bl_refl _) hb10
  have hk10 := bl_trans hk9 hB10
  have z10 := Lib.hid hB10.size
  have w0_10 := w0_9.below hB10
  have w1_10 := w1_9.below hB10
  have x0_10 := x0_9.below hB10
  have x1_10 := ho_x1.below hB10
  have ba0_0_10 : V10.cell? ⟨w.heap.size, 0, none⟩ = some (.string x0_Appliance) := cell_later hB10 ba0_0_9
  have ba0_1_10 : V10.cell? ⟨w.heap.size, 1, none⟩ = some (.slice A0 n0 c0) := cell_later hB10 ba0_1_9
  have la0_10 : w.heap.size < V10.heap.size := World.block_lt_of_cell? _ _ ba0_0_10
  have bw0_0_10 : V10.cell? ⟨V7.heap.size, 0, none⟩ = some (.string (fillT (⟨x0_Appliance, x0_Things⟩ : Load) x1 x2).1.Appliance) := cell_later hB10 bw0_0_9
  have bw0_1_10 : V10.cell? ⟨V7.heap.size, 1, none⟩ = some (.slice A_w0 (fillT (⟨x0_Appliance, x0_Things⟩ : Load) x1 x2).1.Things.length c_w0) := cell_later hB10 bw0_1_9
  have lw0_10 : V7.heap.size < V10.heap.size := World.block_lt_of_cell? _ _ bw0_0_10
  have bx0_0_10 : V10.cell? ⟨V8.heap.size, 0, none⟩ = some (.string x0_Appliance) := cell_later hB10 bx0_0_9
  have bx0_1_10 : V10.cell? ⟨V8.heap.size, 1, none⟩ = some (.slice A_x0 x0_Things.length c_x0) := cell_later hB10 bx0_1_9
  have lx0_10 : V8.heap.size < V10.heap.size := World.block_lt_of_cell? _ _ bx0_0_10
  clear hk9 w0_9 w1_9 x0_9 ho_x1 ba0_0_9 ba0_1_9 la0_9 bw0_0_9 bw0_1_9 lw0_9 bx0_0_9 bx0_1_9 lx0_9
  clear hb10
  go_wp2_with fail
  refine (implFillFrom_any x0_Appliance x0_Things x1 x2 _ _ _ _ _ _ _ _ _ _ hz0Appliance hL0 hL1 hL2 ho_x2.cap (OwnX.capm ho_x2) x0_10.sl x1_10.sl ho_x2.sl hv0 hv1 hv2).mono ?_
  rintro e V11 ⟨A_g0, c_g0, A_g1, c_g1, F_g1, rfl, ho_g0, ho_g1, ap_g, hb11⟩
  have hap_g := Lib.hid ap_g
  clear ap_g
  have hi_g0 := ho_g0.lies
  have Hi_g0 := Lib.hid hi_g0
  clear hi_g0
  have hi_g1 := ho_g1.lies
  have Hi_g1 := Lib.hid hi_g1
  clear hi_g1
  have hB11 := bl_trans (a := V10) (bl_refl _) hb11
  have hk11 := bl_trans hk10 hB11
  have z11 := Lib.hid hB11.size
  have w0_11 := w0_10.below hB11
  have w1_11 := w1_10.below hB11
  have x0_11 := x0_10.below hB11
  have x1_11 := x1_10.below hB11
  have x2_11 := ho_x2.below hB11
  have ba0_0_11 : V11.cell? ⟨w.heap.size, 0, none⟩ = some (.string x0_Appliance) := cell_later hB11 ba0_0_10
  have ba0_1_11 : V11.cell? ⟨w.heap.size, 1, none⟩ = some (.slice A0 n0 c0) := cell_later hB11 ba0_1_10
  have la0_11 : w.heap.size < V11.heap.size := World.block_lt_of_cell? _ _ ba0_0_11
  have bw0_0_11 : V11.cell? ⟨V7.heap.size, 0, none⟩ = some (.string (fillT (⟨x0_Appliance, x0_Things⟩ : Load) x1 x2).1.Appliance) := cell_later hB11 bw0_0_10
  have bw0_1_11 : V11.cell? ⟨V7.heap.size, 1, none⟩ = some (.slice A_w0 (fillT (⟨x0_Appliance, x0_Things⟩ : Load) x1 x2).1.Things.length c_w0) := cell_later hB11 bw0_1_10
  have lw0_11 : V7.heap.size < V11.heap.size := World.block_lt_of_cell? _ _ bw0_0_11
  have bx0_0_11 : V11.cell? ⟨V8.heap.size, 0, none⟩ = some (.string x0_Appliance) := cell_later hB11 bx0_0_10
  have bx0_1_11 : V11.cell? ⟨V8.heap.size, 1, none⟩ = some (.slice A_x0 x0_Things.length c_x0) := cell_later hB11 bx0_1_10
  have lx0_11 : V8.heap.size < V11.heap.size := World.block_lt_of_cell? _ _ bx0_0_11
  clear hk10 w0_10 w1_10 x0_10 x1_10 ho_x2 ba0_0_10 ba0_1_10 la0_10 bw0_0_10 bw0_1_10 lw0_10 bx0_0_10 bx0_1_10 lx0_10
  clear hb11
  go_wp2_with fail
  refine (eqLoad_any _ _ _ _ _ _ _ _ _ _ _ (by omega) (ho_g0.sl.below (by repeat' (first | exact bl_refl _ | refine bl_alloc ?_ _ | refine bl_drew ?_ | refine bl_drewN ?_ _ | refine bl_set ?_ ?_ _ | (simp; done) | (simp; omega)))) (w0_11.sl.below (by repeat' (first | exact bl_refl _ | refine bl_alloc ?_ _ | refine bl_drew ?_ | refine bl_drewN ?_ _ | refine bl_set ?_ ?_ _ | (simp; done) | (simp; omega))))).mono ?_
  rintro e V12 ⟨rfl, hb12⟩
  rw [sameB_refl]
  have hB12 := bl_trans (a := V11) (by repeat' (first | exact bl_refl _ | refine bl_alloc ?_ _ | refine bl_drew ?_ | refine bl_drewN ?_ _ | refine bl_set ?_ ?_ _ | (simp; done) | (simp; omega))) hb12
  have hk12 := bl_trans hk11 hB12
  have z12 : Hid (V11.heap.size + 1 ≤ V12.heap.size) := by have := hb12.size; simp only [World.size_alloc] at this; exact (by omega : _)
  have w0_12 := w0_11.below hB12
  have w1_12 := w1_11.below hB12
  have x0_12 := x0_11.below hB12
  have x1_12 := x1_11.below hB12
  have x2_12 := x2_11.below hB12
  have g0_12 := ho_g0.below hB12
  have g1_12 := ho_g1.below hB12
  have ba0_0_12 : V12.cell? ⟨w.heap.size, 0, none⟩ = some (.string x0_Appliance) := cell_later hB12 ba0_0_11
  have ba0_1_12 : V12.cell? ⟨w.heap.size, 1, none⟩ = some (.slice A0 n0 c0) := cell_later hB12 ba0_1_11
  have la0_12 : w.heap.size < V12.heap.size := World.block_lt_of_cell? _ _ ba0_0_12
  have bw0_0_12 : V12.cell? ⟨V7.heap.size, 0, none⟩ = some (.string (fillT (⟨x0_Appliance, x0_Things⟩ : Load) x1 x2).1.Appliance) := cell_later hB12 bw0_0_11
  have bw0_1_12 : V12.cell? ⟨V7.heap.size, 1, none⟩ = some (.slice A_w0 (fillT (⟨x0_Appliance, x0_Things⟩ : Load) x1 x2).1.Things.length c_w0) := cell_later hB12 bw0_1_11
  have lw0_12 : V7.heap.size < V12.heap.size := World.block_lt_of_cell? _ _ bw0_0_12
  have bx0_0_12 : V12.cell? ⟨V8.heap.size, 0, none⟩ = some (.string x0_Appliance) := cell_later hB12 bx0_0_11
  have bx0_1_12 : V12.cell? ⟨V8.heap.size, 1, none⟩ = some (.slice A_x0 x0_Things.length c_x0) := cell_later hB12 bx0_1_11
  have lx0_12 : V8.heap.size < V12.heap.size := World.block_lt_of_cell? _ _ bx0_0_12
  have bg0_0_12 : V12.cell? ⟨V11.heap.size, 0, none⟩ = some (.string (fillT (⟨x0_Appliance, x0_Things⟩ : Load) x1 x2).1.Appliance) := cell_later hb12 (by go_simp)
  have bg0_1_12 : V12.cell? ⟨V11.heap.size, 1, none⟩ = some (.slice A_g0 (fillT (⟨x0_Appliance, x0_Things⟩ : Load) x1 x2).1.Things.length c_g0) := cell_later hb12 (by go_simp)
  have lg0_12 : V11.heap.size < V12.heap.size := World.block_lt_of_cell? _ _ bg0_0_12
  clear hk11 w0_11 w1_11 x0_11 x1_11 x2_11 ho_g0 ho_g1 ba0_0_11 ba0_1_11 la0_11 bw0_0_11 bw0_1_11 lw0_11 bx0_0_11 bx0_1_11 lx0_11
  clear hb12
  go_wp2_with fail
  refine (eqLoadS_any _ _ _ _ _ _ _ _ _ (by omega) g1_12.sl w1_12.sl).mono ?_
  rintro e V13 ⟨rfl, hb13⟩
  rw [sameB_refl]
  have hB13 := bl_trans (a := V12) (bl_refl _) hb13
  have hk13 := bl_trans hk12 hB13
  have z13 := Lib.hid hB13.size
  have w0_13 := w0_12.below hB13
  have w1_13 := w1_12.below hB13
  have x0_13 := x0_12.below hB13
  have x1_13 := x1_12.below hB13
  have x2_13 := x2_12.below hB13
  have g0_13 := g0_12.below hB13
  have g1_13 := g1_12.below hB13
  have ba0_0_13 : V13.cell? ⟨w.heap.size, 0, none⟩ = some (.string x0_Appliance) := cell_later hB13 ba0_0_12
  have ba0_1_13 : V13.cell? ⟨w.heap.size, 1, none⟩ = some (.slice A0 n0 c0) := cell_later hB13 ba0_1_12
  have la0_13 : w.heap.size < V13.heap.size := World.block_lt_of_cell? _ _ ba0_0_13
  have bw0_0_13 : V13.cell? ⟨V7.heap.size, 0, none⟩ = some (.string (fillT (⟨x0_Appliance, x0_Things⟩ : Load) x1 x2).1.Appliance) := cell_later hB13 bw0_0_12
  have bw0_1_13 : V13.cell? ⟨V7.heap.size, 1, none⟩ = some (.slice A_w0 (fillT (⟨x0_Appliance, x0_Things⟩ : Load) x1 x2).1.Things.length c_w0) := cell_later hB13 bw0_1_12
  have lw0_13 : V7.heap.size < V13.heap.size := World.block_lt_of_cell? _ _ bw0_0_13
  have bx0_0_13 : V13.cell? ⟨V8.heap.size, 0, none⟩ = some (.string x0_Appliance) := cell_later hB13 bx0_0_12
  have bx0_1_13 : V13.cell? ⟨V8.heap.size, 1, none⟩ = some (.slice A_x0 x0_Things.length c_x0) := cell_later hB13 bx0_1_12
  have lx0_13 : V8.heap.size < V13.heap.size := World.block_lt_of_cell? _ _ bx0_0_13
  have bg0_0_13 : V13.cell? ⟨V11.heap.size, 0, none⟩ = some (.string (fillT (⟨x0_Appliance, x0_Things⟩ : Load) x1 x2).1.Appliance) := cell_later hB13 bg0_0_12
  have bg0_1_13 : V13.cell? ⟨V11.heap.size, 1, none⟩ = some (.slice A_g0 (fillT (⟨x0_Appliance, x0_Things⟩ : Load) x1 x2).1.Things.length c_g0) := cell_later hB13 bg0_1_12
  have lg0_13 : V11.heap.size < V13.heap.size := World.block_lt_of_cell? _ _ bg0_0_13
  clear hk12 w0_12 w1_12 x0_12 x1_12 x2_12 g0_12 g1_12 ba0_0_12 ba0_1_12 la0_12 bw0_0_12 bw0_1_12 lw0_12 bx0_0_12 bx0_1_12 lx0_12 bg0_0_12 bg0_1_12 lg0_12
  clear hb13
  have hD15 := bl_drew (bl_refl V13)
  go_wp2_with fail
  go_region_held3 (fun w' => w'.cell? ⟨V8.heap.size, 0, none⟩ = some (.string x0_Appliance) ∧ w'.cell? ⟨V8.heap.size, 1, none⟩ = some (.slice A_x0 x0_Things.length c_x0) ∧ w'.cell? ⟨w.heap.size, 0, none⟩ = some (.string x0_Appliance) ∧ w'.cell? ⟨w.heap.size, 1, none⟩ = some (.slice A0 n0 c0) ∧ Below V13.heap.size V13 w') (first | exact ⟨cell_later hE15 bx0_0_13, cell_later hE15 bx0_1_13, cell_later hE15 ba0_0_13, cell_later hE15 ba0_1_13, hE15⟩ | exact ⟨cell_later hE14 bx0_0_13, cell_later hE14 bx0_1_13, cell_later hE14 ba0_0_13, cell_later hE14 ba0_1_13, hE14⟩ | exact ⟨cell_later hD15 bx0_0_13, cell_later hD15 bx0_1_13, cell_later hD15 ba0_0_13, cell_later hD15 ba0_1_13, hD15⟩) (first | (go_at_call 8; refine (toLoad_any x0_Appliance _ _ _ x0_Things _ hl0 (hs0.below (bl_trans hk13 hD15))).mono ?_; rintro e V14 ⟨A_y0, c_y0, rfl, ho_y0, hb14⟩; have hE14 := bl_trans hD15 hb14) | (go_at_call 10; refine (eqLoad_any _ _ _ _ _ _ _ _ _ _ _ (by omega) (x0_13.sl.below hE14) ho_y0.sl).mono ?_; rintro e V15 ⟨rfl, hb15⟩; have hE15 := bl_trans hE14 hb15))
  rw [sameB_refl]
  have hb15 := hE15
  clear hD15 hE14 hb14 ho_y0
  have hB15 := bl_trans (a := V13) (bl_refl _) hb15
  have hk15 := bl_trans hk13 hB15
  have z15 := Lib.hid hB15.size
  have w0_15 := w0_13.below hB15
  have w1_15 := w1_13.below hB15
  have x0_15 := x0_13.below hB15
  have x1_15 := x1_13.below hB15
  have x2_15 := x2_13.below hB15
  have g0_15 := g0_13.below hB15
  have g1_15 := g1_13.below hB15
  have ba0_0_15 : V15.cell? ⟨w.heap.size, 0, none⟩ = some (.string x0_Appliance) := cell_later hB15 ba0_0_13
  have ba0_1_15 : V15.cell? ⟨w.heap.size, 1, none⟩ = some (.slice A0 n0 c0) := cell_later hB15 ba0_1_13
  have la0_15 : w.heap.size < V15.heap.size := World.block_lt_of_cell? _ _ ba0_0_15
  have bw0_0_15 : V15.cell? ⟨V7.heap.size, 0, none⟩ = some (.string (fillT (⟨x0_Appliance, x0_Things⟩ : Load) x1 x2).1.Appliance) := cell_later hB15 bw0_0_13
  have bw0_1_15 : V15.cell? ⟨V7.heap.size, 1, none⟩ = some (.slice A_w0 (fillT (⟨x0_Appliance, x0_Things⟩ : Load) x1 x2).1.Things.length c_w0) := cell_later hB15 bw0_1_13
  have lw0_15 : V7.heap.size < V15.heap.size := World.block_lt_of_cell? _ _ bw0_0_15
  have bx0_0_15 : V15.cell? ⟨V8.heap.size, 0, none⟩ = some (.string x0_Appliance) := cell_later hB15 bx0_0_13
  have bx0_1_15 : V15.cell? ⟨V8.heap.size, 1, none⟩ = some (.slice A_x0 x0_Things.length c_x0) := cell_later hB15 bx0_1_13
  have lx0_15 : V8.heap.size < V15.heap.size := World.block_lt_of_cell? _ _ bx0_0_15
  have bg0_0_15 : V15.cell? ⟨V11.heap.size, 0, none⟩ = some (.string (fillT (⟨x0_Appliance, x0_Things⟩ : Load) x1 x2).1.Appliance) := cell_later hB15 bg0_0_13
  have bg0_1_15 : V15.cell? ⟨V11.heap.size, 1, none⟩ = some (.slice A_g0 (fillT (⟨x0_Appliance, x0_Things⟩ : Load) x1 x2).1.Things.length c_g0) := cell_later hB15 bg0_1_13
  have lg0_15 : V11.heap.size < V15.heap.size := World.block_lt_of_cell? _ _ bg0_0_15
  clear hk13 w0_13 w1_13 x0_13 x1_13 x2_13 g0_13 g1_13 ba0_0_13 ba0_1_13 la0_13 bw0_0_13 bw0_1_13 lw0_13 bx0_0_13 bx0_1_13 lx0_13 bg0_0_13 bg0_1_13 lg0_13
  clear hb15
  go_wp2_with fail
  refine (toThingS_any _ _ _ x1 _ hl1 (hs1.below hk15)).mono ?_
  rintro e V16 ⟨A_y1, c_y1, rfl, ho_y1, hb16⟩
  have hi_y1 := ho_y1.lies
  have Hi_y1 := Lib.hid hi_y1
  clear hi_y1
  have hB16 := bl_trans (a := V15) (bl_refl _) hb16
  have hk16 := bl_trans hk15 hB16
  have z16 := Lib.hid hB16.size
  have w0_16 := w0_15.below hB16
  have w1_16 := w1_15.below hB16
  have x0_16 := x0_15.below hB16
  have x1_16 := x1_15.below hB16
  have x2_16 := x2_15.below hB16
  have g0_16 := g0_15.below hB16
  have g1_16 := g1_15.below hB16
  have ba0_0_16 : V16.cell? ⟨w.heap.size, 0, none⟩ = some (.string x0_Appliance) := cell_later hB16 ba0_0_15
  have ba0_1_16 : V16.cell? ⟨w.heap.size, 1, none⟩ = some (.slice A0 n0 c0) := cell_later hB16 ba0_1_15
  have la0_16 : w.heap.size < V16.heap.size := World.block_lt_of_cell? _ _ ba0_0_16
  have bw0_0_16 : V16.cell? ⟨V7.heap.size, 0, none⟩ = some (.string (fillT (⟨x0_Appliance, x0_Things⟩ : Load) x1 x2).1.Appliance) := cell_later hB16 bw0_0_15
  have bw0_1_16 : V16.cell? ⟨V7.heap.size, 1, none⟩ = some (.slice A_w0 (fillT (⟨x0_Appliance, x0_Things⟩ : Load) x1 x2).1.Things.length c_w0) := cell_later hB16 bw0_1_15
  have lw0_16 : V7.heap.size < V16.heap.size := World.block_lt_of_cell? _ _ bw0_0_16
  have bx0_0_16 : V16.cell? ⟨V8.heap.size, 0, none⟩ = some (.string x0_Appliance) := cell_later hB16 bx0_0_15
  have bx0_1_16 : V16.cell? ⟨V8.heap.size, 1, none⟩ = some (.slice A_x0 x0_Things.length c_x0) := cell_later hB16 bx0_1_15
  have lx0_16 : V8.heap.size < V16.heap.size := World.block_lt_of_cell? _ _ bx0_0_16
  have bg0_0_16 : V16.cell? ⟨V11.heap.size, 0, none⟩ = some (.string (fillT (⟨x0_Appliance, x0_Things⟩ : Load) x1 x2).1.Appliance) := cell_later hB16 bg0_0_15
  have bg0_1_16 : V16.cell? ⟨V11.heap.size, 1, none⟩ = some (.slice A_g0 (fillT (⟨x0_Appliance, x0_Things⟩ : Load) x1 x2).1.Things.length c_g0) := cell_later hB16 bg0_1_15
  have lg0_16 : V11.heap.size < V16.heap.size := World.block_lt_of_cell? _ _ bg0_0_16
  clear hk15 w0_15 w1_15 x0_15 x1_15 x2_15 g0_15 g1_15 ba0_0_15 ba0_1_15 la0_15 bw0_0_15 bw0_1_15 lw0_15 bx0_0_15 bx0_1_15 lx0_15 bg0_0_15 bg0_1_15 lg0_15
  clear hb16
  go_wp2_with fail
  refine (eqThingS_any _ _ _ _ _ _ _ _ _ (by omega) x1_16.sl ho_y1.sl).mono ?_
  rintro e V17 ⟨rfl, hb17⟩
  rw [sameB_refl]
  have hB17 := bl_trans (a := V16) (bl_refl _) hb17
  have hk17 := bl_trans hk16 hB17
  have z17 := Lib.hid hB17.size
  have w0_17 := w0_16.below hB17
  have w1_17 := w1_16.below hB17
  have x0_17 := x0_16.below hB17
  have x1_17 := x1_16.below hB17
  have x2_17 := x2_16.below hB17
  have g0_17 := g0_16.below hB17
  have g1_17 := g1_16.below hB17
  have y1_17 := ho_y1.below hB17
  have ba0_0_17 : V17.cell? ⟨w.heap.size, 0, none⟩ = some (.string x0_Appliance) := cell_later hB17 ba0_0_16
  have ba0_1_17 : V17.cell? ⟨w.heap.size, 1, none⟩ = some (.slice A0 n0 c0) := cell_later hB17 ba0_1_16
  have la0_17 : w.heap.size < V17.heap.size := World.block_lt_of_cell? _ _ ba0_0_17
  have bw0_0_17 : V17.cell? ⟨V7.heap.size, 0, none⟩ = some (.string (fillT (⟨x0_Appliance, x0_Things⟩ : Load) x1 x2).1.Appliance) := cell_later hB17 bw0_0_16
  have bw0_1_17 : V17.cell? ⟨V7.heap.size, 1, none⟩ = some (.slice A_w0 (fillT (⟨x0_Appliance, x0_Things⟩ : Load) x1 x2).1.Things.length c_w0) := cell_later hB17 bw0_1_16
  have lw0_17 : V7.heap.size < V17.heap.size := World.block_lt_of_cell? _ _ bw0_0_17
  have bx0_0_17 : V17.cell? ⟨V8.heap.size, 0, none⟩ = some (.string x0_Appliance) := cell_later hB17 bx0_0_16
  have bx0_1_17 : V17.cell? ⟨V8.heap.size, 1, none⟩ = some (.slice A_x0 x0_Things.length c_x0) := cell_later hB17 bx0_1_16
  have lx0_17 : V8.heap.size < V17.heap.size := World.block_lt_of_cell? _ _ bx0_0_17
  have bg0_0_17 : V17.cell? ⟨V11.heap.size, 0, none⟩ = some (.string (fillT (⟨x0_Appliance, x0_Things⟩ : Load) x1 x2).1.Appliance) := cell_later hB17 bg0_0_16
  have bg0_1_17 : V17.cell? ⟨V11.heap.size, 1, none⟩ = some (.slice A_g0 (fillT (⟨x0_Appliance, x0_Things⟩ : Load) x1 x2).1.Things.length c_g0) := cell_later hB17 bg0_1_16
  have lg0_17 : V11.heap.size < V17.heap.size := World.block_lt_of_cell? _ _ bg0_0_17
  clear hk16 w0_16 w1_16 x0_16 x1_16 x2_16 g0_16 g1_16 ho_y1 ba0_0_16 ba0_1_16 la0_16 bw0_0_16 bw0_1_16 lw0_16 bx0_0_16 bx0_1_16 lx0_16 bg0_0_16 bg0_1_16 lg0_16
  clear hb17
  clear y1_17 Hi_y1
  go_wp2_with fail
  refine (toLoadS_any _ _ _ x2 _ hl2 (hs2.below hk17) hin2.out).mono ?_
  rintro e V18 ⟨A_y2, c_y2, F_y2, rfl, ho_y2, hb18⟩
  have hi_y2 := ho_y2.lies
  have Hi_y2 := Lib.hid hi_y2
  clear hi_y2
  have hB18 := bl_trans (a := V17) (bl_refl _) hb18
  have hk18 := bl_trans hk17 hB18
  have z18 := Lib.hid hB18.size
  have w0_18 := w0_17.below hB18
  have w1_18 := w1_17.below hB18
  have x0_18 := x0_17.below hB18
  have x1_18 := x1_17.below hB18
  have x2_18 := x2_17.below hB18
  have g0_18 := g0_17.below hB18
  have g1_18 := g1_17.below hB18
  have ba0_0_18 : V18.cell? ⟨w.heap.size, 0, none⟩ = some (.string x0_Appliance) := cell_later hB18 ba0_0_17
  have ba0_1_18 : V18.cell? ⟨w.heap.size, 1, none⟩ = some (.slice A0 n0 c0) := cell_later hB18 ba0_1_17
  have la0_18 : w.heap.size < V18.heap.size := World.block_lt_of_cell? _ _ ba0_0_18
  have bw0_0_18 : V18.cell? ⟨V7.heap.size, 0, none⟩ = some (.string (fillT (⟨x0_Appliance, x0_Things⟩ : Load) x1 x2).1.Appliance) := cell_later hB18 bw0_0_17
  have bw0_1_18 : V18.cell? ⟨V7.heap.size, 1, none⟩ = some (.slice A_w0 (fillT (⟨x0_Appliance, x0_Things⟩ : Load) x1 x2).1.Things.length c_w0) := cell_later hB18 bw0_1_17
  have lw0_18 : V7.heap.size < V18.heap.size := World.block_lt_of_cell? _ _ bw0_0_18
  have bx0_0_18 : V18.cell? ⟨V8.heap.size, 0, none⟩ = some (.string x0_Appliance) := cell_later hB18 bx0_0_17
  have bx0_1_18 : V18.cell? ⟨V8.heap.size, 1, none⟩ = some (.slice A_x0 x0_Things.length c_x0) := cell_later hB18 bx0_1_17
  have lx0_18 : V8.heap.size < V18.heap.size := World.block_lt_of_cell? _ _ bx0_0_18
  have bg0_0_18 : V18.cell? ⟨V11.heap.size, 0, none⟩ = some (.string (fillT (⟨x0_Appliance, x0_Things⟩ : Load) x1 x2).1.Appliance) := cell_later hB18 bg0_0_17
  have bg0_1_18 : V18.cell? ⟨V11.heap.size, 1, none⟩ = some (.slice A_g0 (fillT (⟨x0_Appliance, x0_Things⟩ : Load) x1 x2).1.Things.length c_g0) := cell_later hB18 bg0_1_17
  have lg0_18 : V11.heap.size < V18.heap.size := World.block_lt_of_cell? _ _ bg0_0_18
  clear hk17 w0_17 w1_17 x0_17 x1_17 x2_17 g0_17 g1_17 ba0_0_17 ba0_1_17 la0_17 bw0_0_17 bw0_1_17 lw0_17 bx0_0_17 bx0_1_17 lx0_17 bg0_0_17 bg0_1_17 lg0_17
  clear hb18
  go_wp2_with fail
  refine (eqLoadS_any _ _ _ _ _ _ _ _ _ (by omega) x2_18.sl ho_y2.sl).mono ?_
  rintro e V19 ⟨rfl, hb19⟩
  rw [sameB_refl]
  have hB19 := bl_trans (a := V18) (bl_refl _) hb19
  have hk19 := bl_trans hk18 hB19
  have z19 := Lib.hid hB19.size
  have w0_19 := w0_18.below hB19
  have w1_19 := w1_18.below hB19
  have x0_19 := x0_18.below hB19
  have x1_19 := x1_18.below hB19
  have x2_19 := x2_18.below hB19
  have g0_19 := g0_18.below hB19
  have g1_19 := g1_18.below hB19
  have y2_19 := ho_y2.below hB19
  have ba0_0_19 : V19.cell? ⟨w.heap.size, 0, none⟩ = some (.string x0_Appliance) := cell_later hB19 ba0_0_18
  have ba0_1_19 : V19.cell? ⟨w.heap.size, 1, none⟩ = some (.slice A0 n0 c0) := cell_later hB19 ba0_1_18
  have la0_19 : w.heap.size < V19.heap.size := World.block_lt_of_cell? _ _ ba0_0_19
  have bw0_0_19 : V19.cell? ⟨V7.heap.size, 0, none⟩ = some (.string (fillT (⟨x0_Appliance, x0_Things⟩ : Load) x1 x2).1.Appliance) := cell_later hB19 bw0_0_18
  have bw0_1_19 : V19.cell? ⟨V7.heap.size, 1, none⟩ = some (.slice A_w0 (fillT (⟨x0_Appliance, x0_Things⟩ : Load) x1 x2).1.Things.length c_w0) := cell_later hB19 bw0_1_18
  have lw0_19 : V7.heap.size < V19.heap.size := World.block_lt_of_cell? _ _ bw0_0_19
  have bx0_0_19 : V19.cell? ⟨V8.heap.size, 0, none⟩ = some (.string x0_Appliance) := cell_later hB19 bx0_0_18
  have bx0_1_19 : V19.cell? ⟨V8.heap.size, 1, none⟩ = some (.slice A_x0 x0_Things.length c_x0) := cell_later hB19 bx0_1_18
  have lx0_19 : V8.heap.size < V19.heap.size := World.block_lt_of_cell? _ _ bx0_0_19
  have bg0_0_19 : V19.cell? ⟨V11.heap.size, 0, none⟩ = some (.string (fillT (⟨x0_Appliance, x0_Things⟩ : Load) x1 x2).1.Appliance) := cell_later hB19 bg0_0_18
  have bg0_1_19 : V19.cell? ⟨V11.heap.size, 1, none⟩ = some (.slice A_g0 (fillT (⟨x0_Appliance, x0_Things⟩ : Load) x1 x2).1.Things.length c_g0) := cell_later hB19 bg0_1_18
  have lg0_19 : V11.heap.size < V19.heap.size := World.block_lt_of_cell? _ _ bg0_0_19
  clear hk18 w0_18 w1_18 x0_18 x1_18 x2_18 g0_18 g1_18 ho_y2 ba0_0_18 ba0_1_18 la0_18 bw0_0_18 bw0_1_18 lw0_18 bx0_0_18 bx0_1_18 lx0_18 bg0_0_18 bg0_1_18 lg0_18
  clear hb19
  clear y2_19 Hi_y2
  go_wp2_with fail
  refine (markLoad_any _ _ _ _ _ _ _ _ (by omega) (by omega) (by omega) x0_19).mono ?_
  rintro e V20 ⟨rfl, hm20, hg20⟩
  have hf20 := OnlyF.of_gb hg20
  have hk20 := below_only hk19 hf20 Hi_x0.out (by (try simp only [World.size_alloc]); (try simp only [World.size_drew]); have := z1.out; have := z2.out; have := z3.out; have := z4.out; have := z5.out; have := z6.out; have := z7.out; have := z8.out; have := z9.out; have := z10.out; have := z11.out; have := z12.out; have := z13.out; have := z15.out; have := z16.out; have := z17.out; have := z18.out; have := z19.out; omega)
  have z20 := Lib.hid hf20.size
  have w0_20 := w0_19.only hf20 (Hi_w0.out.apart Hi_x0.out (by (try simp only [World.size_alloc]); (try simp only [World.size_drew]); have := z1.out; have := z2.out; have := z3.out; have := z4.out; have := z5.out; have := z6.out; have := z7.out; have := z8.out; have := z9.out; have := z10.out; have := z11.out; have := z12.out; have := z13.out; have := z15.out; have := z16.out; have := z17.out; have := z18.out; have := z19.out; have := z20.out; omega))
  have w1_20 := w1_19.only hf20 (Hi_w1.out.apart Hi_x0.out (by (try simp only [World.size_alloc]); (try simp only [World.size_drew]); have := z1.out; have := z2.out; have := z3.out; have := z4.out; have := z5.out; have := z6.out; have := z7.out; have := z8.out; have := z9.out; have := z10.out; have := z11.out; have := z12.out; have := z13.out; have := z15.out; have := z16.out; have := z17.out; have := z18.out; have := z19.out; have := z20.out; omega))
  have x1_20 := x1_19.only hf20 (Hi_x1.out.apart Hi_x0.out (by (try simp only [World.size_alloc]); (try simp only [World.size_drew]); have := z1.out; have := z2.out; have := z3.out; have := z4.out; have := z5.out; have := z6.out; have := z7.out; have := z8.out; have := z9.out; have := z10.out; have := z11.out; have := z12.out; have := z13.out; have := z15.out; have := z16.out; have := z17.out; have := z18.out; have := z19.out; have := z20.out; omega))
  have x2_20 := x2_19.only hf20 (Hi_x2.out.apart Hi_x0.out (by (try simp only [World.size_alloc]); (try simp only [World.size_drew]); have := z1.out; have := z2.out; have := z3.out; have := z4.out; have := z5.out; have := z6.out; have := z7.out; have := z8.out; have := z9.out; have := z10.out; have := z11.out; have := z12.out; have := z13.out; have := z15.out; have := z16.out; have := z17.out; have := z18.out; have := z19.out; have := z20.out; omega))
  have g0_20 := g0_19.only hf20 (Hi_g0.out.apart Hi_x0.out (by (try simp only [World.size_alloc]); (try simp only [World.size_drew]); have := z1.out; have := z2.out; have := z3.out; have := z4.out; have := z5.out; have := z6.out; have := z7.out; have := z8.out; have := z9.out; have := z10.out; have := z11.out; have := z12.out; have := z13.out; have := z15.out; have := z16.out; have := z17.out; have := z18.out; have := z19.out; have := z20.out; omega))
  have g1_20 := g1_19.only hf20 (Hi_g1.out.apart Hi_x0.out (by (try simp only [World.size_alloc]); (try simp only [World.size_drew]); have := z1.out; have := z2.out; have := z3.out; have := z4.out; have := z5.out; have := z6.out; have := z7.out; have := z8.out; have := z9.out; have := z10.out; have := z11.out; have := z12.out; have := z13.out; have := z15.out; have := z16.out; have := z17.out; have := z18.out; have := z19.out; have := z20.out; omega))
  have ba0_0_20 : V20.cell? ⟨w.heap.size, 0, none⟩ = some (.string x0_Appliance) := hf20.keeps ba0_0_19 (fun hm => by have := Hi_x0.out _ hm; (try dsimp only at this); (try simp only [World.size_alloc] at this); (try simp only [World.size_drew] at this); have := z1.out; have := z2.out; have := z3.out; have := z4.out; have := z5.out; have := z6.out; have := z7.out; have := z8.out; have := z9.out; have := z10.out; have := z11.out; have := z12.out; have := z13.out; have := z15.out; have := z16.out; have := z17.out; have := z18.out; have := z19.out; have := z20.out; omega)
  have ba0_1_20 : V20.cell? ⟨w.heap.size, 1, none⟩ = some (.slice A0 n0 c0) := hf20.keeps ba0_1_19 (fun hm => by have := Hi_x0.out _ hm; (try dsimp only at this); (try simp only [World.size_alloc] at this); (try simp only [World.size_drew] at this); have := z1.out; have := z2.out; have := z3.out; have := z4.out; have := z5.out; have := z6.out; have := z7.out; have := z8.out; have := z9.out; have := z10.out; have := z11.out; have := z12.out; have := z13.out; have := z15.out; have := z16.out; have := z17.out; have := z18.out; have := z19.out; have := z20.out; omega)
  have la0_20 : w.heap.size < V20.heap.size := World.block_lt_of_cell? _ _ ba0_0_20
  have bw0_0_20 : V20.cell? ⟨V7.heap.size, 0, none⟩ = some (.string (fillT (⟨x0_Appliance, x0_Things⟩ : Load) x1 x2).1.Appliance) := hf20.keeps bw0_0_19 (fun hm => by have := Hi_x0.out _ hm; (try dsimp only at this); (try simp only [World.size_alloc] at this); (try simp only [World.size_drew] at this); have := z1.out; have := z2.out; have := z3.out; have := z4.out; have := z5.out; have := z6.out; have := z7.out; have := z8.out; have := z9.out; have := z10.out; have := z11.out; have := z12.out; have := z13.out; have := z15.out; have := z16.out; have := z17.out; have := z18.out; have := z19.out; have := z20.out; omega)
  have bw0_1_20 : V20.cell? ⟨V7.heap.size, 1, none⟩ = some (.slice A_w0 (fillT (⟨x0_Appliance, x0_Things⟩ : Load) x1 x2).1.Things.length c_w0) := hf20.keeps bw0_1_19 (fun hm => by have := Hi_x0.out _ hm; (try dsimp only at this); (try simp only [World.size_alloc] at this); (try simp only [World.size_drew] at this); have := z1.out; have := z2.out; have := z3.out; have := z4.out; have := z5.out; have := z6.out; have := z7.out; have := z8.out; have := z9.out; have := z10.out; have := z11.out; have := z12.out; have := z13.out; have := z15.out; have := z16.out; have := z17.out; have := z18.out; have := z19.out; have := z20.out; omega)
  have lw0_20 : V7.heap.size < V20.heap.size := World.block_lt_of_cell? _ _ bw0_0_20
  have bx0_0_20 : V20.cell? ⟨V8.heap.size, 0, none⟩ = some (.string x0_Appliance) := hf20.keeps bx0_0_19 (fun hm => by have := Hi_x0.out _ hm; (try dsimp only at this); (try simp only [World.size_alloc] at this); (try simp only [World.size_drew] at this); have := z1.out; have := z2.out; have := z3.out; have := z4.out; have := z5.out; have := z6.out; have := z7.out; have := z8.out; have := z9.out; have := z10.out; have := z11.out; have := z12.out; have := z13.out; have := z15.out; have := z16.out; have := z17.out; have := z18.out; have := z19.out; have := z20.out; omega)
  have bx0_1_20 : V20.cell? ⟨V8.heap.size, 1, none⟩ = some (.slice A_x0 x0_Things.length c_x0) := hf20.keeps bx0_1_19 (fun hm => by have := Hi_x0.out _ hm; (try dsimp only at this); (try simp only [World.size_alloc] at this); (try simp only [World.size_drew] at this); have := z1.out; have := z2.out; have := z3.out; have := z4.out; have := z5.out; have := z6.out; have := z7.out; have := z8.out; have := z9.out; have := z10.out; have := z11.out; have := z12.out; have := z13.out; have := z15.out; have := z16.out; have := z17.out; have := z18.out; have := z19.out; have := z20.out; omega)
  have lx0_20 : V8.heap.size < V20.heap.size := World.block_lt_of_cell? _ _ bx0_0_20
  have bg0_0_20 : V20.cell? ⟨V11.heap.size, 0, none⟩ = some (.string (fillT (⟨x0_Appliance, x0_Things⟩ : Load) x1 x2).1.Appliance) := hf20.keeps bg0_0_19 (fun hm => by have := Hi_x0.out _ hm; (try dsimp only at this); (try simp only [World.size_alloc] at this); (try simp only [World.size_drew] at this); have := z1.out; have := z2.out; have := z3.out; have := z4.out; have := z5.out; have := z6.out; have := z7.out; have := z8.out; have := z9.out; have := z10.out; have := z11.out; have := z12.out; have := z13.out; have := z15.out; have := z16.out; have := z17.out; have := z18.out; have := z19.out; have := z20.out; omega)
  have bg0_1_20 : V20.cell? ⟨V11.heap.size, 1, none⟩ = some (.slice A_g0 (fillT (⟨x0_Appliance, x0_Things⟩ : Load) x1 x2).1.Things.length c_g0) := hf20.keeps bg0_1_19 (fun hm => by have := Hi_x0.out _ hm; (try dsimp only at this); (try simp only [World.size_alloc] at this); (try simp only [World.size_drew] at this); have := z1.out; have := z2.out; have := z3.out; have := z4.out; have := z5.out; have := z6.out; have := z7.out; have := z8.out; have := z9.out; have := z10.out; have := z11.out; have := z12.out; have := z13.out; have := z15.out; have := z16.out; have := z17.out; have := z18.out; have := z19.out; have := z20.out; omega)
  have lg0_20 : V11.heap.size < V20.heap.size := World.block_lt_of_cell? _ _ bg0_0_20
  clear hk19 x0_19 w0_19 w1_19 x1_19 x2_19 g0_19 g1_19 ba0_0_19 ba0_1_19 la0_19 bw0_0_19 bw0_1_19 lw0_19 bx0_0_19 bx0_1_19 lx0_19 bg0_0_19 bg0_1_19 lg0_19 hg20 hf20
  go_wp2_with fail
  refine (markThingS_any _ _ _ _ _ _ _ (by omega) (by omega) (by omega) x1_20).mono ?_
  rintro e V21 ⟨rfl, hm21, hg21⟩
  have hf21 := OnlyF.of_gb hg21
  have hk21 := below_only hk20 hf21 Hi_x1.out (by (try simp only [World.size_alloc]); (try simp only [World.size_drew]); have := z1.out; have := z2.out; have := z3.out; have := z4.out; have := z5.out; have := z6.out; have := z7.out; have := z8.out; have := z9.out; have := z10.out; have := z11.out; have := z12.out; have := z13.out; have := z15.out; have := z16.out; have := z17.out; have := z18.out; have := z19.out; have := z20.out; omega)
  have z21 := Lib.hid hf21.size
  have w0_21 := w0_20.only hf21 (Hi_w0.out.apart Hi_x1.out (by (try simp only [World.size_alloc]); (try simp only [World.size_drew]); have := z1.out; have := z2.out; have := z3.out; have := z4.out; have := z5.out; have := z6.out; have := z7.out; have := z8.out; have := z9.out; have := z10.out; have := z11.out; have := z12.out; have := z13.out; have := z15.out; have := z16.out; have := z17.out; have := z18.out; have := z19.out; have := z20.out; have := z21.out; omega))
  have w1_21 := w1_20.only hf21 (Hi_w1.out.apart Hi_x1.out (by (try simp only [World.size_alloc]); (try simp only [World.size_drew]); have := z1.out; have := z2.out; have := z3.out; have := z4.out; have := z5.out; have := z6.out; have := z7.out; have := z8.out; have := z9.out; have := z10.out; have := z11.out; have := z12.out; have := z13.out; have := z15.out; have := z16.out; have := z17.out; have := z18.out; have := z19.out; have := z20.out; have := z21.out; omega))
  have x0_21 := hm20.only hf21 (Hi_x0.out.apart Hi_x1.out (by (try simp only [World.size_alloc]); (try simp only [World.size_drew]); have := z1.out; have := z2.out; have := z3.out; have := z4.out; have := z5.out; have := z6.out; have := z7.out; have := z8.out; have := z9.out; have := z10.out; have := z11.out; have := z12.out; have := z13.out; have := z15.out; have := z16.out; have := z17.out; have := z18.out; have := z19.out; have := z20.out; have := z21.out; omega))
  have x2_21 := x2_20.only hf21 (Hi_x2.out.apart Hi_x1.out (by (try simp only [World.size_alloc]); (try simp only [World.size_drew]); have := z1.out; have := z2.out; have := z3.out; have := z4.out; have := z5.out; have := z6.out; have := z7.out; have := z8.out; have := z9.out; have := z10.out; have := z11.out; have := z12.out; have := z13.out; have := z15.out; have := z16.out; have := z17.out; have := z18.out; have := z19.out; have := z20.out; have := z21.out; omega))
  have g0_21 := g0_20.only hf21 (Hi_g0.out.apart Hi_x1.out (by (try simp only [World.size_alloc]); (try simp only [World.size_drew]); have := z1.out; have := z2.out; have := z3.out; have := z4.out; have := z5.out; have := z6.out; have := z7.out; have := z8.out; have := z9.out; have := z10.out; have := z11.out; have := z12.out; have := z13.out; have := z15.out; have := z16.out; have := z17.out; have := z18.out; have := z19.out; have := z20.out; have := z21.out; omega))
  have g1_21 := g1_20.only hf21 (Hi_g1.out.apart Hi_x1.out (by (try simp only [World.size_alloc]); (try simp only [World.size_drew]); have := z1.out; have := z2.out; have := z3.out; have := z4.out; have := z5.out; have := z6.out; have := z7.out; have := z8.out; have := z9.out; have := z10.out; have := z11.out; have := z12.out; have := z13.out; have := z15.out; have := z16.out; have := z17.out; have := z18.out; have := z19.out; have := z20.out; have := z21.out; omega))
  have ba0_0_21 : V21.cell? ⟨w.heap.size, 0, none⟩ = some (.string x0_Appliance) := hf21.keeps ba0_0_20 (fun hm => by have := Hi_x1.out _ hm; (try dsimp only at this); (try simp only [World.size_alloc] at this); (try simp only [World.size_drew] at this); have := z1.out; have := z2.out; have := z3.out; have := z4.out; have := z5.out; have := z6.out; have := z7.out; have := z8.out; have := z9.out; have := z10.out; have := z11.out; have := z12.out; have := z13.out; have := z15.out; have := z16.out; have := z17.out; have := z18.out; have := z19.out; have := z20.out; have := z21.out; omega)
  have ba0_1_21 : V21.cell? ⟨w.heap.size, 1, none⟩ = some (.slice A0 n0 c0) := hf21.keeps ba0_1_20 (fun hm => by have := Hi_x1.out _ hm; (try dsimp only at this); (try simp only [World.size_alloc] at this); (try simp only [World.size_drew] at this); have := z1.out; have := z2.out; have := z3.out; have := z4.out; have := z5.out; have := z6.out; have := z7.out; have := z8.out; have := z9.out; have := z10.out; have := z11.out; have := z12.out; have := z13.out; have := z15.out; have := z16.out; have := z17.out; have := z18.out; have := z19.out; have := z20.out; have := z21.out; omega)
  have la0_21 : w.heap.size < V21.heap.size := World.block_lt_of_cell? _ _ ba0_0_21
  have bw0_0_21 : V21.cell? ⟨V7.heap.size, 0, none⟩ = some (.string (fillT (⟨x0_Appliance, x0_Things⟩ : Load) x1 x2).1.Appliance) := hf21.keeps bw0_0_20 (fun hm => by have := Hi_x1.out _ hm; (try dsimp only at this); (try simp only [World.size_alloc] at this); (try simp only [World.size_drew] at this); have := z1.out; have := z2.out; have := z3.out; have := z4.out; have := z5.out; have := z6.out; have := z7.out; have := z8.out; have := z9.out; have := z10.out; have := z11.out; have := z12.out; have := z13.out; have := z15.out; have := z16.out; have := z17.out; have := z18.out; have := z19.out; have := z20.out; have := z21.out; omega)
  have bw0_1_21 : V21.cell? ⟨V7.heap.size, 1, none⟩ = some (.slice A_w0 (fillT (⟨x0_Appliance, x0_Things⟩ : Load) x1 x2).1.Things.length c_w0) := hf21.keeps bw0_1_20 (fun hm => by have := Hi_x1.out _ hm; (try dsimp only at this); (try simp only [World.size_alloc] at this); (try simp only [World.size_drew] at this); have := z1.out; have := z2.out; have := z3.out; have := z4.out; have := z5.out; have := z6.out; have := z7.out; have := z8.out; have := z9.out; have := z10.out; have := z11.out; have := z12.out; have := z13.out; have := z15.out; have := z16.out; have := z17.out; have := z18.out; have := z19.out; have := z20.out; have := z21.out; omega)
  have lw0_21 : V7.heap.size < V21.heap.size := World.block_lt_of_cell? _ _ bw0_0_21
  have bx0_0_21 : V21.cell? ⟨V8.heap.size, 0, none⟩ = some (.string x0_Appliance) := hf21.keeps bx0_0_20 (fun hm => by have := Hi_x1.out _ hm; (try dsimp only at this); (try simp only [World.size_alloc] at this); (try simp only [World.size_drew] at this); have := z1.out; have := z2.out; have := z3.out; have := z4.out; have := z5.out; have := z6.out; have := z7.out; have := z8.out; have := z9.out; have := z10.out; have := z11.out; have := z12.out; have := z13.out; have := z15.out; have := z16.out; have := z17.out; have := z18.out; have := z19.out; have := z20.out; have := z21.out; omega)
  have bx0_1_21 : V21.cell? ⟨V8.heap.size, 1, none⟩ = some (.slice A_x0 x0_Things.length c_x0) := hf21.keeps bx0_1_20 (fun hm => by have := Hi_x1.out _ hm; (try dsimp only at this); (try simp only [World.size_alloc] at this); (try simp only [World.size_drew] at this); have := z1.out; have := z2.out; have := z3.out; have := z4.out; have := z5.out; have := z6.out; have := z7.out; have := z8.out; have := z9.out; have := z10.out; have := z11.out; have := z12.out; have := z13.out; have := z15.out; have := z16.out; have := z17.out; have := z18.out; have := z19.out; have := z20.out; have := z21.out; omega)
  have lx0_21 : V8.heap.size < V21.heap.size := World.block_lt_of_cell? _ _ bx0_0_21
  have bg0_0_21 : V21.cell? ⟨V11.heap.size, 0, none⟩ = some (.string (fillT (⟨x0_Appliance, x0_Things⟩ : Load) x1 x2).1.Appliance) := hf21.keeps bg0_0_20 (fun hm => by have := Hi_x1.out _ hm; (try dsimp only at this); (try simp only [World.size_alloc] at this); (try simp only [World.size_drew] at this); have := z1.out; have := z2.out; have := z3.out; have := z4.out; have := z5.out; have := z6.out; have := z7.out; have := z8.out; have := z9.out; have := z10.out; have := z11.out; have := z12.out; have := z13.out; have := z15.out; have := z16.out; have := z17.out; have := z18.out; have := z19.out; have := z20.out; have := z21.out; omega)
  have bg0_1_21 : V21.cell? ⟨V11.heap.size, 1, none⟩ = some (.slice A_g0 (fillT (⟨x0_Appliance, x0_Things⟩ : Load) x1 x2).1.Things.length c_g0) := hf21.keeps bg0_1_20 (fun hm => by have := Hi_x1.out _ hm; (try dsimp only at this); (try simp only [World.size_alloc] at this); (try simp only [World.size_drew] at this); have := z1.out; have := z2.out; have := z3.out; have := z4.out; have := z5.out; have := z6.out; have := z7.out; have := z8.out; have := z9.out; have := z10.out; have := z11.out; have := z12.out; have := z13.out; have := z15.out; have := z16.out; have := z17.out; have := z18.out; have := z19.out; have := z20.out; have := z21.out; omega)
  have lg0_21 : V11.heap.size < V21.heap.size := World.block_lt_of_cell? _ _ bg0_0_21
  clear hk20 x1_20 w0_20 w1_20 hm20 x2_20 g0_20 g1_20 ba0_0_20 ba0_1_20 la0_20 bw0_0_20 bw0_1_20 lw0_20 bx0_0_20 bx0_1_20 lx0_20 bg0_0_20 bg0_1_20 lg0_20 hg21 hf21
  go_wp2_with fail
  refine (markLoadS_args _ _ _ _ _ x2 _ _ (by omega) (by have := hs0.1; have := hs1.1; have := hs2.1; omega) (by have := hs2.1; omega) x2_21).mono ?_
  rintro e V22 ⟨rk22, rfl, hr0_22, hr1_22, hf22⟩
  have hrd_22 : decide (rk22 < 0) = false := by simpa using hr0_22
  have hk22 := below_only hk21 hf22 Hi_x2.out (by (try simp only [World.size_alloc]); (try simp only [World.size_drew]); have := z1.out; have := z2.out; have := z3.out; have := z4.out; have := z5.out; have := z6.out; have := z7.out; have := z8.out; have := z9.out; have := z10.out; have := z11.out; have := z12.out; have := z13.out; have := z15.out; have := z16.out; have := z17.out; have := z18.out; have := z19.out; have := z20.out; have := z21.out; omega)
  have z22 := Lib.hid hf22.size
  have w0_22 := w0_21.only hf22 (Hi_w0.out.apart Hi_x2.out (by (try simp only [World.size_alloc]); (try simp only [World.size_drew]); have := z1.out; have := z2.out; have := z3.out; have := z4.out; have := z5.out; have := z6.out; have := z7.out; have := z8.out; have := z9.out; have := z10.out; have := z11.out; have := z12.out; have := z13.out; have := z15.out; have := z16.out; have := z17.out; have := z18.out; have := z19.out; have := z20.out; have := z21.out; have := z22.out; omega))
  have w1_22 := w1_21.only hf22 (Hi_w1.out.apart Hi_x2.out (by (try simp only [World.size_alloc]); (try simp only [World.size_drew]); have := z1.out; have := z2.out; have := z3.out; have := z4.out; have := z5.out; have := z6.out; have := z7.out; have := z8.out; have := z9.out; have := z10.out; have := z11.out; have := z12.out; have := z13.out; have := z15.out; have := z16.out; have := z17.out; have := z18.out; have := z19.out; have := z20.out; have := z21.out; have := z22.out; omega))
  have x0_22 := x0_21.only hf22 (Hi_x0.out.apart Hi_x2.out (by (try simp only [World.size_alloc]); (try simp only [World.size_drew]); have := z1.out; have := z2.out; have := z3.out; have := z4.out; have := z5.out; have := z6.out; have := z7.out; have := z8.out; have := z9.out; have := z10.out; have := z11.out; have := z12.out; have := z13.out; have := z15.out; have := z16.out; have := z17.out; have := z18.out; have := z19.out; have := z20.out; have := z21.out; have := z22.out; omega))
  have x1_22 := hm21.only hf22 (Hi_x1.out.apart Hi_x2.out (by (try simp only [World.size_alloc]); (try simp only [World.size_drew]); have := z1.out; have := z2.out; have := z3.out; have := z4.out; have := z5.out; have := z6.out; have := z7.out; have := z8.out; have := z9.out; have := z10.out; have := z11.out; have := z12.out; have := z13.out; have := z15.out; have := z16.out; have := z17.out; have := z18.out; have := z19.out; have := z20.out; have := z21.out; have := z22.out; omega))
  have g0_22 := g0_21.only hf22 (Hi_g0.out.apart Hi_x2.out (by (try simp only [World.size_alloc]); (try simp only [World.size_drew]); have := z1.out; have := z2.out; have := z3.out; have := z4.out; have := z5.out; have := z6.out; have := z7.out; have := z8.out; have := z9.out; have := z10.out; have := z11.out; have := z12.out; have := z13.out; have := z15.out; have := z16.out; have := z17.out; have := z18.out; have := z19.out; have := z20.out; have := z21.out; have := z22.out; omega))
  have g1_22 := g1_21.only hf22 (Hi_g1.out.apart Hi_x2.out (by (try simp only [World.size_alloc]); (try simp only [World.size_drew]); have := z1.out; have := z2.out; have := z3.out; have := z4.out; have := z5.out; have := z6.out; have := z7.out; have := z8.out; have := z9.out; have := z10.out; have := z11.out; have := z12.out; have := z13.out; have := z15.out; have := z16.out; have := z17.out; have := z18.out; have := z19.out; have := z20.out; have := z21.out; have := z22.out; omega))
  have ba0_0_22 : V22.cell? ⟨w.heap.size, 0, none⟩ = some (.string x0_Appliance) := hf22.keeps ba0_0_21 (fun hm => by have := Hi_x2.out _ hm; (try dsimp only at this); (try simp only [World.size_alloc] at this); (try simp only [World.size_drew] at this); have := z1.out; have := z2.out; have := z3.out; have := z4.out; have := z5.out; have := z6.out; have := z7.out; have := z8.out; have := z9.out; have := z10.out; have := z11.out; have := z12.out; have := z13.out; have := z15.out; have := z16.out; have := z17.out; have := z18.out; have := z19.out; have := z20.out; have := z21.out; have := z22.out; omega)
  have ba0_1_22 : V22.cell? ⟨w.heap.size, 1, none⟩ = some (.slice A0 n0 c0) := hf22.keeps ba0_1_21 (fun hm => by have := Hi_x2.out _ hm; (try dsimp only at this); (try simp only [World.size_alloc] at this); (try simp only [World.size_drew] at this); have := z1.out; have := z2.out; have := z3.out; have := z4.out; have := z5.out; have := z6.out; have := z7.out; have := z8.out; have := z9.out; have := z10.out; have := z11.out; have := z12.out; have := z13.out; have := z15.out; have := z16.out; have := z17.out; have := z18.out; have := z19.out; have := z20.out; have := z21.out; have := z22.out; omega)
  have la0_22 : w.heap.size < V22.heap.size := World.block_lt_of_cell? _ _ ba0_0_22
  have bw0_0_22 : V22.cell? ⟨V7.heap.size, 0, none⟩ = some (.string (fillT (⟨x0_Appliance, x0_Things⟩ : Load) x1 x2).1.Appliance) := hf22.keeps bw0_0_21 (fun hm => by have := Hi_x2.out _ hm; (try dsimp only at this); (try simp only [World.size_alloc] at this); (try simp only [World.size_drew] at this); have := z1.out; have := z2.out; have := z3.out; have := z4.out; have := z5.out; have := z6.out; have := z7.out; have := z8.out; have := z9.out; have := z10.out; have := z11.out; have := z12.out; have := z13.out; have := z15.out; have := z16.out; have := z17.out; have := z18.out; have := z19.out; have := z20.out; have := z21.out; have := z22.out; omega)
  have bw0_1_22 : V22.cell? ⟨V7.heap.size, 1, none⟩ = some (.slice A_w0 (fillT (⟨x0_Appliance, x0_Things⟩ : Load) x1 x2).1.Things.length c_w0) := hf22.keeps bw0_1_21 (fun hm => by have := Hi_x2.out _ hm; (try dsimp only at this); (try simp only [World.size_alloc] at this); (try simp only [World.size_drew] at this); have := z1.out; have := z2.out; have := z3.out; have := z4.out; have := z5.out; have := z6.out; have := z7.out; have := z8.out; have := z9.out; have := z10.out; have := z11.out; have := z12.out; have := z13.out; have := z15.out; have := z16.out; have := z17.out; have := z18.out; have := z19.out; have := z20.out; have := z21.out; have := z22.out; omega)
  have lw0_22 : V7.heap.size < V22.heap.size := World.block_lt_of_cell? _ _ bw0_0_22
  have bx0_0_22 : V22.cell? ⟨V8.heap.size, 0, none⟩ = some (.string x0_Appliance) := hf22.keeps bx0_0_21 (fun hm => by have := Hi_x2.out _ hm; (try dsimp only at this); (try simp only [World.size_alloc] at this); (try simp only [World.size_drew] at this); have := z1.out; have := z2.out; have := z3.out; have := z4.out; have := z5.out; have := z6.out; have := z7.out; have := z8.out; have := z9.out; have := z10.out; have := z11.out; have := z12.out; have := z13.out; have := z15.out; have := z16.out; have := z17.out; have := z18.out; have := z19.out; have := z20.out; have := z21.out; have := z22.out; omega)
  have bx0_1_22 : V22.cell? ⟨V8.heap.size, 1, none⟩ = some (.slice A_x0 x0_Things.length c_x0) := hf22.keeps bx0_1_21 (fun hm => by have := Hi_x2.out _ hm; (try dsimp only at this); (try simp only [World.size_alloc] at this); (try simp only [World.size_drew] at this); have := z1.out; have := z2.out; have := z3.out; have := z4.out; have := z5.out; have := z6.out; have := z7.out; have := z8.out; have := z9.out; have := z10.out; have := z11.out; have := z12.out; have := z13.out; have := z15.out; have := z16.out; have := z17.out; have := z18.out; have := z19.out; have := z20.out; have := z21.out; have := z22.out; omega)
  have lx0_22 : V8.heap.size < V22.heap.size := World.block_lt_of_cell? _ _ bx0_0_22
  have bg0_0_22 : V22.cell? ⟨V11.heap.size, 0, none⟩ = some (.string (fillT (⟨x0_Appliance, x0_Things⟩ : Load) x1 x2).1.Appliance) := hf22.keeps bg0_0_21 (fun hm => by have := Hi_x2.out _ hm; (try dsimp only at this); (try simp only [World.size_alloc] at this); (try simp only [World.size_drew] at this); have := z1.out; have := z2.out; have := z3.out; have := z4.out; have := z5.out; have := z6.out; have := z7.out; have := z8.out; have := z9.out; have := z10.out; have := z11.out; have := z12.out; have := z13.out; have := z15.out; have := z16.out; have := z17.out; have := z18.out; have := z19.out; have := z20.out; have := z21.out; have := z22.out; omega)
  have bg0_1_22 : V22.cell? ⟨V11.heap.size, 1, none⟩ = some (.slice A_g0 (fillT (⟨x0_Appliance, x0_Things⟩ : Load) x1 x2).1.Things.length c_g0) := hf22.keeps bg0_1_21 (fun hm => by have := Hi_x2.out _ hm; (try dsimp only at this); (try simp only [World.size_alloc] at this); (try simp only [World.size_drew] at this); have := z1.out; have := z2.out; have := z3.out; have := z4.out; have := z5.out; have := z6.out; have := z7.out; have := z8.out; have := z9.out; have := z10.out; have := z11.out; have := z12.out; have := z13.out; have := z15.out; have := z16.out; have := z17.out; have := z18.out; have := z19.out; have := z20.out; have := z21.out; have := z22.out; omega)
  have lg0_22 : V11.heap.size < V22.heap.size := World.block_lt_of_cell? _ _ bg0_0_22
  clear hk21 x2_21 w0_21 w1_21 x0_21 hm21 g0_21 g1_21 ba0_0_21 ba0_1_21 la0_21 bw0_0_21 bw0_1_21 lw0_21 bx0_0_21 bx0_1_21 lx0_21 bg0_0_21 bg0_1_21 lg0_21 hf22
  clear x0_22 Hi_x0 bx0_0_22 bx0_1_22 lx0_22
  clear x1_22 Hi_x1
  clear Hi_x2
  go_wp2_with fail
  refine (eqLoad_any _ _ _ _ _ _ _ _ _ _ _ (by omega) g0_22.sl w0_22.sl).mono ?_
  rintro e V23 ⟨rfl, hb23⟩
  rw [sameB_refl]
  have hB23 := bl_trans (a := V22) (bl_refl _) hb23
  have hk23 := bl_trans hk22 hB23
  have z23 := Lib.hid hB23.size
  have w0_23 := w0_22.below hB23
  have w1_23 := w1_22.below hB23
  have g0_23 := g0_22.below hB23
  have g1_23 := g1_22.below hB23
  have ba0_0_23 : V23.cell? ⟨w.heap.size, 0, none⟩ = some (.string x0_Appliance) := cell_later hB23 ba0_0_22
  have ba0_1_23 : V23.cell? ⟨w.heap.size, 1, none⟩ = some (.slice A0 n0 c0) := cell_later hB23 ba0_1_22
  have la0_23 : w.heap.size < V23.heap.size := World.block_lt_of_cell? _ _ ba0_0_23
  have bw0_0_23 : V23.cell? ⟨V7.heap.size, 0, none⟩ = some (.string (fillT (⟨x0_Appliance, x0_Things⟩ : Load) x1 x2).1.Appliance) := cell_later hB23 bw0_0_22
  have bw0_1_23 : V23.cell? ⟨V7.heap.size, 1, none⟩ = some (.slice A_w0 (fillT (⟨x0_Appliance, x0_Things⟩ : Load) x1 x2).1.Things.length c_w0) := cell_later hB23 bw0_1_22
  have lw0_23 : V7.heap.size < V23.heap.size := World.block_lt_of_cell? _ _ bw0_0_23
  have bg0_0_23 : V23.cell? ⟨V11.heap.size, 0, none⟩ = some (.string (fillT (⟨x0_Appliance, x0_Things⟩ : Load) x1 x2).1.Appliance) := cell_later hB23 bg0_0_22
  have bg0_1_23 : V23.cell? ⟨V11.heap.size, 1, none⟩ = some (.slice A_g0 (fillT (⟨x0_Appliance, x0_Things⟩ : Load) x1 x2).1.Things.length c_g0) := cell_later hB23 bg0_1_22
  have lg0_23 : V11.heap.size < V23.heap.size := World.block_lt_of_cell? _ _ bg0_0_23
  clear hk22 w0_22 w1_22 g0_22 g1_22 ba0_0_22 ba0_1_22 la0_22 bw0_0_22 bw0_1_22 lw0_22 bg0_0_22 bg0_1_22 lg0_22
  clear hb23
  go_wp2_with fail
  refine (eqLoadS_any _ _ _ _ _ _ _ _ _ (by omega) g1_23.sl w1_23.sl).mono ?_
  rintro e V24 ⟨rfl, hb24⟩
  rw [sameB_refl]
  have hB24 := bl_trans (a := V23) (bl_refl _) hb24
  have hk24 := bl_trans hk23 hB24
  have z24 := Lib.hid hB24.size
  have w0_24 := w0_23.below hB24
  have w1_24 := w1_23.below hB24
  have g0_24 := g0_23.below hB24
  have g1_24 := g1_23.below hB24
  have ba0_0_24 : V24.cell? ⟨w.heap.size, 0, none⟩ = some (.string x0_Appliance) := cell_later hB24 ba0_0_23
  have ba0_1_24 : V24.cell? ⟨w.heap.size, 1, none⟩ = some (.slice A0 n0 c0) := cell_later hB24 ba0_1_23
  have la0_24 : w.heap.size < V24.heap.size := World.block_lt_of_cell? _ _ ba0_0_24
  have bw0_0_24 : V24.cell? ⟨V7.heap.size, 0, none⟩ = some (.string (fillT (⟨x0_Appliance, x0_Things⟩ : Load) x1 x2).1.Appliance) := cell_later hB24 bw0_0_23
  have bw0_1_24 : V24.cell? ⟨V7.heap.size, 1, none⟩ = some (.slice A_w0 (fillT (⟨x0_Appliance, x0_Things⟩ : Load) x1 x2).1.Things.length c_w0) := cell_later hB24 bw0_1_23
  have lw0_24 : V7.heap.size < V24.heap.size := World.block_lt_of_cell? _ _ bw0_0_24
  have bg0_0_24 : V24.cell? ⟨V11.heap.size, 0, none⟩ = some (.string (fillT (⟨x0_Appliance, x0_Things⟩ : Load) x1 x2).1.Appliance) := cell_later hB24 bg0_0_23
  have bg0_1_24 : V24.cell? ⟨V11.heap.size, 1, none⟩ = some (.slice A_g0 (fillT (⟨x0_Appliance, x0_Things⟩ : Load) x1 x2).1.Things.length c_g0) := cell_later hB24 bg0_1_23
  have lg0_24 : V11.heap.size < V24.heap.size := World.block_lt_of_cell? _ _ bg0_0_24
  clear hk23 w0_23 w1_23 g0_23 g1_23 ba0_0_23 ba0_1_23 la0_23 bw0_0_23 bw0_1_23 lw0_23 bg0_0_23 bg0_1_23 lg0_23
  clear hb24
  go_wp2_with fail
  refine (markLoad_any _ _ _ _ _ _ _ _ (by omega) (by omega) (by omega) g0_24).mono ?_
  rintro e V25 ⟨rfl, hm25, hg25⟩
  have hf25 := OnlyF.of_gb hg25
  have hk25 := below_only hk24 hf25 Hi_g0.out (by (try simp only [World.size_alloc]); (try simp only [World.size_drew]); have := z1.out; have := z2.out; have := z3.out; have := z4.out; have := z5.out; have := z6.out; have := z7.out; have := z8.out; have := z9.out; have := z10.out; have := z11.out; have := z12.out; have := z13.out; have := z15.out; have := z16.out; have := z17.out; have := z18.out; have := z19.out; have := z20.out; have := z21.out; have := z22.out; have := z23.out; have := z24.out; omega)
  have z25 := Lib.hid hf25.size
  have w0_25 := w0_24.only hf25 (Hi_w0.out.apart Hi_g0.out (by (try simp only [World.size_alloc]); (try simp only [World.size_drew]); have := z1.out; have := z2.out; have := z3.out; have := z4.out; have := z5.out; have := z6.out; have := z7.out; have := z8.out; have := z9.out; have := z10.out; have := z11.out; have := z12.out; have := z13.out; have := z15.out; have := z16.out; have := z17.out; have := z18.out; have := z19.out; have := z20.out; have := z21.out; have := z22.out; have := z23.out; have := z24.out; have := z25.out; omega))
  have w1_25 := w1_24.only hf25 (Hi_w1.out.apart Hi_g0.out (by (try simp only [World.size_alloc]); (try simp only [World.size_drew]); have := z1.out; have := z2.out; have := z3.out; have := z4.out; have := z5.out; have := z6.out; have := z7.out; have := z8.out; have := z9.out; have := z10.out; have := z11.out; have := z12.out; have := z13.out; have := z15.out; have := z16.out; have := z17.out; have := z18.out; have := z19.out; have := z20.out; have := z21.out; have := z22.out; have := z23.out; have := z24.out; have := z25.out; omega))
  have g1_25 := g1_24.only hf25 (apN1 hap_g.out)
  have ba0_0_25 : V25.cell? ⟨w.heap.size, 0, none⟩ = some (.string x0_Appliance) := hf25.keeps ba0_0_24 (fun hm => by have := Hi_g0.out _ hm; (try dsimp only at this); (try simp only [World.size_alloc] at this); (try simp only [World.size_drew] at this); have := z1.out; have := z2.out; have := z3.out; have := z4.out; have := z5.out; have := z6.out; have := z7.out; have := z8.out; have := z9.out; have := z10.out; have := z11.out; have := z12.out; have := z13.out; have := z15.out; have := z16.out; have := z17.out; have := z18.out; have := z19.out; have := z20.out; have := z21.out; have := z22.out; have := z23.out; have := z24.out; have := z25.out; omega)
  have ba0_1_25 : V25.cell? ⟨w.heap.size, 1, none⟩ = some (.slice A0 n0 c0) := hf25.keeps ba0_1_24 (fun hm => by have := Hi_g0.out _ hm; (try dsimp only at this); (try simp only [World.size_alloc] at this); (try simp only [World.size_drew] at this); have := z1.out; have := z2.out; have := z3.out; have := z4.out; have := z5.out; have := z6.out; have := z7.out; have := z8.out; have := z9.out; have := z10.out; have := z11.out; have := z12.out; have := z13.out; have := z15.out; have := z16.out; have := z17.out; have := z18.out; have := z19.out; have := z20.out; have := z21.out; have := z22.out; have := z23.out; have := z24.out; have := z25.out; omega)
  have la0_25 : w.heap.size < V25.heap.size := World.block_lt_of_cell? _ _ ba0_0_25
  have bw0_0_25 : V25.cell? ⟨V7.heap.size, 0, none⟩ = some (.string (fillT (⟨x0_Appliance, x0_Things⟩ : Load) x1 x2).1.Appliance) := hf25.keeps bw0_0_24 (fun hm => by have := Hi_g0.out _ hm; (try dsimp only at this); (try simp only [World.size_alloc] at this); (try simp only [World.size_drew] at this); have := z1.out; have := z2.out; have := z3.out; have := z4.out; have := z5.out; have := z6.out; have := z7.out; have := z8.out; have := z9.out; have := z10.out; have := z11.out; have := z12.out; have := z13.out; have := z15.out; have := z16.out; have := z17.out; have := z18.out; have := z19.out; have := z20.out; have := z21.out; have := z22.out; have := z23.out; have := z24.out; have := z25.out; omega)
  have bw0_1_25 : V25.cell? ⟨V7.heap.size, 1, none⟩ = some (.slice A_w0 (fillT (⟨x0_Appliance, x0_Things⟩ : Load) x1 x2).1.Things.length c_w0) := hf25.keeps bw0_1_24 (fun hm => by have := Hi_g0.out _ hm; (try dsimp only at this); (try simp only [World.size_alloc] at this); (try simp only [World.size_drew] at this); have := z1.out; have := z2.out; have := z3.out; have := z4.out; have := z5.out; have := z6.out; have := z7.out; have := z8.out; have := z9.out; have := z10.out; have := z11.out; have := z12.out; have := z13.out; have := z15.out; have := z16.out; have := z17.out; have := z18.out; have := z19.out; have := z20.out; have := z21.out; have := z22.out; have := z23.out; have := z24.out; have := z25.out; omega)
  have lw0_25 : V7.heap.size < V25.heap.size := World.block_lt_of_cell? _ _ bw0_0_25
  have bg0_0_25 : V25.cell? ⟨V11.heap.size, 0, none⟩ = some (.string (fillT (⟨x0_Appliance, x0_Things⟩ : Load) x1 x2).1.Appliance) := hf25.keeps bg0_0_24 (fun hm => by have := Hi_g0.out _ hm; (try dsimp only at this); (try simp only [World.size_alloc] at this); (try simp only [World.size_drew] at this); have := z1.out; have := z2.out; have := z3.out; have := z4.out; have := z5.out; have := z6.out; have := z7.out; have := z8.out; have := z9.out; have := z10.out; have := z11.out; have := z12.out; have := z13.out; have := z15.out; have := z16.out; have := z17.out; have := z18.out; have := z19.out; have := z20.out; have := z21.out; have := z22.out; have := z23.out; have := z24.out; have := z25.out; omega)
  have bg0_1_25 : V25.cell? ⟨V11.heap.size, 1, none⟩ = some (.slice A_g0 (fillT (⟨x0_Appliance, x0_Things⟩ : Load) x1 x2).1.Things.length c_g0) := hf25.keeps bg0_1_24 (fun hm => by have := Hi_g0.out _ hm; (try dsimp only at this); (try simp only [World.size_alloc] at this); (try simp only [World.size_drew] at this); have := z1.out; have := z2.out; have := z3.out; have := z4.out; have := z5.out; have := z6.out; have := z7.out; have := z8.out; have := z9.out; have := z10.out; have := z11.out; have := z12.out; have := z13.out; have := z15.out; have := z16.out; have := z17.out; have := z18.out; have := z19.out; have := z20.out; have := z21.out; have := z22.out; have := z23.out; have := z24.out; have := z25.out; omega)
  have lg0_25 : V11.heap.size < V25.heap.size := World.block_lt_of_cell? _ _ bg0_0_25
  clear hk24 g0_24 w0_24 w1_24 g1_24 ba0_0_24 ba0_1_24 la0_24 bw0_0_24 bw0_1_24 lw0_24 bg0_0_24 bg0_1_24 lg0_24 hg25 hf25
  go_wp2_with fail
  refine (markLoadS_any _ _ _ _ _ (fillT (⟨x0_Appliance, x0_Things⟩ : Load) x1 x2).2.1 _ _ (by omega) (by omega) hRS1 g1_25).mono ?_
  rintro e V26 ⟨rfl, hm26, hf26⟩
  have hk26 := below_only hk25 hf26 Hi_g1.out (by (try simp only [World.size_alloc]); (try simp only [World.size_drew]); have := z1.out; have := z2.out; have := z3.out; have := z4.out; have := z5.out; have := z6.out; have := z7.out; have := z8.out; have := z9.out; have := z10.out; have := z11.out; have := z12.out; have := z13.out; have := z15.out; have := z16.out; have := z17.out; have := z18.out; have := z19.out; have := z20.out; have := z21.out; have := z22.out; have := z23.out; have := z24.out; have := z25.out; omega)
  have z26 := Lib.hid hf26.size
  have w0_26 := w0_25.only hf26 (Hi_w0.out.apart Hi_g1.out (by (try simp only [World.size_alloc]); (try simp only [World.size_drew]); have := z1.out; have := z2.out; have := z3.out; have := z4.out; have := z5.out; have := z6.out; have := z7.out; have := z8.out; have := z9.out; have := z10.out; have := z11.out; have := z12.out; have := z13.out; have := z15.out; have := z16.out; have := z17.out; have := z18.out; have := z19.out; have := z20.out; have := z21.out; have := z22.out; have := z23.out; have := z24.out; have := z25.out; have := z26.out; omega))
  have w1_26 := w1_25.only hf26 (Hi_w1.out.apart Hi_g1.out (by (try simp only [World.size_alloc]); (try simp only [World.size_drew]); have := z1.out; have := z2.out; have := z3.out; have := z4.out; have := z5.out; have := z6.out; have := z7.out; have := z8.out; have := z9.out; have := z10.out; have := z11.out; have := z12.out; have := z13.out; have := z15.out; have := z16.out; have := z17.out; have := z18.out; have := z19.out; have := z20.out; have := z21.out; have := z22.out; have := z23.out; have := z24.out; have := z25.out; have := z26.out; omega))
  have g0_26 := hm25.only hf26 (apN2 hap_g.out)
  have ba0_0_26 : V26.cell? ⟨w.heap.size, 0, none⟩ = some (.string x0_Appliance) := hf26.keeps ba0_0_25 (fun hm => by have := Hi_g1.out _ hm; (try dsimp only at this); (try simp only [World.size_alloc] at this); (try simp only [World.size_drew] at this); have := z1.out; have := z2.out; have := z3.out; have := z4.out; have := z5.out; have := z6.out; have := z7.out; have := z8.out; have := z9.out; have := z10.out; have := z11.out; have := z12.out; have := z13.out; have := z15.out; have := z16.out; have := z17.out; have := z18.out; have := z19.out; have := z20.out; have := z21.out; have := z22.out; have := z23.out; have := z24.out; have := z25.out; have := z26.out; omega)
  have ba0_1_26 : V26.cell? ⟨w.heap.size, 1, none⟩ = some (.slice A0 n0 c0) := hf26.keeps ba0_1_25 (fun hm => by have := Hi_g1.out _ hm; (try dsimp only at this); (try simp only [World.size_alloc] at this); (try simp only [World.size_drew] at this); have := z1.out; have := z2.out; have := z3.out; have := z4.out; have := z5.out; have := z6.out; have := z7.out; have := z8.out; have := z9.out; have := z10.out; have := z11.out; have := z12.out; have := z13.out; have := z15.out; have := z16.out; have := z17.out; have := z18.out; have := z19.out; have := z20.out; have := z21.out; have := z22.out; have := z23.out; have := z24.out; have := z25.out; have := z26.out; omega)
  have la0_26 : w.heap.size < V26.heap.size := World.block_lt_of_cell? _ _ ba0_0_26
  have bw0_0_26 : V26.cell? ⟨V7.heap.size, 0, none⟩ = some (.string (fillT (⟨x0_Appliance, x0_Things⟩ : Load) x1 x2).1.Appliance) := hf26.keeps bw0_0_25 (fun hm => by have := Hi_g1.out _ hm; (try dsimp only at this); (try simp only [World.size_alloc] at this); (try simp only [World.size_drew] at this); have := z1.out; have := z2.out; have := z3.out; have := z4.out; have := z5.out; have := z6.out; have := z7.out; have := z8.out; have := z9.out; have := z10.out; have := z11.out; have := z12.out; have := z13.out; have := z15.out; have := z16.out; have := z17.out; have := z18.out; have := z19.out; have := z20.out; have := z21.out; have := z22.out; have := z23.out; have := z24.out; have := z25.out; have := z26.out; omega)
  have bw0_1_26 : V26.cell? ⟨V7.heap.size, 1, none⟩ = some (.slice A_w0 (fillT (⟨x0_Appliance, x0_Things⟩ : Load) x1 x2).1.Things.length c_w0) := hf26.keeps bw0_1_25 (fun hm => by have := Hi_g1.out _ hm; (try dsimp only at this); (try simp only [World.size_alloc] at this); (try simp only [World.size_drew] at this); have := z1.out; have := z2.out; have := z3.out; have := z4.out; have := z5.out; have := z6.out; have := z7.out; have := z8.out; have := z9.out; have := z10.out; have := z11.out; have := z12.out; have := z13.out; have := z15.out; have := z16.out; have := z17.out; have := z18.out; have := z19.out; have := z20.out; have := z21.out; have := z22.out; have := z23.out; have := z24.out; have := z25.out; have := z26.out; omega)
  have lw0_26 : V7.heap.size < V26.heap.size := World.block_lt_of_cell? _ _ bw0_0_26
  have bg0_0_26 : V26.cell? ⟨V11.heap.size, 0, none⟩ = some (.string (fillT (⟨x0_Appliance, x0_Things⟩ : Load) x1 x2).1.Appliance) := hf26.keeps bg0_0_25 (fun hm => by have := Hi_g1.out _ hm; (try dsimp only at this); (try simp only [World.size_alloc] at this); (try simp only [World.size_drew] at this); have := z1.out; have := z2.out; have := z3.out; have := z4.out; have := z5.out; have := z6.out; have := z7.out; have := z8.out; have := z9.out; have := z10.out; have := z11.out; have := z12.out; have := z13.out; have := z15.out; have := z16.out; have := z17.out; have := z18.out; have := z19.out; have := z20.out; have := z21.out; have := z22.out; have := z23.out; have := z24.out; have := z25.out; have := z26.out; omega)
  have bg0_1_26 : V26.cell? ⟨V11.heap.size, 1, none⟩ = some (.slice A_g0 (fillT (⟨x0_Appliance, x0_Things⟩ : Load) x1 x2).1.Things.length c_g0) := hf26.keeps bg0_1_25 (fun hm => by have := Hi_g1.out _ hm; (try dsimp only at this); (try simp only [World.size_alloc] at this); (try simp only [World.size_drew] at this); have := z1.out; have := z2.out; have := z3.out; have := z4.out; have := z5.out; have := z6.out; have := z7.out; have := z8.out; have := z9.out; have := z10.out; have := z11.out; have := z12.out; have := z13.out; have := z15.out; have := z16.out; have := z17.out; have := z18.out; have := z19.out; have := z20.out; have := z21.out; have := z22.out; have := z23.out; have := z24.out; have := z25.out; have := z26.out; omega)
  have lg0_26 : V11.heap.size < V26.heap.size := World.block_lt_of_cell? _ _ bg0_0_26
  clear hk25 g1_25 w0_25 w1_25 hm25 ba0_0_25 ba0_1_25 la0_25 bw0_0_25 bw0_1_25 lw0_25 bg0_0_25 bg0_1_25 lg0_25 hf26
  go_wp2_with fail
  refine (heldLoad_any _ _ _ _ _ _ (by omega) (by omega) (by omega) g0_26.sl).mono ?_
  rintro e V27 ⟨rfl, hb27⟩
  have hB27 := bl_trans (a := V26) (bl_refl _) hb27
  have hk27 := bl_trans hk26 hB27
  have z27 := Lib.hid hB27.size
  have w0_27 := w0_26.below hB27
  have w1_27 := w1_26.below hB27
  have g0_27 := g0_26.below hB27
  have g1_27 := hm26.below hB27
  have ba0_0_27 : V27.cell? ⟨w.heap.size, 0, none⟩ = some (.string x0_Appliance) := cell_later hB27 ba0_0_26
  have ba0_1_27 : V27.cell? ⟨w.heap.size, 1, none⟩ = some (.slice A0 n0 c0) := cell_later hB27 ba0_1_26
  have la0_27 : w.heap.size < V27.heap.size := World.block_lt_of_cell? _ _ ba0_0_27
  have bw0_0_27 : V27.cell? ⟨V7.heap.size, 0, none⟩ = some (.string (fillT (⟨x0_Appliance, x0_Things⟩ : Load) x1 x2).1.Appliance) := cell_later hB27 bw0_0_26
  have bw0_1_27 : V27.cell? ⟨V7.heap.size, 1, none⟩ = some (.slice A_w0 (fillT (⟨x0_Appliance, x0_Things⟩ : Load) x1 x2).1.Things.length c_w0) := cell_later hB27 bw0_1_26
  have lw0_27 : V7.heap.size < V27.heap.size := World.block_lt_of_cell? _ _ bw0_0_27
  have bg0_0_27 : V27.cell? ⟨V11.heap.size, 0, none⟩ = some (.string (fillT (⟨x0_Appliance, x0_Things⟩ : Load) x1 x2).1.Appliance) := cell_later hB27 bg0_0_26
  have bg0_1_27 : V27.cell? ⟨V11.heap.size, 1, none⟩ = some (.slice A_g0 (fillT (⟨x0_Appliance, x0_Things⟩ : Load) x1 x2).1.Things.length c_g0) := cell_later hB27 bg0_1_26
  have lg0_27 : V11.heap.size < V27.heap.size := World.block_lt_of_cell? _ _ bg0_0_27
  clear hk26 w0_26 w1_26 g0_26 hm26 ba0_0_26 ba0_1_26 la0_26 bw0_0_26 bw0_1_26 lw0_26 bg0_0_26 bg0_1_26 lg0_26
  clear hb27
  go_wp2_with fail
  refine (heldLoadS_x _ _ _ _ (fillT (⟨x0_Appliance, x0_Things⟩ : Load) x1 x2).2.1 _ (by omega) (by omega) rfl hRS1 g1_27.sl).mono ?_
  rintro e V28 ⟨rfl, hb28⟩
  have hB28 := bl_trans (a := V27) (bl_refl _) hb28
  have hk28 := bl_trans hk27 hB28
  have z28 := Lib.hid hB28.size
  have w0_28 := w0_27.below hB28
  have w1_28 := w1_27.below hB28
  have g0_28 := g0_27.below hB28
  have g1_28 := g1_27.below hB28
  have ba0_0_28 : V28.cell? ⟨w.heap.size, 0, none⟩ = some (.string x0_Appliance) := cell_later hB28 ba0_0_27
  have ba0_1_28 : V28.cell? ⟨w.heap.size, 1, none⟩ = some (.slice A0 n0 c0) := cell_later hB28 ba0_1_27
  have la0_28 : w.heap.size < V28.heap.size := World.block_lt_of_cell? _ _ ba0_0_28
  have bw0_0_28 : V28.cell? ⟨V7.heap.size, 0, none⟩ = some (.string (fillT (⟨x0_Appliance, x0_Things⟩ : Load) x1 x2).1.Appliance) := cell_later hB28 bw0_0_27
  have bw0_1_28 : V28.cell? ⟨V7.heap.size, 1, none⟩ = some (.slice A_w0 (fillT (⟨x0_Appliance, x0_Things⟩ : Load) x1 x2).1.Things.length c_w0) := cell_later hB28 bw0_1_27
  have lw0_28 : V7.heap.size < V28.heap.size := World.block_lt_of_cell? _ _ bw0_0_28
  have bg0_0_28 : V28.cell? ⟨V11.heap.size, 0, none⟩ = some (.string (fillT (⟨x0_Appliance, x0_Things⟩ : Load) x1 x2).1.Appliance) := cell_later hB28 bg0_0_27
  have bg0_1_28 : V28.cell? ⟨V11.heap.size, 1, none⟩ = some (.slice A_g0 (fillT (⟨x0_Appliance, x0_Things⟩ : Load) x1 x2).1.Things.length c_g0) := cell_later hB28 bg0_1_27
  have lg0_28 : V11.heap.size < V28.heap.size := World.block_lt_of_cell? _ _ bg0_0_28
  clear hk27 w0_27 w1_27 g0_27 g1_27 ba0_0_27 ba0_1_27 la0_27 bw0_0_27 bw0_1_27 lw0_27 bg0_0_27 bg0_1_27 lg0_27
  clear hb28
  go_wp2_with fail
  refine (toLoad_any x0_Appliance _ _ _ x0_Things _ hl0 (hs0.below hk28)).mono ?_
  rintro e V29 ⟨A_t0, c_t0, rfl, ho_t0, hb29⟩
  have hi_t0 := ho_t0.lies
  have Hi_t0 := Lib.hid hi_t0
  clear hi_t0
  have hB29 := bl_trans (a := V28) (bl_refl _) hb29
  have hk29 := bl_trans hk28 hB29
  have z29 := Lib.hid hB29.size
  have w0_29 := w0_28.below hB29
  have w1_29 := w1_28.below hB29
  have g0_29 := g0_28.below hB29
  have g1_29 := g1_28.below hB29
  have ba0_0_29 : V29.cell? ⟨w.heap.size, 0, none⟩ = some (.string x0_Appliance) := cell_later hB29 ba0_0_28
  have ba0_1_29 : V29.cell? ⟨w.heap.size, 1, none⟩ = some (.slice A0 n0 c0) := cell_later hB29 ba0_1_28
  have la0_29 : w.heap.size < V29.heap.size := World.block_lt_of_cell? _ _ ba0_0_29
  have bw0_0_29 : V29.cell? ⟨V7.heap.size, 0, none⟩ = some (.string (fillT (⟨x0_Appliance, x0_Things⟩ : Load) x1 x2).1.Appliance) := cell_later hB29 bw0_0_28
  have bw0_1_29 : V29.cell? ⟨V7.heap.size, 1, none⟩ = some (.slice A_w0 (fillT (⟨x0_Appliance, x0_Things⟩ : Load) x1 x2).1.Things.length c_w0) := cell_later hB29 bw0_1_28
  have lw0_29 : V7.heap.size < V29.heap.size := World.block_lt_of_cell? _ _ bw0_0_29
  have bg0_0_29 : V29.cell? ⟨V11.heap.size, 0, none⟩ = some (.string (fillT (⟨x0_Appliance, x0_Things⟩ : Load) x1 x2).1.Appliance) := cell_later hB29 bg0_0_28
  have bg0_1_29 : V29.cell? ⟨V11.heap.size, 1, none⟩ = some (.slice A_g0 (fillT (⟨x0_Appliance, x0_Things⟩ : Load) x1 x2).1.Things.length c_g0) := cell_later hB29 bg0_1_28
  have lg0_29 : V11.heap.size < V29.heap.size := World.block_lt_of_cell? _ _ bg0_0_29
  clear hk28 w0_28 w1_28 g0_28 g1_28 ba0_0_28 ba0_1_28 la0_28 bw0_0_28 bw0_1_28 lw0_28 bg0_0_28 bg0_1_28 lg0_28
  clear hb29
  go_wp2_with fail
  refine (toThingS_any _ _ _ x1 _ hl1 (hs1.below hk29)).mono ?_
  rintro e V30 ⟨A_t1, c_t1, rfl, ho_t1, hb30⟩
  have hi_t1 := ho_t1.lies
  have Hi_t1 := Lib.hid hi_t1
  clear hi_t1
  have hB30 := bl_trans (a := V29) (bl_refl _) hb30
  have hk30 := bl_trans hk29 hB30
  have z30 := Lib.hid hB30.size
  have w0_30 := w0_29.below hB30
  have w1_30 := w1_29.below hB30
  have g0_30 := g0_29.below hB30
  have g1_30 := g1_29.below hB30
  have t0_30 := ho_t0.below hB30
  have ba0_0_30 : V30.cell? ⟨w.heap.size, 0, none⟩ = some (.string x0_Appliance) := cell_later hB30 ba0_0_29
  have ba0_1_30 : V30.cell? ⟨w.heap.size, 1, none⟩ = some (.slice A0 n0 c0) := cell_later hB30 ba0_1_29
  have la0_30 : w.heap.size < V30.heap.size := World.block_lt_of_cell? _ _ ba0_0_30
  have bw0_0_30 : V30.cell? ⟨V7.heap.size, 0, none⟩ = some (.string (fillT (⟨x0_Appliance, x0_Things⟩ : Load) x1 x2).1.Appliance) := cell_later hB30 bw0_0_29
  have bw0_1_30 : V30.cell? ⟨V7.heap.size, 1, none⟩ = some (.slice A_w0 (fillT (⟨x0_Appliance, x0_Things⟩ : Load) x1 x2).1.Things.length c_w0) := cell_later hB30 bw0_1_29
  have lw0_30 : V7.heap.size < V30.heap.size := World.block_lt_of_cell? _ _ bw0_0_30
  have bg0_0_30 : V30.cell? ⟨V11.heap.size, 0, none⟩ = some (.string (fillT (⟨x0_Appliance, x0_Things⟩ : Load) x1 x2).1.Appliance) := cell_later hB30 bg0_0_29
  have bg0_1_30 : V30.cell? ⟨V11.heap.size, 1, none⟩ = some (.slice A_g0 (fillT (⟨x0_Appliance, x0_Things⟩ : Load) x1 x2).1.Things.length c_g0) := cell_later hB30 bg0_1_29
  have lg0_30 : V11.heap.size < V30.heap.size := World.block_lt_of_cell? _ _ bg0_0_30
  clear hk29 w0_29 w1_29 g0_29 g1_29 ho_t0 ba0_0_29 ba0_1_29 la0_29 bw0_0_29 bw0_1_29 lw0_29 bg0_0_29 bg0_1_29 lg0_29
  clear hb30
  go_wp2_with fail
  refine (toLoadS_any _ _ _ x2 _ hl2 (hs2.below hk30) hin2.out).mono ?_
  rintro e V31 ⟨A_t2, c_t2, F_t2, rfl, ho_t2, hb31⟩
  have hi_t2 := ho_t2.lies
  have Hi_t2 := Lib.hid hi_t2
  clear hi_t2
  have hB31 := bl_trans (a := V30) (bl_refl _) hb31
  have hk31 := bl_trans hk30 hB31
  have z31 := Lib.hid hB31.size
  have w0_31 := w0_30.below hB31
  have w1_31 := w1_30.below hB31
  have g0_31 := g0_30.below hB31
  have g1_31 := g1_30.below hB31
  have t0_31 := t0_30.below hB31
  have t1_31 := ho_t1.below hB31
  have ba0_0_31 : V31.cell? ⟨w.heap.size, 0, none⟩ = some (.string x0_Appliance) := cell_later hB31 ba0_0_30
  have ba0_1_31 : V31.cell? ⟨w.heap.size, 1, none⟩ = some (.slice A0 n0 c0) := cell_later hB31 ba0_1_30
  have la0_31 : w.heap.size < V31.heap.size := World.block_lt_of_cell? _ _ ba0_0_31
  have bw0_0_31 : V31.cell? ⟨V7.heap.size, 0, none⟩ = some (.string (fillT (⟨x0_Appliance, x0_Things⟩ : Load) x1 x2).1.Appliance) := cell_later hB31 bw0_0_30
  have bw0_1_31 : V31.cell? ⟨V7.heap.size, 1, none⟩ = some (.slice A_w0 (fillT (⟨x0_Appliance, x0_Things⟩ : Load) x1 x2).1.Things.length c_w0) := cell_later hB31 bw0_1_30
  have lw0_31 : V7.heap.size < V31.heap.size := World.block_lt_of_cell? _ _ bw0_0_31
  have bg0_0_31 : V31.cell? ⟨V11.heap.size, 0, none⟩ = some (.string (fillT (⟨x0_Appliance, x0_Things⟩ : Load) x1 x2).1.Appliance) := cell_later hB31 bg0_0_30
  have bg0_1_31 : V31.cell? ⟨V11.heap.size, 1, none⟩ = some (.slice A_g0 (fillT (⟨x0_Appliance, x0_Things⟩ : Load) x1 x2).1.Things.length c_g0) := cell_later hB31 bg0_1_30
  have lg0_31 : V11.heap.size < V31.heap.size := World.block_lt_of_cell? _ _ bg0_0_31
  clear hk30 w0_30 w1_30 g0_30 g1_30 t0_30 ho_t1 ba0_0_30 ba0_1_30 la0_30 bw0_0_30 bw0_1_30 lw0_30 bg0_0_30 bg0_1_30 lg0_30
  clear hb31
  go_wp2_with fail
  refine (implFillFrom_any x0_Appliance x0_Things x1 x2 _ _ _ _ _ _ _ _ _ _ hz0Appliance hL0 hL1 hL2 ho_t2.cap (OwnX.capm ho_t2) t0_31.sl t1_31.sl ho_t2.sl hv0 hv1 hv2).mono ?_
  rintro e V32 ⟨A_h0, c_h0, A_h1, c_h1, F_h1, rfl, ho_h0, ho_h1, ap_h, hb32⟩
  have hap_h := Lib.hid ap_h
  clear ap_h
  have hi_h0 := ho_h0.lies
  have Hi_h0 := Lib.hid hi_h0
  clear hi_h0
  have hi_h1 := ho_h1.lies
  have Hi_h1 := Lib.hid hi_h1
  clear hi_h1
  clear t0_31 Hi_t0
  clear t1_31 Hi_t1
  clear ho_t2 Hi_t2
  have hB32 := bl_trans (a := V31) (bl_refl _) hb32
  have hk32 := bl_trans hk31 hB32
  have z32 := Lib.hid hB32.size
  have w0_32 := w0_31.below hB32
  have w1_32 := w1_31.below hB32
  have g0_32 := g0_31.below hB32
  have g1_32 := g1_31.below hB32
  have ba0_0_32 : V32.cell? ⟨w.heap.size, 0, none⟩ = some (.string x0_Appliance) := cell_later hB32 ba0_0_31
  have ba0_1_32 : V32.cell? ⟨w.heap.size, 1, none⟩ = some (.slice A0 n0 c0) := cell_later hB32 ba0_1_31
  have la0_32 : w.heap.size < V32.heap.size := World.block_lt_of_cell? _ _ ba0_0_32
  have bw0_0_32 : V32.cell? ⟨V7.heap.size, 0, none⟩ = some (.string (fillT (⟨x0_Appliance, x0_Things⟩ : Load) x1 x2).1.Appliance) := cell_later hB32 bw0_0_31
  have bw0_1_32 : V32.cell? ⟨V7.heap.size, 1, none⟩ = some (.slice A_w0 (fillT (⟨x0_Appliance, x0_Things⟩ : Load) x1 x2).1.Things.length c_w0) := cell_later hB32 bw0_1_31
  have lw0_32 : V7.heap.size < V32.heap.size := World.block_lt_of_cell? _ _ bw0_0_32
  have bg0_0_32 : V32.cell? ⟨V11.heap.size, 0, none⟩ = some (.string (fillT (⟨x0_Appliance, x0_Things⟩ : Load) x1 x2).1.Appliance) := cell_later hB32 bg0_0_31
  have bg0_1_32 : V32.cell? ⟨V11.heap.size, 1, none⟩ = some (.slice A_g0 (fillT (⟨x0_Appliance, x0_Things⟩ : Load) x1 x2).1.Things.length c_g0) := cell_later hB32 bg0_1_31
  have lg0_32 : V11.heap.size < V32.heap.size := World.block_lt_of_cell? _ _ bg0_0_32
  clear hk31 w0_31 w1_31 g0_31 g1_31 ba0_0_31 ba0_1_31 la0_31 bw0_0_31 bw0_1_31 lw0_31 bg0_0_31 bg0_1_31 lg0_31
  clear hb32
  go_wp2_with fail
  refine (eqLoad_any _ _ _ _ _ _ _ _ _ _ _ (by omega) (ho_h0.sl.below (by repeat' (first | exact bl_refl _ | refine bl_alloc ?_ _ | refine bl_drew ?_ | refine bl_drewN ?_ _ | refine bl_set ?_ ?_ _ | (simp; done) | (simp; omega)))) (w0_32.sl.below (by repeat' (first | exact bl_refl _ | refine bl_alloc ?_ _ | refine bl_drew ?_ | refine bl_drewN ?_ _ | refine bl_set ?_ ?_ _ | (simp; done) | (simp; omega))))).mono ?_
  rintro e V33 ⟨rfl, hb33⟩
  rw [sameB_refl]
  have hB33 := bl_trans (a := V32) (by repeat' (first | exact bl_refl _ | refine bl_alloc ?_ _ | refine bl_drew ?_ | refine bl_drewN ?_ _ | refine bl_set ?_ ?_ _ | (simp; done) | (simp; omega))) hb33
  have hk33 := bl_trans hk32 hB33
  have z33 : Hid (V32.heap.size + 1 ≤ V33.heap.size) := by have := hb33.size; simp only [World.size_alloc] at this; exact (by omega : _)
  have w0_33 := w0_32.below hB33
  have w1_33 := w1_32.below hB33
  have g0_33 := g0_32.below hB33
  have g1_33 := g1_32.below hB33
  have h0_33 := ho_h0.below hB33
  have h1_33 := ho_h1.below hB33
  have ba0_0_33 : V33.cell? ⟨w.heap.size, 0, none⟩ = some (.string x0_Appliance) := cell_later hB33 ba0_0_32
  have ba0_1_33 : V33.cell? ⟨w.heap.size, 1, none⟩ = some (.slice A0 n0 c0) := cell_later hB33 ba0_1_32
  have la0_33 : w.heap.size < V33.heap.size := World.block_lt_of_cell? _ _ ba0_0_33
  have bw0_0_33 : V33.cell? ⟨V7.heap.size, 0, none⟩ = some (.string (fillT (⟨x0_Appliance, x0_Things⟩ : Load) x1 x2).1.Appliance) := cell_later hB33 bw0_0_32
  have bw0_1_33 : V33.cell? ⟨V7.heap.size, 1, none⟩ = some (.slice A_w0 (fillT (⟨x0_Appliance, x0_Things⟩ : Load) x1 x2).1.Things.length c_w0) := cell_later hB33 bw0_1_32
  have lw0_33 : V7.heap.size < V33.heap.size := World.block_lt_of_cell? _ _ bw0_0_33
  have bg0_0_33 : V33.cell? ⟨V11.heap.size, 0, none⟩ = some (.string (fillT (⟨x0_Appliance, x0_Things⟩ : Load) x1 x2).1.Appliance) := cell_later hB33 bg0_0_32
  have bg0_1_33 : V33.cell? ⟨V11.heap.size, 1, none⟩ = some (.slice A_g0 (fillT (⟨x0_Appliance, x0_Things⟩ : Load) x1 x2).1.Things.length c_g0) := cell_later hB33 bg0_1_32
  have lg0_33 : V11.heap.size < V33.heap.size := World.block_lt_of_cell? _ _ bg0_0_33
  have bh0_0_33 : V33.cell? ⟨V32.heap.size, 0, none⟩ = some (.string (fillT (⟨x0_Appliance, x0_Things⟩ : Load) x1 x2).1.Appliance) := cell_later hb33 (by go_simp)
  have bh0_1_33 : V33.cell? ⟨V32.heap.size, 1, none⟩ = some (.slice A_h0 (fillT (⟨x0_Appliance, x0_Things⟩ : Load) x1 x2).1.Things.length c_h0) := cell_later hb33 (by go_simp)
  have lh0_33 : V32.heap.size < V33.heap.size := World.block_lt_of_cell? _ _ bh0_0_33
  clear hk32 w0_32 w1_32 g0_32 g1_32 ho_h0 ho_h1 ba0_0_32 ba0_1_32 la0_32 bw0_0_32 bw0_1_32 lw0_32 bg0_0_32 bg0_1_32 lg0_32
  clear hb33
  go_wp2_with fail
  refine (eqLoadS_any _ _ _ _ _ _ _ _ _ (by omega) h1_33.sl w1_33.sl).mono ?_
  rintro e V34 ⟨rfl, hb34⟩
  rw [sameB_refl]
  have hB34 := bl_trans (a := V33) (bl_refl _) hb34
  have hk34 := bl_trans hk33 hB34
  have z34 := Lib.hid hB34.size
  have w0_34 := w0_33.below hB34
  have w1_34 := w1_33.below hB34
  have g0_34 := g0_33.below hB34
  have g1_34 := g1_33.below hB34
  have h0_34 := h0_33.below hB34
  have h1_34 := h1_33.below hB34
  have ba0_0_34 : V34.cell? ⟨w.heap.size, 0, none⟩ = some (.string x0_Appliance) := cell_later hB34 ba0_0_33
  have ba0_1_34 : V34.cell? ⟨w.heap.size, 1, none⟩ = some (.slice A0 n0 c0) := cell_later hB34 ba0_1_33
  have la0_34 : w.heap.size < V34.heap.size := World.block_lt_of_cell? _ _ ba0_0_34
  have bw0_0_34 : V34.cell? ⟨V7.heap.size, 0, none⟩ = some (.string (fillT (⟨x0_Appliance, x0_Things⟩ : Load) x1 x2).1.Appliance) := cell_later hB34 bw0_0_33
  have bw0_1_34 : V34.cell? ⟨V7.heap.size, 1, none⟩ = some (.slice A_w0 (fillT (⟨x0_Appliance, x0_Things⟩ : Load) x1 x2).1.Things.length c_w0) := cell_later hB34 bw0_1_33
  have lw0_34 : V7.heap.size < V34.heap.size := World.block_lt_of_cell? _ _ bw0_0_34
  have bg0_0_34 : V34.cell? ⟨V11.heap.size, 0, none⟩ = some (.string (fillT (⟨x0_Appliance, x0_Things⟩ : Load) x1 x2).1.Appliance) := cell_later hB34 bg0_0_33
  have bg0_1_34 : V34.cell? ⟨V11.heap.size, 1, none⟩ = some (.slice A_g0 (fillT (⟨x0_Appliance, x0_Things⟩ : Load) x1 x2).1.Things.length c_g0) := cell_later hB34 bg0_1_33
  have lg0_34 : V11.heap.size < V34.heap.size := World.block_lt_of_cell? _ _ bg0_0_34
  have bh0_0_34 : V34.cell? ⟨V32.heap.size, 0, none⟩ = some (.string (fillT (⟨x0_Appliance, x0_Things⟩ : Load) x1 x2).1.Appliance) := cell_later hB34 bh0_0_33
  have bh0_1_34 : V34.cell? ⟨V32.heap.size, 1, none⟩ = some (.slice A_h0 (fillT (⟨x0_Appliance, x0_Things⟩ : Load) x1 x2).1.Things.length c_h0) := cell_later hB34 bh0_1_33
  have lh0_34 : V32.heap.size < V34.heap.size := World.block_lt_of_cell? _ _ bh0_0_34
  clear hk33 w0_33 w1_33 g0_33 g1_33 h0_33 h1_33 ba0_0_33 ba0_1_33 la0_33 bw0_0_33 bw0_1_33 lw0_33 bg0_0_33 bg0_1_33 lg0_33 bh0_0_33 bh0_1_33 lh0_33
  clear hb34
  clear h0_34 Hi_h0 bh0_0_34 bh0_1_34 lh0_34
  clear w0_34 Hi_w0 bw0_0_34 bw0_1_34 lw0_34
  clear h1_34 Hi_h1
  clear w1_34 Hi_w1
  go_wp2_with fail
  refine (heldLoad_any _ _ _ _ _ _ (by omega) (by omega) (by omega) g0_34.sl).mono ?_
  rintro e V35 ⟨rfl, hb35⟩
  have hB35 := bl_trans (a := V34) (bl_refl _) hb35
  have hk35 := bl_trans hk34 hB35
  have z35 := Lib.hid hB35.size
  have g0_35 := g0_34.below hB35
  have g1_35 := g1_34.below hB35
  have ba0_0_35 : V35.cell? ⟨w.heap.size, 0, none⟩ = some (.string x0_Appliance) := cell_later hB35 ba0_0_34
  have ba0_1_35 : V35.cell? ⟨w.heap.size, 1, none⟩ = some (.slice A0 n0 c0) := cell_later hB35 ba0_1_34
  have la0_35 : w.heap.size < V35.heap.size := World.block_lt_of_cell? _ _ ba0_0_35
  have bg0_0_35 : V35.cell? ⟨V11.heap.size, 0, none⟩ = some (.string (fillT (⟨x0_Appliance, x0_Things⟩ : Load) x1 x2).1.Appliance) := cell_later hB35 bg0_0_34
  have bg0_1_35 : V35.cell? ⟨V11.heap.size, 1, none⟩ = some (.slice A_g0 (fillT (⟨x0_Appliance, x0_Things⟩ : Load) x1 x2).1.Things.length c_g0) := cell_later hB35 bg0_1_34
  have lg0_35 : V11.heap.size < V35.heap.size := World.block_lt_of_cell? _ _ bg0_0_35
  clear hk34 g0_34 g1_34 ba0_0_34 ba0_1_34 la0_34 bg0_0_34 bg0_1_34 lg0_34
  clear hb35
  go_wp2_with fail
  refine (heldLoadS_x _ _ _ _ (fillT (⟨x0_Appliance, x0_Things⟩ : Load) x1 x2).2.1 _ (by omega) (by omega) rfl hRS1 g1_35.sl).mono ?_
  rintro e V36 ⟨rfl, hb36⟩
  have hB36 := bl_trans (a := V35) (bl_refl _) hb36
  have hk36 := bl_trans hk35 hB36
  have z36 := Lib.hid hB36.size
  have g0_36 := g0_35.below hB36
  have g1_36 := g1_35.below hB36
  have ba0_0_36 : V36.cell? ⟨w.heap.size, 0, none⟩ = some (.string x0_Appliance) := cell_later hB36 ba0_0_35
  have ba0_1_36 : V36.cell? ⟨w.heap.size, 1, none⟩ = some (.slice A0 n0 c0) := cell_later hB36 ba0_1_35
  have la0_36 : w.heap.size < V36.heap.size := World.block_lt_of_cell? _ _ ba0_0_36
  have bg0_0_36 : V36.cell? ⟨V11.heap.size, 0, none⟩ = some (.string (fillT (⟨x0_Appliance, x0_Things⟩ : Load) x1 x2).1.Appliance) := cell_later hB36 bg0_0_35
  have bg0_1_36 : V36.cell? ⟨V11.heap.size, 1, none⟩ = some (.slice A_g0 (fillT (⟨x0_Appliance, x0_Things⟩ : Load) x1 x2).1.Things.length c_g0) := cell_later hB36 bg0_1_35
  have lg0_36 : V11.heap.size < V36.heap.size := World.block_lt_of_cell? _ _ bg0_0_36
  clear hk35 g0_35 g1_35 ba0_0_35 ba0_1_35 la0_35 bg0_0_35 bg0_1_35 lg0_35
  clear hb36
  clear g0_36 Hi_g0 bg0_0_36 bg0_1_36 lg0_36
  clear g1_36 Hi_g1
  go_wp2
  go_ret
  exact ⟨rfl, hk36⟩

open Go.WideShapes Go.ChangeShapes Go.ChangeAt
theorem own_ : ownKnob Try.prog.godebug = none := by kernel_rfl
theorem laid_ : laidOutB Try.prog = true := by kernel_rfl
set_option maxRecDepth 100000 in
theorem contract_ (H : Type) (enc : TypeId × Value → H) (W : World) (base : Nat) (args : Array Value) (ds gs : List (DataW H)) (before : List MemPlace)
    (hval : ∀ (j : Nat) t v, Try.f5.params[j]? = some t → args[j]? = some v → Value.okWide Try.prog W .any base t v)
    (hW : DataW.Whole enc Try.prog Try.f5.params.toList Rows.fnExactFillFromSpec.vars false W args.toList ds gs before) :
    Calls Try.prog 5 args W fun e W' => ∃ v, e = .returned v ∧ Rows.fnExactFillFromSpec.post enc Try.prog Try.f5 false true false false W args v W' := by
  have hW' := hW
  obtain ⟨p, q, hA0, hV, rfl, hfz, hnd⟩ := hW
  have hA : DataW.TrodAll enc Try.prog W 0 (fun _ => true) true Try.f5.params.toList args.toList ds p := hA0
  rw [Try.params5] at hA hval
  obtain ⟨v0, vs0, d0, ds0, p0, q0, hargs, rfl, rfl, h0, r0⟩ := trodAll_cons hA
  obtain ⟨v1, vs1, d1, ds1, p1, q1, rfl, rfl, rfl, h1, r1⟩ := trodAll_cons r0
  obtain ⟨v2, vs2, d2, ds2, p2, q2, rfl, rfl, rfl, h2, r2⟩ := trodAll_cons r1
  obtain ⟨rfl, rfl, rfl⟩ := trodAll_nil r2
  obtain rfl : args = #[v0, v1, v2] := by cases args; simp_all
  obtain ⟨rfl, rfl⟩ := trodVars_none hV
  obtain ⟨cs0, rfl, hsz0⟩ := okWide_struct Try.underlying24 (hval 0 _ v0 rfl rfl)
  obtain ⟨fuel0, h0⟩ := h0
  obtain ⟨x0, hr0⟩ := opens_load h0
  obtain ⟨A0, c0, e0, hs0, hm0⟩ := hr0.1
  obtain rfl : cs0 = #[.string x0.Appliance, .slice A0 x0.Things.length c0] := Array.toList_inj.1 (by simpa [Value.cells] using e0)
  have ho0 := hr0.2
  have hm0 : (x0.Things.length : Int) ≤ 9223372036854775807 := by unfold maxLen at hm0; omega
  obtain ⟨A1, n1, c1, rfl⟩ := okWide_slice Try.underlying22 (hval 1 _ v1 rfl rfl)
  obtain ⟨fuel1, h1⟩ := h1
  obtain ⟨x1, ⟨A1', c1', e1, hs1, hm1⟩, ho1⟩ := opens_slice Try.underlying22 (by kernel_rfl) (opens_thing) h1
  obtain ⟨rfl, rfl, rfl⟩ : A1 = A1' ∧ n1 = x1.length ∧ c1 = c1' := by simpa [Value.cells] using e1
  have hm1 : (x1.length : Int) ≤ 9223372036854775807 := by unfold maxLen at hm1; omega
  obtain ⟨A2, n2, c2, rfl⟩ := okWide_slice Try.underlying35 (hval 2 _ v2 rfl rfl)
  obtain ⟨fuel2, h2⟩ := h2
  obtain ⟨x2, ⟨A2', c2', e2, hs2, hm2⟩, ho2⟩ := opens_slice Try.underlying35 (by kernel_rfl) (opens_load) h2
  obtain ⟨rfl, rfl, rfl⟩ : A2 = A2' ∧ n2 = x2.length ∧ c2 = c2' := by simpa [Value.cells] using e2
  have hm2 : (x2.length : Int) ≤ 9223372036854775807 := by unfold maxLen at hm2; omega
  refine (walk x0.Appliance x0.Things A0 _ c0 x1 A1 _ c1 x2 A2 _ c2 W hm0 hs0 (fun x hx => (ho0.2 x hx).1) ho0.1 hm1 hs1 (fun x hx => (ho1 x hx).1) hm2 hs2 (fun x hx => ⟨(ho2 x hx).1, fun y hy => ((ho2 x hx).2 y hy).1⟩)).mono fun e W' ⟨he, hb⟩ => ?_
  exact ⟨_, he, post_law laid_ Try.underlying4 rfl rfl (by kernel_rfl) ⟨rfl, rfl, rfl⟩ hW' hb⟩

set_option maxRecDepth 100000 in
theorem lifted_ (os : Os) (started : os.Started) (H : Type) (enc : TypeId × Value → H) :
    ReturnsInHanded {} Try.checked os 5 .any (Rows.fnExactFillFromSpec.pre6 enc Try.prog Try.f5 Rows.fnExactFillFromRow.domain false) (Rows.fnExactFillFromSpec.post enc Try.prog Try.f5 false true false false) := by
  refine returnsInHanded_of_change (C := Try.checked) own_ started (by kernel_rfl) Try.func5
    (ChangeSpec.witness6 (enc := enc) (C := Try.checked) false ⟨#[], #[.agg #[.string ByteArray.empty, .slice none 0 0], .slice none 0 0, .slice none 0 0], []⟩ 8 (by kernel_rfl) (by kernel_rfl) (by kernel_rfl) (by kernel_rfl)) ?_
  intro W base args ds gs before hval0 hW _ _
  exact contract_ H enc W base args ds gs before hval0 hW

theorem proved : Rows.FnExactFillFromSaid :=
  OpenClaim.holds_of_wide 5 Try.f5 rfl rfl rfl rfl rfl rfl rfl ⟨rfl, rfl, rfl, rfl, rfl⟩ rfl rfl rfl rfl rfl (by kernel_rfl) Try.func5 (by kernel_rfl)
    (of_decide_eq_true (by kernel_rfl)) (by unfold Func.isWrapper; first | (rw [if_pos (by decide +kernel)]; kernel_rfl) | (rw [if_neg (by decide +kernel)]; exact ⟨rfl, rfl⟩))
    (fun os started H enc _ => lifted_ os started H enc)

end Go.Proofs.Ytokcgjjnljflaaa.lawFillFrom
