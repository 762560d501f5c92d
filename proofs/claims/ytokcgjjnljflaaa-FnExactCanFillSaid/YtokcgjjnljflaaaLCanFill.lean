/-
  The law on CanFill: it answers true at every input, and every argument reads as before. No conditions.
-/
import Derived.Test.YtokcgjjnljflaaaMvR
import Derived.Test.YtokcgjjnljflaaaRows
import Derived.Test.YtokcgjjnljflaaaMem3
namespace Go.Proofs.Ytokcgjjnljflaaa.lawCanFill
open Go.RowKit

set_option maxRecDepth 100000 in
set_option maxHeartbeats 4000000 in
theorem walk (x0_Appliance : ByteArray) (x0_Things : List Thing) (A0 : Option Addr) (n0 c0 : Nat) (x1 : List Thing) (A1 : Option Addr) (n1 c1 : Nat) (x2 : List Load) (A2 : Option Addr) (n2 c2 : Nat) (w : World) (hn0 : (n0 : Int) ≤ 9223372036854775807) (hs0 : Sl w A0 n0 x0_Things) (hv0 : ∀ x, x ∈ x0_Things → x.Name.size ≤ maxLen) (hz0Appliance : x0_Appliance.size ≤ maxLen) (hn1 : (n1 : Int) ≤ 9223372036854775807) (hs1 : Sl w A1 n1 x1) (hv1 : ∀ x, x ∈ x1 → x.Name.size ≤ maxLen) (hn2 : (n2 : Int) ≤ 9223372036854775807) (hs2 : Sl w A2 n2 x2) (hv2 : ∀ x, x ∈ x2 → x.Appliance.size ≤ maxLen ∧ ∀ y, y ∈ x.Things → y.Name.size ≤ maxLen) :
    Calls Try.prog 4 #[.agg #[.string x0_Appliance, .slice A0 n0 c0], .slice A1 n1 c1, .slice A2 n2 c2] w fun e w' => e = .returned (.bool true) ∧ Below w.heap.size w w' := by
  go_enter Try.func4, Try.ntmps4
  have hk0 := bl_refl w
  go_wp2_with fail
  refine (szLoad_any x0_Appliance _ _ _ x0_Things _ _ hz0Appliance hn0 (hs0.below (bl_trans hk0 (by repeat' (first | exact bl_refl _ | refine bl_alloc ?_ _ | refine bl_drew ?_ | refine bl_drewN ?_ _ | refine bl_set ?_ ?_ _ | (simp; done) | (simp; omega))))) hv0 (by omega) (by omega)).mono ?_
  rintro e V1 ⟨r0, rfl, hr0, hb1⟩
  have hB1 := bl_trans (a := w) (by repeat' (first | exact bl_refl _ | refine bl_alloc ?_ _ | refine bl_drew ?_ | refine bl_drewN ?_ _ | refine bl_set ?_ ?_ _ | (simp; done) | (simp; omega))) hb1
  have hk1 := bl_trans hk0 hB1
  have z1 : Hid (w.heap.size + 1 ≤ V1.heap.size) := by have := hb1.size; simp only [World.size_alloc] at this; exact (by omega : _)
  have ba0_0_1 : V1.cell? ⟨w.heap.size, 0, none⟩ = some (.string x0_Appliance) := cell_later hb1 (by go_simp)
  have ba0_1_1 : V1.cell? ⟨w.heap.size, 1, none⟩ = some (.slice A0 n0 c0) := cell_later hb1 (by go_simp)
  have la0_1 : w.heap.size < V1.heap.size := World.block_lt_of_cell? _ _ ba0_0_1
  clear hb1
  rcases hr0 with rfl | ⟨ha0, hc0, hp0⟩
  · go_wp2
    go_ret
    exact ⟨rfl, hk1⟩
  have hl0 : n0 ≤ 1048576 := by have := hp0; omega
  have hL0 : x0_Things.length ≤ 1048576 := by rw [hs0.1]; exact hl0
  clear hp0
  go_wp2_with fail
  refine (szThingS_any _ _ _ x1 _ _ hn1 (hs1.below hk1) hv1 (by omega) (by omega)).mono ?_
  rintro e V2 ⟨r1, rfl, hr1, hb2⟩
  have hB2 := bl_trans (a := V1) (bl_refl _) hb2
  have hk2 := bl_trans hk1 hB2
  have z2 := Lib.hid hB2.size
  have ba0_0_2 : V2.cell? ⟨w.heap.size, 0, none⟩ = some (.string x0_Appliance) := cell_later hB2 ba0_0_1
  have ba0_1_2 : V2.cell? ⟨w.heap.size, 1, none⟩ = some (.slice A0 n0 c0) := cell_later hB2 ba0_1_1
  have la0_2 : w.heap.size < V2.heap.size := World.block_lt_of_cell? _ _ ba0_0_2
  clear hk1 ba0_0_1 ba0_1_1 la0_1
  clear hb2
  rcases hr1 with rfl | ⟨ha1, hc1, hp1⟩
  · go_wp2
    go_ret
    exact ⟨rfl, hk2⟩
  have hl1 : n1 ≤ 1048576 := by have := hp1.1; omega
  have hL1 : x1.length ≤ 1048576 := by rw [hs1.1]; exact hl1
  clear hp1
  go_wp2_with fail
  refine (szLoadS_any _ _ _ x2 _ _ hn2 (hs2.below hk2) hv2 (by omega) (by omega)).mono ?_
  rintro e V3 ⟨r2, rfl, hr2, hb3⟩
  have hB3 := bl_trans (a := V2) (bl_refl _) hb3
  have hk3 := bl_trans hk2 hB3
  have z3 := Lib.hid hB3.size
  have ba0_0_3 : V3.cell? ⟨w.heap.size, 0, none⟩ = some (.string x0_Appliance) := cell_later hB3 ba0_0_2
  have ba0_1_3 : V3.cell? ⟨w.heap.size, 1, none⟩ = some (.slice A0 n0 c0) := cell_later hB3 ba0_1_2
  have la0_3 : w.heap.size < V3.heap.size := World.block_lt_of_cell? _ _ ba0_0_3
  clear hk2 ba0_0_2 ba0_1_2 la0_2
  clear hb3
  rcases hr2 with rfl | ⟨ha2, hc2, hp2⟩
  · go_wp2
    go_ret
    exact ⟨rfl, hk3⟩
  have hl2 : n2 ≤ 1048576 := by omega
  have hL2 : x2.length ≤ 1048576 := by rw [hs2.1]; exact hl2
  have hI2 : sumLoad x2 ≤ 1048576 := by omega
  have hS2 : (n2 : Int) + sumLoad x2 ≤ 1048576 := by omega
  have hin2 := Lib.hid (fun x (hx : x ∈ x2) => Nat.le_trans (sumLoad_at hx) hI2)
  clear hp2
  go_wp2_with fail
  refine (toLoad_any x0_Appliance _ _ _ x0_Things _ hl0 (hs0.below hk3)).mono ?_
  rintro e V4 ⟨A_s0, c_s0, rfl, ho_s0, hb4⟩
  have hi_s0 := ho_s0.lies
  have Hi_s0 := Lib.hid hi_s0
  clear hi_s0
  have hB4 := bl_trans (a := V3) (bl_refl _) hb4
  have hk4 := bl_trans hk3 hB4
  have z4 := Lib.hid hB4.size
  have ba0_0_4 : V4.cell? ⟨w.heap.size, 0, none⟩ = some (.string x0_Appliance) := cell_later hB4 ba0_0_3
  have ba0_1_4 : V4.cell? ⟨w.heap.size, 1, none⟩ = some (.slice A0 n0 c0) := cell_later hB4 ba0_1_3
  have la0_4 : w.heap.size < V4.heap.size := World.block_lt_of_cell? _ _ ba0_0_4
  clear hk3 ba0_0_3 ba0_1_3 la0_3
  clear hb4
  go_wp2_with fail
  refine (toThingS_any _ _ _ x1 _ hl1 (hs1.below hk4)).mono ?_
  rintro e V5 ⟨A_s1, c_s1, rfl, ho_s1, hb5⟩
  have hi_s1 := ho_s1.lies
  have Hi_s1 := Lib.hid hi_s1
  clear hi_s1
  have hB5 := bl_trans (a := V4) (bl_refl _) hb5
  have hk5 := bl_trans hk4 hB5
  have z5 := Lib.hid hB5.size
  have s0_5 := ho_s0.below hB5
  have ba0_0_5 : V5.cell? ⟨w.heap.size, 0, none⟩ = some (.string x0_Appliance) := cell_later hB5 ba0_0_4
  have ba0_1_5 : V5.cell? ⟨w.heap.size, 1, none⟩ = some (.slice A0 n0 c0) := cell_later hB5 ba0_1_4
  have la0_5 : w.heap.size < V5.heap.size := World.block_lt_of_cell? _ _ ba0_0_5
  clear hk4 ho_s0 ba0_0_4 ba0_1_4 la0_4
  clear hb5
  go_wp2_with fail
  refine (toLoadS_any _ _ _ x2 _ hl2 (hs2.below hk5) hin2.out).mono ?_
  rintro e V6 ⟨A_s2, c_s2, F_s2, rfl, ho_s2, hb6⟩
  have hi_s2 := ho_s2.lies
  have Hi_s2 := Lib.hid hi_s2
  clear hi_s2
  have hB6 := bl_trans (a := V5) (bl_refl _) hb6
  have hk6 := bl_trans hk5 hB6
  have z6 := Lib.hid hB6.size
  have s0_6 := s0_5.below hB6
  have s1_6 := ho_s1.below hB6
  have ba0_0_6 : V6.cell? ⟨w.heap.size, 0, none⟩ = some (.string x0_Appliance) := cell_later hB6 ba0_0_5
  have ba0_1_6 : V6.cell? ⟨w.heap.size, 1, none⟩ = some (.slice A0 n0 c0) := cell_later hB6 ba0_1_5
  have la0_6 : w.heap.size < V6.heap.size := World.block_lt_of_cell? _ _ ba0_0_6
  clear hk5 s0_5 ho_s1 ba0_0_5 ba0_1_5 la0_5
  clear hb6
  go_wp2_with fail
  refine (specCanFill_any x0_Appliance x0_Things x1 x2 _ _ _ _ _ _ _ _ _ _ hz0Appliance hL0 hL1 hL2 s0_6.sl s1_6.sl ho_s2.sl hv0 hv1 hv2).mono ?_
  rintro e V7 ⟨rfl, hb7⟩
  clear s0_6 Hi_s0
  clear s1_6 Hi_s1
  clear ho_s2 Hi_s2
  have hB7 := bl_trans (a := V6) (bl_refl _) hb7
  have hk7 := bl_trans hk6 hB7
  have z7 := Lib.hid hB7.size
  have ba0_0_7 : V7.cell? ⟨w.heap.size, 0, none⟩ = some (.string x0_Appliance) := cell_later hB7 ba0_0_6
  have ba0_1_7 : V7.cell? ⟨w.heap.size, 1, none⟩ = some (.slice A0 n0 c0) := cell_later hB7 ba0_1_6
  have la0_7 : w.heap.size < V7.heap.size := World.block_lt_of_cell? _ _ ba0_0_7
  clear hk6 ba0_0_6 ba0_1_6 la0_6
  clear hb7
  go_wp2_with fail
  refine (toLoad_any x0_Appliance _ _ _ x0_Things _ hl0 (hs0.below hk7)).mono ?_
  rintro e V8 ⟨A_x0, c_x0, rfl, ho_x0, hb8⟩
  have hi_x0 := ho_x0.lies
  have Hi_x0 := Lib.hid hi_x0
  clear hi_x0
  have hB8 := bl_trans (a := V7) (bl_refl _) hb8
  have hk8 := bl_trans hk7 hB8
  have z8 := Lib.hid hB8.size
  have ba0_0_8 : V8.cell? ⟨w.heap.size, 0, none⟩ = some (.string x0_Appliance) := cell_later hB8 ba0_0_7
  have ba0_1_8 : V8.cell? ⟨w.heap.size, 1, none⟩ = some (.slice A0 n0 c0) := cell_later hB8 ba0_1_7
  have la0_8 : w.heap.size < V8.heap.size := World.block_lt_of_cell? _ _ ba0_0_8
  clear hk7 ba0_0_7 ba0_1_7 la0_7
  clear hb8
  go_wp2_with fail
  refine (toThingS_any _ _ _ x1 _ hl1 (hs1.below (bl_trans hk8 (by repeat' (first | exact bl_refl _ | refine bl_alloc ?_ _ | refine bl_drew ?_ | refine bl_drewN ?_ _ | refine bl_set ?_ ?_ _ | (simp; done) | (simp; omega)))))).mono ?_
  rintro e V9 ⟨A_x1, c_x1, rfl, ho_x1, hb9⟩
  have hi_x1 := ho_x1.lies
  have Hi_x1 := Lib.hid hi_x1
  clear hi_x1
  have hB9 := bl_trans (a := V8) (by repeat' (first | exact bl_refl _ | refine bl_alloc ?_ _ | refine bl_drew ?_ | refine bl_drewN ?_ _ | refine bl_set ?_ ?_ _ | (simp; done) | (simp; omega))) hb9
  have hk9 := bl_trans hk8 hB9
  have z9 : Hid (V8.heap.size + 1 ≤ V9.heap.size) := by have := hb9.size; simp only [World.size_alloc] at this; exact (by omega : _)
  have x0_9 := ho_x0.below hB9
  have ba0_0_9 : V9.cell? ⟨w.heap.size, 0, none⟩ = some (.string x0_Appliance) := cell_later hB9 ba0_0_8
  have ba0_1_9 : V9.cell? ⟨w.heap.size, 1, none⟩ = some (.slice A0 n0 c0) := cell_later hB9 ba0_1_8
  have la0_9 : w.heap.size < V9.heap.size := World.block_lt_of_cell? _ _ ba0_0_9
  have bx0_0_9 : V9.cell? ⟨V8.heap.size, 0, none⟩ = some (.string x0_Appliance) := cell_later hb9 (by go_simp)
  have bx0_1_9 : V9.cell? ⟨V8.heap.size, 1, none⟩ = some (.slice A_x0 x0_Things.length c_x0) := cell_later hb9 (by go_simp)
  have lx0_9 : V8.heap.size < V9.heap.size := World.block_lt_of_cell? _ _ bx0_0_9
  clear hk8 ho_x0 ba0_0_8 ba0_1_8 la0_8
  clear hb9
  go_wp2_with fail
  refine (toLoadS_any _ _ _ x2 _ hl2 (hs2.below hk9) hin2.out).mono ?_
  rintro e V10 ⟨A_x2, c_x2, F_x2, rfl, ho_x2, hb10⟩
  have hi_x2 := ho_x2.lies
  have Hi_x2 := Lib.hid hi_x2
  clear hi_x2
  have hB10 := bl_trans (a := V9) (bl_refl _) hb10
  have hk10 := bl_trans hk9 hB10
  have z10 := Lib.hid hB10.size
  have x0_10 := x0_9.below hB10
  have x1_10 := ho_x1.below hB10
  have ba0_0_10 : V10.cell? ⟨w.heap.size, 0, none⟩ = some (.string x0_Appliance) := cell_later hB10 ba0_0_9
  have ba0_1_10 : V10.cell? ⟨w.heap.size, 1, none⟩ = some (.slice A0 n0 c0) := cell_later hB10 ba0_1_9
  have la0_10 : w.heap.size < V10.heap.size := World.block_lt_of_cell? _ _ ba0_0_10
  have bx0_0_10 : V10.cell? ⟨V8.heap.size, 0, none⟩ = some (.string x0_Appliance) := cell_later hB10 bx0_0_9
  have bx0_1_10 : V10.cell? ⟨V8.heap.size, 1, none⟩ = some (.slice A_x0 x0_Things.length c_x0) := cell_later hB10 bx0_1_9
  have lx0_10 : V8.heap.size < V10.heap.size := World.block_lt_of_cell? _ _ bx0_0_10
  clear hk9 x0_9 ho_x1 ba0_0_9 ba0_1_9 la0_9 bx0_0_9 bx0_1_9 lx0_9
  clear hb10
  go_wp2_with fail
  refine (implCanFill_any x0_Appliance x0_Things x1 x2 _ _ _ _ _ _ _ _ _ _ hz0Appliance hL0 hL1 hL2 ho_x2.cap (OwnX.capm ho_x2) x0_10.sl x1_10.sl ho_x2.sl hv0 hv1 hv2).mono ?_
  rintro e V11 ⟨rfl, hb11⟩
  have hB11 := bl_trans (a := V10) (bl_refl _) hb11
  have hk11 := bl_trans hk10 hB11
  have z11 := Lib.hid hB11.size
  have x0_11 := x0_10.below hB11
  have x1_11 := x1_10.below hB11
  have x2_11 := ho_x2.below hB11
  have ba0_0_11 : V11.cell? ⟨w.heap.size, 0, none⟩ = some (.string x0_Appliance) := cell_later hB11 ba0_0_10
  have ba0_1_11 : V11.cell? ⟨w.heap.size, 1, none⟩ = some (.slice A0 n0 c0) := cell_later hB11 ba0_1_10
  have la0_11 : w.heap.size < V11.heap.size := World.block_lt_of_cell? _ _ ba0_0_11
  have bx0_0_11 : V11.cell? ⟨V8.heap.size, 0, none⟩ = some (.string x0_Appliance) := cell_later hB11 bx0_0_10
  have bx0_1_11 : V11.cell? ⟨V8.heap.size, 1, none⟩ = some (.slice A_x0 x0_Things.length c_x0) := cell_later hB11 bx0_1_10
  have lx0_11 : V8.heap.size < V11.heap.size := World.block_lt_of_cell? _ _ bx0_0_11
  clear hk10 x0_10 x1_10 ho_x2 ba0_0_10 ba0_1_10 la0_10 bx0_0_10 bx0_1_10 lx0_10
  clear hb11
  have hD13 := bl_drew (bl_refl V11)
  go_wp2_with fail
  go_region_held3 (fun w' => w'.cell? ⟨V8.heap.size, 0, none⟩ = some (.string x0_Appliance) ∧ w'.cell? ⟨V8.heap.size, 1, none⟩ = some (.slice A_x0 x0_Things.length c_x0) ∧ w'.cell? ⟨w.heap.size, 0, none⟩ = some (.string x0_Appliance) ∧ w'.cell? ⟨w.heap.size, 1, none⟩ = some (.slice A0 n0 c0) ∧ Below V11.heap.size V11 w') (first | exact ⟨cell_later hE13 bx0_0_11, cell_later hE13 bx0_1_11, cell_later hE13 ba0_0_11, cell_later hE13 ba0_1_11, hE13⟩ | exact ⟨cell_later hE12 bx0_0_11, cell_later hE12 bx0_1_11, cell_later hE12 ba0_0_11, cell_later hE12 ba0_1_11, hE12⟩ | exact ⟨cell_later hD13 bx0_0_11, cell_later hD13 bx0_1_11, cell_later hD13 ba0_0_11, cell_later hD13 ba0_1_11, hD13⟩) (first | (go_at_call 8; refine (toLoad_any x0_Appliance _ _ _ x0_Things _ hl0 (hs0.below (bl_trans hk11 hD13))).mono ?_; rintro e V12 ⟨A_y0, c_y0, rfl, ho_y0, hb12⟩; have hE12 := bl_trans hD13 hb12) | (go_at_call 10; refine (eqLoad_any _ _ _ _ _ _ _ _ _ _ _ (by omega) (x0_11.sl.below hE12) ho_y0.sl).mono ?_; rintro e V13 ⟨rfl, hb13⟩; have hE13 := bl_trans hE12 hb13))
  rw [sameB_refl]
  have hb13 := hE13
  clear hD13 hE12 hb12 ho_y0
  have hB13 := bl_trans (a := V11) (bl_refl _) hb13
  have hk13 := bl_trans hk11 hB13
  have z13 := Lib.hid hB13.size
  have x0_13 := x0_11.below hB13
  have x1_13 := x1_11.below hB13
  have x2_13 := x2_11.below hB13
  have ba0_0_13 : V13.cell? ⟨w.heap.size, 0, none⟩ = some (.string x0_Appliance) := cell_later hB13 ba0_0_11
  have ba0_1_13 : V13.cell? ⟨w.heap.size, 1, none⟩ = some (.slice A0 n0 c0) := cell_later hB13 ba0_1_11
  have la0_13 : w.heap.size < V13.heap.size := World.block_lt_of_cell? _ _ ba0_0_13
  have bx0_0_13 : V13.cell? ⟨V8.heap.size, 0, none⟩ = some (.string x0_Appliance) := cell_later hB13 bx0_0_11
  have bx0_1_13 : V13.cell? ⟨V8.heap.size, 1, none⟩ = some (.slice A_x0 x0_Things.length c_x0) := cell_later hB13 bx0_1_11
  have lx0_13 : V8.heap.size < V13.heap.size := World.block_lt_of_cell? _ _ bx0_0_13
  clear hk11 x0_11 x1_11 x2_11 ba0_0_11 ba0_1_11 la0_11 bx0_0_11 bx0_1_11 lx0_11
  clear hb13
  go_wp2_with fail
  refine (toThingS_any _ _ _ x1 _ hl1 (hs1.below hk13)).mono ?_
  rintro e V14 ⟨A_y1, c_y1, rfl, ho_y1, hb14⟩
  have hi_y1 := ho_y1.lies
  have Hi_y1 := Lib.hid hi_y1
  clear hi_y1
  have hB14 := bl_trans (a := V13) (bl_refl _) hb14
  have hk14 := bl_trans hk13 hB14
  have z14 := Lib.hid hB14.size
  have x0_14 := x0_13.below hB14
  have x1_14 := x1_13.below hB14
  have x2_14 := x2_13.below hB14
  have ba0_0_14 : V14.cell? ⟨w.heap.size, 0, none⟩ = some (.string x0_Appliance) := cell_later hB14 ba0_0_13
  have ba0_1_14 : V14.cell? ⟨w.heap.size, 1, none⟩ = some (.slice A0 n0 c0) := cell_later hB14 ba0_1_13
  have la0_14 : w.heap.size < V14.heap.size := World.block_lt_of_cell? _ _ ba0_0_14
  have bx0_0_14 : V14.cell? ⟨V8.heap.size, 0, none⟩ = some (.string x0_Appliance) := cell_later hB14 bx0_0_13
  have bx0_1_14 : V14.cell? ⟨V8.heap.size, 1, none⟩ = some (.slice A_x0 x0_Things.length c_x0) := cell_later hB14 bx0_1_13
  have lx0_14 : V8.heap.size < V14.heap.size := World.block_lt_of_cell? _ _ bx0_0_14
  clear hk13 x0_13 x1_13 x2_13 ba0_0_13 ba0_1_13 la0_13 bx0_0_13 bx0_1_13 lx0_13
  clear hb14
  go_wp2_with fail
  refine (eqThingS_any _ _ _ _ _ _ _ _ _ (by omega) x1_14.sl ho_y1.sl).mono ?_
  rintro e V15 ⟨rfl, hb15⟩
  rw [sameB_refl]
  have hB15 := bl_trans (a := V14) (bl_refl _) hb15
  have hk15 := bl_trans hk14 hB15
  have z15 := Lib.hid hB15.size
  have x0_15 := x0_14.below hB15
  have x1_15 := x1_14.below hB15
  have x2_15 := x2_14.below hB15
  have y1_15 := ho_y1.below hB15
  have ba0_0_15 : V15.cell? ⟨w.heap.size, 0, none⟩ = some (.string x0_Appliance) := cell_later hB15 ba0_0_14
  have ba0_1_15 : V15.cell? ⟨w.heap.size, 1, none⟩ = some (.slice A0 n0 c0) := cell_later hB15 ba0_1_14
  have la0_15 : w.heap.size < V15.heap.size := World.block_lt_of_cell? _ _ ba0_0_15
  have bx0_0_15 : V15.cell? ⟨V8.heap.size, 0, none⟩ = some (.string x0_Appliance) := cell_later hB15 bx0_0_14
  have bx0_1_15 : V15.cell? ⟨V8.heap.size, 1, none⟩ = some (.slice A_x0 x0_Things.length c_x0) := cell_later hB15 bx0_1_14
  have lx0_15 : V8.heap.size < V15.heap.size := World.block_lt_of_cell? _ _ bx0_0_15
  clear hk14 x0_14 x1_14 x2_14 ho_y1 ba0_0_14 ba0_1_14 la0_14 bx0_0_14 bx0_1_14 lx0_14
  clear hb15
  clear y1_15 Hi_y1
  go_wp2_with fail
  refine (toLoadS_any _ _ _ x2 _ hl2 (hs2.below hk15) hin2.out).mono ?_
  rintro e V16 ⟨A_y2, c_y2, F_y2, rfl, ho_y2, hb16⟩
  have hi_y2 := ho_y2.lies
  have Hi_y2 := Lib.hid hi_y2
  clear hi_y2
  have hB16 := bl_trans (a := V15) (bl_refl _) hb16
  have hk16 := bl_trans hk15 hB16
  have z16 := Lib.hid hB16.size
  have x0_16 := x0_15.below hB16
  have x1_16 := x1_15.below hB16
  have x2_16 := x2_15.below hB16
  have ba0_0_16 : V16.cell? ⟨w.heap.size, 0, none⟩ = some (.string x0_Appliance) := cell_later hB16 ba0_0_15
  have ba0_1_16 : V16.cell? ⟨w.heap.size, 1, none⟩ = some (.slice A0 n0 c0) := cell_later hB16 ba0_1_15
  have la0_16 : w.heap.size < V16.heap.size := World.block_lt_of_cell? _ _ ba0_0_16
  have bx0_0_16 : V16.cell? ⟨V8.heap.size, 0, none⟩ = some (.string x0_Appliance) := cell_later hB16 bx0_0_15
  have bx0_1_16 : V16.cell? ⟨V8.heap.size, 1, none⟩ = some (.slice A_x0 x0_Things.length c_x0) := cell_later hB16 bx0_1_15
  have lx0_16 : V8.heap.size < V16.heap.size := World.block_lt_of_cell? _ _ bx0_0_16
  clear hk15 x0_15 x1_15 x2_15 ba0_0_15 ba0_1_15 la0_15 bx0_0_15 bx0_1_15 lx0_15
  clear hb16
  go_wp2_with fail
  refine (eqLoadS_any _ _ _ _ _ _ _ _ _ (by omega) x2_16.sl ho_y2.sl).mono ?_
  rintro e V17 ⟨rfl, hb17⟩
  rw [sameB_refl]
  have hB17 := bl_trans (a := V16) (bl_refl _) hb17
  have hk17 := bl_trans hk16 hB17
  have z17 := Lib.hid hB17.size
  have x0_17 := x0_16.below hB17
  have x1_17 := x1_16.below hB17
  have x2_17 := x2_16.below hB17
  have y2_17 := ho_y2.below hB17
  have ba0_0_17 : V17.cell? ⟨w.heap.size, 0, none⟩ = some (.string x0_Appliance) := cell_later hB17 ba0_0_16
  have ba0_1_17 : V17.cell? ⟨w.heap.size, 1, none⟩ = some (.slice A0 n0 c0) := cell_later hB17 ba0_1_16
  have la0_17 : w.heap.size < V17.heap.size := World.block_lt_of_cell? _ _ ba0_0_17
  have bx0_0_17 : V17.cell? ⟨V8.heap.size, 0, none⟩ = some (.string x0_Appliance) := cell_later hB17 bx0_0_16
  have bx0_1_17 : V17.cell? ⟨V8.heap.size, 1, none⟩ = some (.slice A_x0 x0_Things.length c_x0) := cell_later hB17 bx0_1_16
  have lx0_17 : V8.heap.size < V17.heap.size := World.block_lt_of_cell? _ _ bx0_0_17
  clear hk16 x0_16 x1_16 x2_16 ho_y2 ba0_0_16 ba0_1_16 la0_16 bx0_0_16 bx0_1_16 lx0_16
  clear hb17
  clear y2_17 Hi_y2
  clear x0_17 Hi_x0 bx0_0_17 bx0_1_17 lx0_17
  clear x1_17 Hi_x1
  clear x2_17 Hi_x2
  go_wp2
  go_ret
  exact ⟨rfl, hk17⟩

open Go.WideShapes Go.ChangeShapes Go.ChangeAt
theorem own_ : ownKnob Try.prog.godebug = none := by kernel_rfl
theorem laid_ : laidOutB Try.prog = true := by kernel_rfl
set_option maxRecDepth 100000 in
theorem contract_ (H : Type) (enc : TypeId × Value → H) (W : World) (base : Nat) (args : Array Value) (ds gs : List (DataW H)) (before : List MemPlace)
    (hval : ∀ (j : Nat) t v, Try.f4.params[j]? = some t → args[j]? = some v → Value.okWide Try.prog W .any base t v)
    (hW : DataW.Whole enc Try.prog Try.f4.params.toList Rows.fnExactCanFillSpec.vars false W args.toList ds gs before) :
    Calls Try.prog 4 args W fun e W' => ∃ v, e = .returned v ∧ Rows.fnExactCanFillSpec.post enc Try.prog Try.f4 false true false false W args v W' := by
  have hW' := hW
  obtain ⟨p, q, hA0, hV, rfl, hfz, hnd⟩ := hW
  have hA : DataW.TrodAll enc Try.prog W 0 (fun _ => true) true Try.f4.params.toList args.toList ds p := hA0
  rw [Try.params4] at hA hval
  obtain ⟨v0, vs0, d0, ds0, p0, q0, hargs, rfl, rfl, h0, r0⟩ := trodAll_cons hA
  obtain ⟨v1, vs1, d1, ds1, p1, q1, rfl, rfl, rfl, h1, r1⟩ := trodAll_cons r0
  obtain ⟨v2, vs2, d2, ds2, p2, q2, rfl, rfl, rfl, h2, r2⟩ := trodAll_cons r1
  obtain ⟨rfl, rfl, rfl⟩ := trodAll_nil r2
  obtain rfl : args = #[v0, v1, v2] := by cases args; simp_all
  obtain ⟨rfl, rfl⟩ := trodVars_none hV
  obtain ⟨cs0, rfl, hsz0⟩ := okWide_struct Try.underlying24 (hval 0 _ v0 rfl rfl)
  obtain ⟨fuel0, h0⟩ := h0
  obtain ⟨x0, hr0⟩ := opens_load h0
  obtain ⟨A0, c0, e0, hs0, hm0⟩ := hr0.1
  obtain rfl : cs0 = #[.string x0.Appliance, .slice A0 x0.Things.length c0] := Array.toList_inj.1 (by simpa [Value.cells] using e0)
  have ho0 := hr0.2
  have hm0 : (x0.Things.length : Int) ≤ 9223372036854775807 := by unfold maxLen at hm0; omega
  obtain ⟨A1, n1, c1, rfl⟩ := okWide_slice Try.underlying22 (hval 1 _ v1 rfl rfl)
  obtain ⟨fuel1, h1⟩ := h1
  obtain ⟨x1, ⟨A1', c1', e1, hs1, hm1⟩, ho1⟩ := opens_slice Try.underlying22 (by kernel_rfl) (opens_thing) h1
  obtain ⟨rfl, rfl, rfl⟩ : A1 = A1' ∧ n1 = x1.length ∧ c1 = c1' := by simpa [Value.cells] using e1
  have hm1 : (x1.length : Int) ≤ 9223372036854775807 := by unfold maxLen at hm1; omega
  obtain ⟨A2, n2, c2, rfl⟩ := okWide_slice Try.underlying35 (hval 2 _ v2 rfl rfl)
  obtain ⟨fuel2, h2⟩ := h2
  obtain ⟨x2, ⟨A2', c2', e2, hs2, hm2⟩, ho2⟩ := opens_slice Try.underlying35 (by kernel_rfl) (opens_load) h2
  obtain ⟨rfl, rfl, rfl⟩ : A2 = A2' ∧ n2 = x2.length ∧ c2 = c2' := by simpa [Value.cells] using e2
  have hm2 : (x2.length : Int) ≤ 9223372036854775807 := by unfold maxLen at hm2; omega
  refine (walk x0.Appliance x0.Things A0 _ c0 x1 A1 _ c1 x2 A2 _ c2 W hm0 hs0 (fun x hx => (ho0.2 x hx).1) ho0.1 hm1 hs1 (fun x hx => (ho1 x hx).1) hm2 hs2 (fun x hx => ⟨(ho2 x hx).1, fun y hy => ((ho2 x hx).2 y hy).1⟩)).mono fun e W' ⟨he, hb⟩ => ?_
  exact ⟨_, he, post_law laid_ Try.underlying4 rfl rfl (by kernel_rfl) ⟨rfl, rfl, rfl⟩ hW' hb⟩

set_option maxRecDepth 100000 in
theorem lifted_ (os : Os) (started : os.Started) (H : Type) (enc : TypeId × Value → H) :
    ReturnsInHanded {} Try.checked os 4 .any (Rows.fnExactCanFillSpec.pre6 enc Try.prog Try.f4 Rows.fnExactCanFillRow.domain false) (Rows.fnExactCanFillSpec.post enc Try.prog Try.f4 false true false false) := by
  refine returnsInHanded_of_change (C := Try.checked) own_ started (by kernel_rfl) Try.func4
    (ChangeSpec.witness6 (enc := enc) (C := Try.checked) false ⟨#[], #[.agg #[.string ByteArray.empty, .slice none 0 0], .slice none 0 0, .slice none 0 0], []⟩ 8 (by kernel_rfl) (by kernel_rfl) (by kernel_rfl) (by kernel_rfl)) ?_
  intro W base args ds gs before hval0 hW _ _
  exact contract_ H enc W base args ds gs before hval0 hW

theorem proved : Rows.FnExactCanFillSaid :=
  OpenClaim.holds_of_wide 4 Try.f4 rfl rfl rfl rfl rfl rfl rfl ⟨rfl, rfl, rfl, rfl, rfl⟩ rfl rfl rfl rfl rfl (by kernel_rfl) Try.func4 (by kernel_rfl)
    (of_decide_eq_true (by kernel_rfl)) (by unfold Func.isWrapper; first | (rw [if_pos (by decide +kernel)]; kernel_rfl) | (rw [if_neg (by decide +kernel)]; exact ⟨rfl, rfl⟩))
    (fun os started H enc _ => lifted_ os started H enc)

end Go.Proofs.Ytokcgjjnljflaaa.lawCanFill
