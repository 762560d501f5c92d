/-
  The law on CheckThing: it answers true at every input, and every argument reads as before. No conditions.
-/
import Derived.Test.YtmmaddlbaonajaaCheckF
import Derived.Test.YtmmaddlbaonajaaOpL
import Derived.Test.YtmmaddlbaonajaaRows
import Derived.Test.YtmmaddlbaonajaaMem3
namespace Go.Proofs.Ytmmaddlbaonajaa.lawCheckThing
open Go.RowKit

set_option maxRecDepth 100000 in
set_option maxHeartbeats 4000000 in
theorem walk (x0_Appliance : ByteArray) (x0_Things : List Thing) (A0 : Option Addr) (n0 c0 : Nat) (x1 : ByteArray) (x2 : Int) (w : World) (hn0 : (n0 : Int) ≤ 9223372036854775807) (hs0 : Sl w A0 n0 x0_Things) (hv0 : ∀ x, x ∈ x0_Things → x.Name.size ≤ maxLen) (hz0Appliance : x0_Appliance.size ≤ maxLen) (_hx1 : x1.size ≤ maxLen) (_hx2 : -9223372036854775808 ≤ x2 ∧ x2 ≤ 9223372036854775807) :
    Calls Try.prog 9 #[.agg #[.string x0_Appliance, .slice A0 n0 c0], .string x1, .int .i64 x2] w fun e w' => e = .returned (.bool true) ∧ Below w.heap.size w w' := by
  by_cases hz1 : (1048576 : Int) < x1.size
  · have hz1' : decide ((1048576 : Int) < x1.size) = true := by simpa using hz1
    go_enter Try.func9, Try.ntmps9
    go_wp2
    go_ret
    exact ⟨rfl, (by repeat' (first | exact bl_refl _ | refine bl_alloc ?_ _ | refine bl_drew ?_ | refine bl_drewN ?_ _ | refine bl_set ?_ ?_ _ | (simp; done) | (simp; omega)))⟩
  have hz1' : decide ((1048576 : Int) < x1.size) = false := by simpa using hz1
  go_enter Try.func9, Try.ntmps9
  have hk0 := bl_refl w
  go_wp2_with fail
  refine (szLoad_any x0_Appliance _ _ _ x0_Things _ _ hz0Appliance hn0 (hs0.below (bl_trans hk0 (by repeat' (first | exact bl_refl _ | refine bl_alloc ?_ _ | refine bl_drew ?_ | refine bl_drewN ?_ _ | refine bl_set ?_ ?_ _ | (simp; done) | (simp; omega))))) hv0 (by omega) (by omega)).mono ?_
  rintro e V1 ⟨r0, rfl, hr0, hb1⟩
  have hB1 := bl_trans (a := w) (by repeat' (first | exact bl_refl _ | refine bl_alloc ?_ _ | refine bl_drew ?_ | refine bl_drewN ?_ _ | refine bl_set ?_ ?_ _ | (simp; done) | (simp; omega))) hb1
  have hk1 := bl_trans hk0 hB1
  have z1 : Hid (w.heap.size + 1 ≤ V1.heap.size) := by have := hb1.size; simp only [World.size_alloc] at this; exact (by omega : _)
  have ba0_0_1 : V1.cell? ⟨w.heap.size, 0, none⟩ = some (.string x0_Appliance) := cell_later hb1 (by go_simp)
  have ba0_1_1 : V1.cell? ⟨w.heap.size, 1, none⟩ = some (.slice A0 n0 c0) := cell_later hb1 (by go_simp)
  have la0_1 : w.heap.size < V1.heap.size := World.block_lt_of_cell? _ _ ba0_0_1
  clear hb1
  rcases hr0 with rfl | ⟨ha0, hc0, hp0⟩
  · go_wp2
    go_ret
    exact ⟨rfl, hk1⟩
  have hl0 : n0 ≤ 1048576 := by have := hp0; omega
  have hL0 : x0_Things.length ≤ 1048576 := by rw [hs0.1]; exact hl0
  clear hp0
  go_wp2_with fail
  refine (toLoad_any x0_Appliance _ _ _ x0_Things _ hl0 (hs0.below hk1)).mono ?_
  rintro e V2 ⟨A_s0, c_s0, rfl, ho_s0, hb2⟩
  have hi_s0 := ho_s0.lies
  have Hi_s0 := Lib.hid hi_s0
  clear hi_s0
  have hB2 := bl_trans (a := V1) (bl_refl _) hb2
  have hk2 := bl_trans hk1 hB2
  have z2 := Lib.hid hB2.size
  have ba0_0_2 : V2.cell? ⟨w.heap.size, 0, none⟩ = some (.string x0_Appliance) := cell_later hB2 ba0_0_1
  have ba0_1_2 : V2.cell? ⟨w.heap.size, 1, none⟩ = some (.slice A0 n0 c0) := cell_later hB2 ba0_1_1
  have la0_2 : w.heap.size < V2.heap.size := World.block_lt_of_cell? _ _ ba0_0_2
  clear hk1 ba0_0_1 ba0_1_1 la0_1
  clear hb2
  have hR : (checkF (⟨x0_Appliance, x0_Things⟩ : Load) x1 x2).1.Things.length ≤ 1048576 := checkF_len (⟨x0_Appliance, x0_Things⟩ : Load) x1 x2
  go_wp2_with fail
  refine (specCheckThing_any x0_Appliance x0_Things x1 x2 _ _ _ _ hz0Appliance (by omega) ho_s0.sl hv0).mono ?_
  rintro e V3 ⟨A_w0, c_w0, rfl, ho_w0, hb3⟩
  have hi_w0 := ho_w0.lies
  have Hi_w0 := Lib.hid hi_w0
  clear hi_w0
  clear ho_s0 Hi_s0
  have hB3 := bl_trans (a := V2) (bl_refl _) hb3
  have hk3 := bl_trans hk2 hB3
  have z3 := Lib.hid hB3.size
  have ba0_0_3 : V3.cell? ⟨w.heap.size, 0, none⟩ = some (.string x0_Appliance) := cell_later hB3 ba0_0_2
  have ba0_1_3 : V3.cell? ⟨w.heap.size, 1, none⟩ = some (.slice A0 n0 c0) := cell_later hB3 ba0_1_2
  have la0_3 : w.heap.size < V3.heap.size := World.block_lt_of_cell? _ _ ba0_0_3
  clear hk2 ba0_0_2 ba0_1_2 la0_2
  clear hb3
  go_wp2_with fail
  refine (toLoad_any x0_Appliance _ _ _ x0_Things _ hl0 (hs0.below (bl_trans hk3 (by repeat' (first | exact bl_refl _ | refine bl_alloc ?_ _ | refine bl_drew ?_ | refine bl_drewN ?_ _ | refine bl_set ?_ ?_ _ | (simp; done) | (simp; omega)))))).mono ?_
  rintro e V4 ⟨A_x0, c_x0, rfl, ho_x0, hb4⟩
  have hi_x0 := ho_x0.lies
  have Hi_x0 := Lib.hid hi_x0
  clear hi_x0
  have hB4 := bl_trans (a := V3) (by repeat' (first | exact bl_refl _ | refine bl_alloc ?_ _ | refine bl_drew ?_ | refine bl_drewN ?_ _ | refine bl_set ?_ ?_ _ | (simp; done) | (simp; omega))) hb4
  have hk4 := bl_trans hk3 hB4
  have z4 : Hid (V3.heap.size + 1 ≤ V4.heap.size) := by have := hb4.size; simp only [World.size_alloc] at this; exact (by omega : _)
  have w0_4 := ho_w0.below hB4
  have ba0_0_4 : V4.cell? ⟨w.heap.size, 0, none⟩ = some (.string x0_Appliance) := cell_later hB4 ba0_0_3
  have ba0_1_4 : V4.cell? ⟨w.heap.size, 1, none⟩ = some (.slice A0 n0 c0) := cell_later hB4 ba0_1_3
  have la0_4 : w.heap.size < V4.heap.size := World.block_lt_of_cell? _ _ ba0_0_4
  have bw0_0_4 : V4.cell? ⟨V3.heap.size, 0, none⟩ = some (.string (checkF (⟨x0_Appliance, x0_Things⟩ : Load) x1 x2).1.Appliance) := cell_later hb4 (by go_simp)
  have bw0_1_4 : V4.cell? ⟨V3.heap.size, 1, none⟩ = some (.slice A_w0 (checkF (⟨x0_Appliance, x0_Things⟩ : Load) x1 x2).1.Things.length c_w0) := cell_later hb4 (by go_simp)
  have lw0_4 : V3.heap.size < V4.heap.size := World.block_lt_of_cell? _ _ bw0_0_4
  clear hk3 ho_w0 ba0_0_3 ba0_1_3 la0_3
  clear hb4
  go_wp2_with fail
  refine (implCheckThing_any x0_Appliance x0_Things x1 x2 _ _ _ _ hz0Appliance (by omega) (ho_x0.sl.below (by repeat' (first | exact bl_refl _ | refine bl_alloc ?_ _ | refine bl_drew ?_ | refine bl_drewN ?_ _ | refine bl_set ?_ ?_ _ | (simp; done) | (simp; omega)))) hv0).mono ?_
  rintro e V5 ⟨A_g0, c_g0, rfl, ho_g0, hb5⟩
  have hi_g0 := ho_g0.lies
  have Hi_g0 := Lib.hid hi_g0
  clear hi_g0
  have hB5 := bl_trans (a := V4) (by repeat' (first | exact bl_refl _ | refine bl_alloc ?_ _ | refine bl_drew ?_ | refine bl_drewN ?_ _ | refine bl_set ?_ ?_ _ | (simp; done) | (simp; omega))) hb5
  have hk5 := bl_trans hk4 hB5
  have z5 : Hid (V4.heap.size + 1 ≤ V5.heap.size) := by have := hb5.size; simp only [World.size_alloc] at this; exact (by omega : _)
  have w0_5 := w0_4.below hB5
  have x0_5 := ho_x0.below hB5
  have ba0_0_5 : V5.cell? ⟨w.heap.size, 0, none⟩ = some (.string x0_Appliance) := cell_later hB5 ba0_0_4
  have ba0_1_5 : V5.cell? ⟨w.heap.size, 1, none⟩ = some (.slice A0 n0 c0) := cell_later hB5 ba0_1_4
  have la0_5 : w.heap.size < V5.heap.size := World.block_lt_of_cell? _ _ ba0_0_5
  have bw0_0_5 : V5.cell? ⟨V3.heap.size, 0, none⟩ = some (.string (checkF (⟨x0_Appliance, x0_Things⟩ : Load) x1 x2).1.Appliance) := cell_later hB5 bw0_0_4
  have bw0_1_5 : V5.cell? ⟨V3.heap.size, 1, none⟩ = some (.slice A_w0 (checkF (⟨x0_Appliance, x0_Things⟩ : Load) x1 x2).1.Things.length c_w0) := cell_later hB5 bw0_1_4
  have lw0_5 : V3.heap.size < V5.heap.size := World.block_lt_of_cell? _ _ bw0_0_5
  have bx0_0_5 : V5.cell? ⟨V4.heap.size, 0, none⟩ = some (.string x0_Appliance) := cell_later hb5 (by go_simp)
  have bx0_1_5 : V5.cell? ⟨V4.heap.size, 1, none⟩ = some (.slice A_x0 x0_Things.length c_x0) := cell_later hb5 (by go_simp)
  have lx0_5 : V4.heap.size < V5.heap.size := World.block_lt_of_cell? _ _ bx0_0_5
  clear hk4 w0_4 ho_x0 ba0_0_4 ba0_1_4 la0_4 bw0_0_4 bw0_1_4 lw0_4
  clear hb5
  go_wp2_with fail
  refine (eqLoad_any _ _ _ _ _ _ _ _ _ _ _ (by omega) (ho_g0.sl.below (by repeat' (first | exact bl_refl _ | refine bl_alloc ?_ _ | refine bl_drew ?_ | refine bl_drewN ?_ _ | refine bl_set ?_ ?_ _ | (simp; done) | (simp; omega)))) (w0_5.sl.below (by repeat' (first | exact bl_refl _ | refine bl_alloc ?_ _ | refine bl_drew ?_ | refine bl_drewN ?_ _ | refine bl_set ?_ ?_ _ | (simp; done) | (simp; omega))))).mono ?_
  rintro e V6 ⟨rfl, hb6⟩
  rw [sameB_refl]
  have hB6 := bl_trans (a := V5) (by repeat' (first | exact bl_refl _ | refine bl_alloc ?_ _ | refine bl_drew ?_ | refine bl_drewN ?_ _ | refine bl_set ?_ ?_ _ | (simp; done) | (simp; omega))) hb6
  have hk6 := bl_trans hk5 hB6
  have z6 : Hid (V5.heap.size + 1 ≤ V6.heap.size) := by have := hb6.size; simp only [World.size_alloc] at this; exact (by omega : _)
  have w0_6 := w0_5.below hB6
  have x0_6 := x0_5.below hB6
  have g0_6 := ho_g0.below hB6
  have ba0_0_6 : V6.cell? ⟨w.heap.size, 0, none⟩ = some (.string x0_Appliance) := cell_later hB6 ba0_0_5
  have ba0_1_6 : V6.cell? ⟨w.heap.size, 1, none⟩ = some (.slice A0 n0 c0) := cell_later hB6 ba0_1_5
  have la0_6 : w.heap.size < V6.heap.size := World.block_lt_of_cell? _ _ ba0_0_6
  have bw0_0_6 : V6.cell? ⟨V3.heap.size, 0, none⟩ = some (.string (checkF (⟨x0_Appliance, x0_Things⟩ : Load) x1 x2).1.Appliance) := cell_later hB6 bw0_0_5
  have bw0_1_6 : V6.cell? ⟨V3.heap.size, 1, none⟩ = some (.slice A_w0 (checkF (⟨x0_Appliance, x0_Things⟩ : Load) x1 x2).1.Things.length c_w0) := cell_later hB6 bw0_1_5
  have lw0_6 : V3.heap.size < V6.heap.size := World.block_lt_of_cell? _ _ bw0_0_6
  have bx0_0_6 : V6.cell? ⟨V4.heap.size, 0, none⟩ = some (.string x0_Appliance) := cell_later hB6 bx0_0_5
  have bx0_1_6 : V6.cell? ⟨V4.heap.size, 1, none⟩ = some (.slice A_x0 x0_Things.length c_x0) := cell_later hB6 bx0_1_5
  have lx0_6 : V4.heap.size < V6.heap.size := World.block_lt_of_cell? _ _ bx0_0_6
  have bg0_0_6 : V6.cell? ⟨V5.heap.size, 0, none⟩ = some (.string (checkF (⟨x0_Appliance, x0_Things⟩ : Load) x1 x2).1.Appliance) := cell_later hb6 (by go_simp)
  have bg0_1_6 : V6.cell? ⟨V5.heap.size, 1, none⟩ = some (.slice A_g0 (checkF (⟨x0_Appliance, x0_Things⟩ : Load) x1 x2).1.Things.length c_g0) := cell_later hb6 (by go_simp)
  have lg0_6 : V5.heap.size < V6.heap.size := World.block_lt_of_cell? _ _ bg0_0_6
  clear hk5 w0_5 x0_5 ho_g0 ba0_0_5 ba0_1_5 la0_5 bw0_0_5 bw0_1_5 lw0_5 bx0_0_5 bx0_1_5 lx0_5
  clear hb6
  have hD8 := bl_drew (bl_refl V6)
  go_wp2_with fail
  go_region_held3 (fun w' => w'.cell? ⟨V4.heap.size, 0, none⟩ = some (.string x0_Appliance) ∧ w'.cell? ⟨V4.heap.size, 1, none⟩ = some (.slice A_x0 x0_Things.length c_x0) ∧ w'.cell? ⟨w.heap.size, 0, none⟩ = some (.string x0_Appliance) ∧ w'.cell? ⟨w.heap.size, 1, none⟩ = some (.slice A0 n0 c0) ∧ Below V6.heap.size V6 w') (first | exact ⟨cell_later hE8 bx0_0_6, cell_later hE8 bx0_1_6, cell_later hE8 ba0_0_6, cell_later hE8 ba0_1_6, hE8⟩ | exact ⟨cell_later hE7 bx0_0_6, cell_later hE7 bx0_1_6, cell_later hE7 ba0_0_6, cell_later hE7 ba0_1_6, hE7⟩ | exact ⟨cell_later hD8 bx0_0_6, cell_later hD8 bx0_1_6, cell_later hD8 ba0_0_6, cell_later hD8 ba0_1_6, hD8⟩) (first | (go_at_call 20; refine (toLoad_any x0_Appliance _ _ _ x0_Things _ hl0 (hs0.below (bl_trans hk6 hD8))).mono ?_; rintro e V7 ⟨A_y0, c_y0, rfl, ho_y0, hb7⟩; have hE7 := bl_trans hD8 hb7) | (go_at_call 22; refine (eqLoad_any _ _ _ _ _ _ _ _ _ _ _ (by omega) (x0_6.sl.below hE7) ho_y0.sl).mono ?_; rintro e V8 ⟨rfl, hb8⟩; have hE8 := bl_trans hE7 hb8))
  rw [sameB_refl]
  have hb8 := hE8
  clear hD8 hE7 hb7 ho_y0
  have hB8 := bl_trans (a := V6) (bl_refl _) hb8
  have hk8 := bl_trans hk6 hB8
  have z8 := Lib.hid hB8.size
  have w0_8 := w0_6.below hB8
  have x0_8 := x0_6.below hB8
  have g0_8 := g0_6.below hB8
  have ba0_0_8 : V8.cell? ⟨w.heap.size, 0, none⟩ = some (.string x0_Appliance) := cell_later hB8 ba0_0_6
  have ba0_1_8 : V8.cell? ⟨w.heap.size, 1, none⟩ = some (.slice A0 n0 c0) := cell_later hB8 ba0_1_6
  have la0_8 : w.heap.size < V8.heap.size := World.block_lt_of_cell? _ _ ba0_0_8
  have bw0_0_8 : V8.cell? ⟨V3.heap.size, 0, none⟩ = some (.string (checkF (⟨x0_Appliance, x0_Things⟩ : Load) x1 x2).1.Appliance) := cell_later hB8 bw0_0_6
  have bw0_1_8 : V8.cell? ⟨V3.heap.size, 1, none⟩ = some (.slice A_w0 (checkF (⟨x0_Appliance, x0_Things⟩ : Load) x1 x2).1.Things.length c_w0) := cell_later hB8 bw0_1_6
  have lw0_8 : V3.heap.size < V8.heap.size := World.block_lt_of_cell? _ _ bw0_0_8
  have bx0_0_8 : V8.cell? ⟨V4.heap.size, 0, none⟩ = some (.string x0_Appliance) := cell_later hB8 bx0_0_6
  have bx0_1_8 : V8.cell? ⟨V4.heap.size, 1, none⟩ = some (.slice A_x0 x0_Things.length c_x0) := cell_later hB8 bx0_1_6
  have lx0_8 : V4.heap.size < V8.heap.size := World.block_lt_of_cell? _ _ bx0_0_8
  have bg0_0_8 : V8.cell? ⟨V5.heap.size, 0, none⟩ = some (.string (checkF (⟨x0_Appliance, x0_Things⟩ : Load) x1 x2).1.Appliance) := cell_later hB8 bg0_0_6
  have bg0_1_8 : V8.cell? ⟨V5.heap.size, 1, none⟩ = some (.slice A_g0 (checkF (⟨x0_Appliance, x0_Things⟩ : Load) x1 x2).1.Things.length c_g0) := cell_later hB8 bg0_1_6
  have lg0_8 : V5.heap.size < V8.heap.size := World.block_lt_of_cell? _ _ bg0_0_8
  clear hk6 w0_6 x0_6 g0_6 ba0_0_6 ba0_1_6 la0_6 bw0_0_6 bw0_1_6 lw0_6 bx0_0_6 bx0_1_6 lx0_6 bg0_0_6 bg0_1_6 lg0_6
  clear hb8
  go_wp2_with fail
  refine (markLoad_any _ _ _ _ _ _ _ _ (by omega) (by omega) (by omega) x0_8).mono ?_
  rintro e V9 ⟨rfl, hm9, hg9⟩
  have hf9 := OnlyF.of_gb hg9
  have hk9 := below_only hk8 hf9 Hi_x0.out (by (try simp only [World.size_alloc]); (try simp only [World.size_drew]); have := z1.out; have := z2.out; have := z3.out; have := z4.out; have := z5.out; have := z6.out; have := z8.out; omega)
  have z9 := Lib.hid hf9.size
  have w0_9 := w0_8.only hf9 (Hi_w0.out.apart Hi_x0.out (by (try simp only [World.size_alloc]); (try simp only [World.size_drew]); have := z1.out; have := z2.out; have := z3.out; have := z4.out; have := z5.out; have := z6.out; have := z8.out; have := z9.out; omega))
  have g0_9 := g0_8.only hf9 (Hi_g0.out.apart Hi_x0.out (by (try simp only [World.size_alloc]); (try simp only [World.size_drew]); have := z1.out; have := z2.out; have := z3.out; have := z4.out; have := z5.out; have := z6.out; have := z8.out; have := z9.out; omega))
  have ba0_0_9 : V9.cell? ⟨w.heap.size, 0, none⟩ = some (.string x0_Appliance) := hf9.keeps ba0_0_8 (fun hm => by have := Hi_x0.out _ hm; (try dsimp only at this); (try simp only [World.size_alloc] at this); (try simp only [World.size_drew] at this); have := z1.out; have := z2.out; have := z3.out; have := z4.out; have := z5.out; have := z6.out; have := z8.out; have := z9.out; omega)
  have ba0_1_9 : V9.cell? ⟨w.heap.size, 1, none⟩ = some (.slice A0 n0 c0) := hf9.keeps ba0_1_8 (fun hm => by have := Hi_x0.out _ hm; (try dsimp only at this); (try simp only [World.size_alloc] at this); (try simp only [World.size_drew] at this); have := z1.out; have := z2.out; have := z3.out; have := z4.out; have := z5.out; have := z6.out; have := z8.out; have := z9.out; omega)
  have la0_9 : w.heap.size < V9.heap.size := World.block_lt_of_cell? _ _ ba0_0_9
  have bw0_0_9 : V9.cell? ⟨V3.heap.size, 0, none⟩ = some (.string (checkF (⟨x0_Appliance, x0_Things⟩ : Load) x1 x2).1.Appliance) := hf9.keeps bw0_0_8 (fun hm => by have := Hi_x0.out _ hm; (try dsimp only at this); (try simp only [World.size_alloc] at this); (try simp only [World.size_drew] at this); have := z1.out; have := z2.out; have := z3.out; have := z4.out; have := z5.out; have := z6.out; have := z8.out; have := z9.out; omega)
  have bw0_1_9 : V9.cell? ⟨V3.heap.size, 1, none⟩ = some (.slice A_w0 (checkF (⟨x0_Appliance, x0_Things⟩ : Load) x1 x2).1.Things.length c_w0) := hf9.keeps bw0_1_8 (fun hm => by have := Hi_x0.out _ hm; (try dsimp only at this); (try simp only [World.size_alloc] at this); (try simp only [World.size_drew] at this); have := z1.out; have := z2.out; have := z3.out; have := z4.out; have := z5.out; have := z6.out; have := z8.out; have := z9.out; omega)
  have lw0_9 : V3.heap.size < V9.heap.size := World.block_lt_of_cell? _ _ bw0_0_9
  have bx0_0_9 : V9.cell? ⟨V4.heap.size, 0, none⟩ = some (.string x0_Appliance) := hf9.keeps bx0_0_8 (fun hm => by have := Hi_x0.out _ hm; (try dsimp only at this); (try simp only [World.size_alloc] at this); (try simp only [World.size_drew] at this); have := z1.out; have := z2.out; have := z3.out; have := z4.out; have := z5.out; have := z6.out; have := z8.out; have := z9.out; omega)
  have bx0_1_9 : V9.cell? ⟨V4.heap.size, 1, none⟩ = some (.slice A_x0 x0_Things.length c_x0) := hf9.keeps bx0_1_8 (fun hm => by have := Hi_x0.out _ hm; (try dsimp only at this); (try simp only [World.size_alloc] at this); (try simp only [World.size_drew] at this); have := z1.out; have := z2.out; have := z3.out; have := z4.out; have := z5.out; have := z6.out; have := z8.out; have := z9.out; omega)
  have lx0_9 : V4.heap.size < V9.heap.size := World.block_lt_of_cell? _ _ bx0_0_9
  have bg0_0_9 : V9.cell? ⟨V5.heap.size, 0, none⟩ = some (.string (checkF (⟨x0_Appliance, x0_Things⟩ : Load) x1 x2).1.Appliance) := hf9.keeps bg0_0_8 (fun hm => by have := Hi_x0.out _ hm; (try dsimp only at this); (try simp only [World.size_alloc] at this); (try simp only [World.size_drew] at this); have := z1.out; have := z2.out; have := z3.out; have := z4.out; have := z5.out; have := z6.out; have := z8.out; have := z9.out; omega)
  have bg0_1_9 : V9.cell? ⟨V5.heap.size, 1, none⟩ = some (.slice A_g0 (checkF (⟨x0_Appliance, x0_Things⟩ : Load) x1 x2).1.Things.length c_g0) := hf9.keeps bg0_1_8 (fun hm => by have := Hi_x0.out _ hm; (try dsimp only at this); (try simp only [World.size_alloc] at this); (try simp only [World.size_drew] at this); have := z1.out; have := z2.out; have := z3.out; have := z4.out; have := z5.out; have := z6.out; have := z8.out; have := z9.out; omega)
  have lg0_9 : V5.heap.size < V9.heap.size := World.block_lt_of_cell? _ _ bg0_0_9
  clear hk8 x0_8 w0_8 g0_8 ba0_0_8 ba0_1_8 la0_8 bw0_0_8 bw0_1_8 lw0_8 bx0_0_8 bx0_1_8 lx0_8 bg0_0_8 bg0_1_8 lg0_8 hg9 hf9
  clear hm9 Hi_x0 bx0_0_9 bx0_1_9 lx0_9
  go_wp2_with fail
  refine (eqLoad_any _ _ _ _ _ _ _ _ _ _ _ (by omega) g0_9.sl w0_9.sl).mono ?_
  rintro e V10 ⟨rfl, hb10⟩
  rw [sameB_refl]
  have hB10 := bl_trans (a := V9) (bl_refl _) hb10
  have hk10 := bl_trans hk9 hB10
  have z10 := Lib.hid hB10.size
  have w0_10 := w0_9.below hB10
  have g0_10 := g0_9.below hB10
  have ba0_0_10 : V10.cell? ⟨w.heap.size, 0, none⟩ = some (.string x0_Appliance) := cell_later hB10 ba0_0_9
  have ba0_1_10 : V10.cell? ⟨w.heap.size, 1, none⟩ = some (.slice A0 n0 c0) := cell_later hB10 ba0_1_9
  have la0_10 : w.heap.size < V10.heap.size := World.block_lt_of_cell? _ _ ba0_0_10
  have bw0_0_10 : V10.cell? ⟨V3.heap.size, 0, none⟩ = some (.string (checkF (⟨x0_Appliance, x0_Things⟩ : Load) x1 x2).1.Appliance) := cell_later hB10 bw0_0_9
  have bw0_1_10 : V10.cell? ⟨V3.heap.size, 1, none⟩ = some (.slice A_w0 (checkF (⟨x0_Appliance, x0_Things⟩ : Load) x1 x2).1.Things.length c_w0) := cell_later hB10 bw0_1_9
  have lw0_10 : V3.heap.size < V10.heap.size := World.block_lt_of_cell? _ _ bw0_0_10
  have bg0_0_10 : V10.cell? ⟨V5.heap.size, 0, none⟩ = some (.string (checkF (⟨x0_Appliance, x0_Things⟩ : Load) x1 x2).1.Appliance) := cell_later hB10 bg0_0_9
  have bg0_1_10 : V10.cell? ⟨V5.heap.size, 1, none⟩ = some (.slice A_g0 (checkF (⟨x0_Appliance, x0_Things⟩ : Load) x1 x2).1.Things.length c_g0) := cell_later hB10 bg0_1_9
  have lg0_10 : V5.heap.size < V10.heap.size := World.block_lt_of_cell? _ _ bg0_0_10
  clear hk9 w0_9 g0_9 ba0_0_9 ba0_1_9 la0_9 bw0_0_9 bw0_1_9 lw0_9 bg0_0_9 bg0_1_9 lg0_9
  clear hb10
  go_wp2_with fail
  refine (markLoad_any _ _ _ _ _ _ _ _ (by omega) (by omega) (by omega) g0_10).mono ?_
  rintro e V11 ⟨rfl, hm11, hg11⟩
  have hf11 := OnlyF.of_gb hg11
  have hk11 := below_only hk10 hf11 Hi_g0.out (by (try simp only [World.size_alloc]); (try simp only [World.size_drew]); have := z1.out; have := z2.out; have := z3.out; have := z4.out; have := z5.out; have := z6.out; have := z8.out; have := z9.out; have := z10.out; omega)
  have z11 := Lib.hid hf11.size
  have w0_11 := w0_10.only hf11 (Hi_w0.out.apart Hi_g0.out (by (try simp only [World.size_alloc]); (try simp only [World.size_drew]); have := z1.out; have := z2.out; have := z3.out; have := z4.out; have := z5.out; have := z6.out; have := z8.out; have := z9.out; have := z10.out; have := z11.out; omega))
  have ba0_0_11 : V11.cell? ⟨w.heap.size, 0, none⟩ = some (.string x0_Appliance) := hf11.keeps ba0_0_10 (fun hm => by have := Hi_g0.out _ hm; (try dsimp only at this); (try simp only [World.size_alloc] at this); (try simp only [World.size_drew] at this); have := z1.out; have := z2.out; have := z3.out; have := z4.out; have := z5.out; have := z6.out; have := z8.out; have := z9.out; have := z10.out; have := z11.out; omega)
  have ba0_1_11 : V11.cell? ⟨w.heap.size, 1, none⟩ = some (.slice A0 n0 c0) := hf11.keeps ba0_1_10 (fun hm => by have := Hi_g0.out _ hm; (try dsimp only at this); (try simp only [World.size_alloc] at this); (try simp only [World.size_drew] at this); have := z1.out; have := z2.out; have := z3.out; have := z4.out; have := z5.out; have := z6.out; have := z8.out; have := z9.out; have := z10.out; have := z11.out; omega)
  have la0_11 : w.heap.size < V11.heap.size := World.block_lt_of_cell? _ _ ba0_0_11
  have bw0_0_11 : V11.cell? ⟨V3.heap.size, 0, none⟩ = some (.string (checkF (⟨x0_Appliance, x0_Things⟩ : Load) x1 x2).1.Appliance) := hf11.keeps bw0_0_10 (fun hm => by have := Hi_g0.out _ hm; (try dsimp only at this); (try simp only [World.size_alloc] at this); (try simp only [World.size_drew] at this); have := z1.out; have := z2.out; have := z3.out; have := z4.out; have := z5.out; have := z6.out; have := z8.out; have := z9.out; have := z10.out; have := z11.out; omega)
  have bw0_1_11 : V11.cell? ⟨V3.heap.size, 1, none⟩ = some (.slice A_w0 (checkF (⟨x0_Appliance, x0_Things⟩ : Load) x1 x2).1.Things.length c_w0) := hf11.keeps bw0_1_10 (fun hm => by have := Hi_g0.out _ hm; (try dsimp only at this); (try simp only [World.size_alloc] at this); (try simp only [World.size_drew] at this); have := z1.out; have := z2.out; have := z3.out; have := z4.out; have := z5.out; have := z6.out; have := z8.out; have := z9.out; have := z10.out; have := z11.out; omega)
  have lw0_11 : V3.heap.size < V11.heap.size := World.block_lt_of_cell? _ _ bw0_0_11
  have bg0_0_11 : V11.cell? ⟨V5.heap.size, 0, none⟩ = some (.string (checkF (⟨x0_Appliance, x0_Things⟩ : Load) x1 x2).1.Appliance) := hf11.keeps bg0_0_10 (fun hm => by have := Hi_g0.out _ hm; (try dsimp only at this); (try simp only [World.size_alloc] at this); (try simp only [World.size_drew] at this); have := z1.out; have := z2.out; have := z3.out; have := z4.out; have := z5.out; have := z6.out; have := z8.out; have := z9.out; have := z10.out; have := z11.out; omega)
  have bg0_1_11 : V11.cell? ⟨V5.heap.size, 1, none⟩ = some (.slice A_g0 (checkF (⟨x0_Appliance, x0_Things⟩ : Load) x1 x2).1.Things.length c_g0) := hf11.keeps bg0_1_10 (fun hm => by have := Hi_g0.out _ hm; (try dsimp only at this); (try simp only [World.size_alloc] at this); (try simp only [World.size_drew] at this); have := z1.out; have := z2.out; have := z3.out; have := z4.out; have := z5.out; have := z6.out; have := z8.out; have := z9.out; have := z10.out; have := z11.out; omega)
  have lg0_11 : V5.heap.size < V11.heap.size := World.block_lt_of_cell? _ _ bg0_0_11
  clear hk10 g0_10 w0_10 ba0_0_10 ba0_1_10 la0_10 bw0_0_10 bw0_1_10 lw0_10 bg0_0_10 bg0_1_10 lg0_10 hg11 hf11
  go_wp2_with fail
  refine (heldLoad_any _ _ _ _ _ _ (by omega) (by omega) (by omega) hm11.sl).mono ?_
  rintro e V12 ⟨rfl, hb12⟩
  have hB12 := bl_trans (a := V11) (bl_refl _) hb12
  have hk12 := bl_trans hk11 hB12
  have z12 := Lib.hid hB12.size
  have w0_12 := w0_11.below hB12
  have g0_12 := hm11.below hB12
  have ba0_0_12 : V12.cell? ⟨w.heap.size, 0, none⟩ = some (.string x0_Appliance) := cell_later hB12 ba0_0_11
  have ba0_1_12 : V12.cell? ⟨w.heap.size, 1, none⟩ = some (.slice A0 n0 c0) := cell_later hB12 ba0_1_11
  have la0_12 : w.heap.size < V12.heap.size := World.block_lt_of_cell? _ _ ba0_0_12
  have bw0_0_12 : V12.cell? ⟨V3.heap.size, 0, none⟩ = some (.string (checkF (⟨x0_Appliance, x0_Things⟩ : Load) x1 x2).1.Appliance) := cell_later hB12 bw0_0_11
  have bw0_1_12 : V12.cell? ⟨V3.heap.size, 1, none⟩ = some (.slice A_w0 (checkF (⟨x0_Appliance, x0_Things⟩ : Load) x1 x2).1.Things.length c_w0) := cell_later hB12 bw0_1_11
  have lw0_12 : V3.heap.size < V12.heap.size := World.block_lt_of_cell? _ _ bw0_0_12
  have bg0_0_12 : V12.cell? ⟨V5.heap.size, 0, none⟩ = some (.string (checkF (⟨x0_Appliance, x0_Things⟩ : Load) x1 x2).1.Appliance) := cell_later hB12 bg0_0_11
  have bg0_1_12 : V12.cell? ⟨V5.heap.size, 1, none⟩ = some (.slice A_g0 (checkF (⟨x0_Appliance, x0_Things⟩ : Load) x1 x2).1.Things.length c_g0) := cell_later hB12 bg0_1_11
  have lg0_12 : V5.heap.size < V12.heap.size := World.block_lt_of_cell? _ _ bg0_0_12
  clear hk11 w0_11 hm11 ba0_0_11 ba0_1_11 la0_11 bw0_0_11 bw0_1_11 lw0_11 bg0_0_11 bg0_1_11 lg0_11
  clear hb12
  go_wp2_with fail
  refine (toLoad_any x0_Appliance _ _ _ x0_Things _ hl0 (hs0.below hk12)).mono ?_
  rintro e V13 ⟨A_t0, c_t0, rfl, ho_t0, hb13⟩
  have hi_t0 := ho_t0.lies
  have Hi_t0 := Lib.hid hi_t0
  clear hi_t0
  have hB13 := bl_trans (a := V12) (bl_refl _) hb13
  have hk13 := bl_trans hk12 hB13
  have z13 := Lib.hid hB13.size
  have w0_13 := w0_12.below hB13
  have g0_13 := g0_12.below hB13
  have ba0_0_13 : V13.cell? ⟨w.heap.size, 0, none⟩ = some (.string x0_Appliance) := cell_later hB13 ba0_0_12
  have ba0_1_13 : V13.cell? ⟨w.heap.size, 1, none⟩ = some (.slice A0 n0 c0) := cell_later hB13 ba0_1_12
  have la0_13 : w.heap.size < V13.heap.size := World.block_lt_of_cell? _ _ ba0_0_13
  have bw0_0_13 : V13.cell? ⟨V3.heap.size, 0, none⟩ = some (.string (checkF (⟨x0_Appliance, x0_Things⟩ : Load) x1 x2).1.Appliance) := cell_later hB13 bw0_0_12
  have bw0_1_13 : V13.cell? ⟨V3.heap.size, 1, none⟩ = some (.slice A_w0 (checkF (⟨x0_Appliance, x0_Things⟩ : Load) x1 x2).1.Things.length c_w0) := cell_later hB13 bw0_1_12
  have lw0_13 : V3.heap.size < V13.heap.size := World.block_lt_of_cell? _ _ bw0_0_13
  have bg0_0_13 : V13.cell? ⟨V5.heap.size, 0, none⟩ = some (.string (checkF (⟨x0_Appliance, x0_Things⟩ : Load) x1 x2).1.Appliance) := cell_later hB13 bg0_0_12
  have bg0_1_13 : V13.cell? ⟨V5.heap.size, 1, none⟩ = some (.slice A_g0 (checkF (⟨x0_Appliance, x0_Things⟩ : Load) x1 x2).1.Things.length c_g0) := cell_later hB13 bg0_1_12
  have lg0_13 : V5.heap.size < V13.heap.size := World.block_lt_of_cell? _ _ bg0_0_13
  clear hk12 w0_12 g0_12 ba0_0_12 ba0_1_12 la0_12 bw0_0_12 bw0_1_12 lw0_12 bg0_0_12 bg0_1_12 lg0_12
  clear hb13
  go_wp2_with fail
  refine (implCheckThing_any x0_Appliance x0_Things x1 x2 _ _ _ _ hz0Appliance (by omega) ho_t0.sl hv0).mono ?_
  rintro e V14 ⟨A_h0, c_h0, rfl, ho_h0, hb14⟩
  have hi_h0 := ho_h0.lies
  have Hi_h0 := Lib.hid hi_h0
  clear hi_h0
  clear ho_t0 Hi_t0
  have hB14 := bl_trans (a := V13) (bl_refl _) hb14
  have hk14 := bl_trans hk13 hB14
  have z14 := Lib.hid hB14.size
  have w0_14 := w0_13.below hB14
  have g0_14 := g0_13.below hB14
  have ba0_0_14 : V14.cell? ⟨w.heap.size, 0, none⟩ = some (.string x0_Appliance) := cell_later hB14 ba0_0_13
  have ba0_1_14 : V14.cell? ⟨w.heap.size, 1, none⟩ = some (.slice A0 n0 c0) := cell_later hB14 ba0_1_13
  have la0_14 : w.heap.size < V14.heap.size := World.block_lt_of_cell? _ _ ba0_0_14
  have bw0_0_14 : V14.cell? ⟨V3.heap.size, 0, none⟩ = some (.string (checkF (⟨x0_Appliance, x0_Things⟩ : Load) x1 x2).1.Appliance) := cell_later hB14 bw0_0_13
  have bw0_1_14 : V14.cell? ⟨V3.heap.size, 1, none⟩ = some (.slice A_w0 (checkF (⟨x0_Appliance, x0_Things⟩ : Load) x1 x2).1.Things.length c_w0) := cell_later hB14 bw0_1_13
  have lw0_14 : V3.heap.size < V14.heap.size := World.block_lt_of_cell? _ _ bw0_0_14
  have bg0_0_14 : V14.cell? ⟨V5.heap.size, 0, none⟩ = some (.string (checkF (⟨x0_Appliance, x0_Things⟩ : Load) x1 x2).1.Appliance) := cell_later hB14 bg0_0_13
  have bg0_1_14 : V14.cell? ⟨V5.heap.size, 1, none⟩ = some (.slice A_g0 (checkF (⟨x0_Appliance, x0_Things⟩ : Load) x1 x2).1.Things.length c_g0) := cell_later hB14 bg0_1_13
  have lg0_14 : V5.heap.size < V14.heap.size := World.block_lt_of_cell? _ _ bg0_0_14
  clear hk13 w0_13 g0_13 ba0_0_13 ba0_1_13 la0_13 bw0_0_13 bw0_1_13 lw0_13 bg0_0_13 bg0_1_13 lg0_13
  clear hb14
  go_wp2_with fail
  refine (eqLoad_any _ _ _ _ _ _ _ _ _ _ _ (by omega) (ho_h0.sl.below (by repeat' (first | exact bl_refl _ | refine bl_alloc ?_ _ | refine bl_drew ?_ | refine bl_drewN ?_ _ | refine bl_set ?_ ?_ _ | (simp; done) | (simp; omega)))) (w0_14.sl.below (by repeat' (first | exact bl_refl _ | refine bl_alloc ?_ _ | refine bl_drew ?_ | refine bl_drewN ?_ _ | refine bl_set ?_ ?_ _ | (simp; done) | (simp; omega))))).mono ?_
  rintro e V15 ⟨rfl, hb15⟩
  rw [sameB_refl]
  have hB15 := bl_trans (a := V14) (by repeat' (first | exact bl_refl _ | refine bl_alloc ?_ _ | refine bl_drew ?_ | refine bl_drewN ?_ _ | refine bl_set ?_ ?_ _ | (simp; done) | (simp; omega))) hb15
  have hk15 := bl_trans hk14 hB15
  have z15 : Hid (V14.heap.size + 1 ≤ V15.heap.size) := by have := hb15.size; simp only [World.size_alloc] at this; exact (by omega : _)
  have w0_15 := w0_14.below hB15
  have g0_15 := g0_14.below hB15
  have h0_15 := ho_h0.below hB15
  have ba0_0_15 : V15.cell? ⟨w.heap.size, 0, none⟩ = some (.string x0_Appliance) := cell_later hB15 ba0_0_14
  have ba0_1_15 : V15.cell? ⟨w.heap.size, 1, none⟩ = some (.slice A0 n0 c0) := cell_later hB15 ba0_1_14
  have la0_15 : w.heap.size < V15.heap.size := World.block_lt_of_cell? _ _ ba0_0_15
  have bw0_0_15 : V15.cell? ⟨V3.heap.size, 0, none⟩ = some (.string (checkF (⟨x0_Appliance, x0_Things⟩ : Load) x1 x2).1.Appliance) := cell_later hB15 bw0_0_14
  have bw0_1_15 : V15.cell? ⟨V3.heap.size, 1, none⟩ = some (.slice A_w0 (checkF (⟨x0_Appliance, x0_Things⟩ : Load) x1 x2).1.Things.length c_w0) := cell_later hB15 bw0_1_14
  have lw0_15 : V3.heap.size < V15.heap.size := World.block_lt_of_cell? _ _ bw0_0_15
  have bg0_0_15 : V15.cell? ⟨V5.heap.size, 0, none⟩ = some (.string (checkF (⟨x0_Appliance, x0_Things⟩ : Load) x1 x2).1.Appliance) := cell_later hB15 bg0_0_14
  have bg0_1_15 : V15.cell? ⟨V5.heap.size, 1, none⟩ = some (.slice A_g0 (checkF (⟨x0_Appliance, x0_Things⟩ : Load) x1 x2).1.Things.length c_g0) := cell_later hB15 bg0_1_14
  have lg0_15 : V5.heap.size < V15.heap.size := World.block_lt_of_cell? _ _ bg0_0_15
  have bh0_0_15 : V15.cell? ⟨V14.heap.size, 0, none⟩ = some (.string (checkF (⟨x0_Appliance, x0_Things⟩ : Load) x1 x2).1.Appliance) := cell_later hb15 (by go_simp)
  have bh0_1_15 : V15.cell? ⟨V14.heap.size, 1, none⟩ = some (.slice A_h0 (checkF (⟨x0_Appliance, x0_Things⟩ : Load) x1 x2).1.Things.length c_h0) := cell_later hb15 (by go_simp)
  have lh0_15 : V14.heap.size < V15.heap.size := World.block_lt_of_cell? _ _ bh0_0_15
  clear hk14 w0_14 g0_14 ho_h0 ba0_0_14 ba0_1_14 la0_14 bw0_0_14 bw0_1_14 lw0_14 bg0_0_14 bg0_1_14 lg0_14
  clear hb15
  clear h0_15 Hi_h0 bh0_0_15 bh0_1_15 lh0_15
  clear w0_15 Hi_w0 bw0_0_15 bw0_1_15 lw0_15
  go_wp2_with fail
  refine (heldLoad_any _ _ _ _ _ _ (by omega) (by omega) (by omega) g0_15.sl).mono ?_
  rintro e V16 ⟨rfl, hb16⟩
  have hB16 := bl_trans (a := V15) (bl_refl _) hb16
  have hk16 := bl_trans hk15 hB16
  have z16 := Lib.hid hB16.size
  have g0_16 := g0_15.below hB16
  have ba0_0_16 : V16.cell? ⟨w.heap.size, 0, none⟩ = some (.string x0_Appliance) := cell_later hB16 ba0_0_15
  have ba0_1_16 : V16.cell? ⟨w.heap.size, 1, none⟩ = some (.slice A0 n0 c0) := cell_later hB16 ba0_1_15
  have la0_16 : w.heap.size < V16.heap.size := World.block_lt_of_cell? _ _ ba0_0_16
  have bg0_0_16 : V16.cell? ⟨V5.heap.size, 0, none⟩ = some (.string (checkF (⟨x0_Appliance, x0_Things⟩ : Load) x1 x2).1.Appliance) := cell_later hB16 bg0_0_15
  have bg0_1_16 : V16.cell? ⟨V5.heap.size, 1, none⟩ = some (.slice A_g0 (checkF (⟨x0_Appliance, x0_Things⟩ : Load) x1 x2).1.Things.length c_g0) := cell_later hB16 bg0_1_15
  have lg0_16 : V5.heap.size < V16.heap.size := World.block_lt_of_cell? _ _ bg0_0_16
  clear hk15 g0_15 ba0_0_15 ba0_1_15 la0_15 bg0_0_15 bg0_1_15 lg0_15
  clear hb16
  clear g0_16 Hi_g0 bg0_0_16 bg0_1_16 lg0_16
  go_wp2
  go_ret
  exact ⟨rfl, hk16⟩

open Go.WideShapes Go.ChangeShapes Go.ChangeAt
theorem own_ : ownKnob Try.prog.godebug = none := by kernel_rfl
theorem laid_ : laidOutB Try.prog = true := by kernel_rfl
theorem contract_ (H : Type) (enc : TypeId × Value → H) (W : World) (base : Nat) (args : Array Value) (ds gs : List (DataW H)) (before : List MemPlace)
    (hval : ∀ (j : Nat) t v, Try.f9.params[j]? = some t → args[j]? = some v → Value.okWide Try.prog W .any base t v)
    (hW : DataW.Whole enc Try.prog Try.f9.params.toList Rows.fnExactCheckThingSpec.vars false W args.toList ds gs before) :
    Calls Try.prog 9 args W fun e W' => ∃ v, e = .returned v ∧ Rows.fnExactCheckThingSpec.post enc Try.prog Try.f9 false true false false W args v W' := by
  have hW' := hW
  obtain ⟨p, q, hA0, hV, rfl, hfz, hnd⟩ := hW
  have hA : DataW.TrodAll enc Try.prog W 0 (fun _ => true) true Try.f9.params.toList args.toList ds p := hA0
  rw [Try.params9] at hA hval
  obtain ⟨v0, vs0, d0, ds0, p0, q0, hargs, rfl, rfl, h0, r0⟩ := trodAll_cons hA
  obtain ⟨v1, vs1, d1, ds1, p1, q1, rfl, rfl, rfl, h1, r1⟩ := trodAll_cons r0
  obtain ⟨v2, vs2, d2, ds2, p2, q2, rfl, rfl, rfl, h2, r2⟩ := trodAll_cons r1
  obtain ⟨rfl, rfl, rfl⟩ := trodAll_nil r2
  obtain rfl : args = #[v0, v1, v2] := by cases args; simp_all
  obtain ⟨rfl, rfl⟩ := trodVars_none hV
  obtain ⟨cs0, rfl, hsz0⟩ := okWide_struct Try.underlying30 (hval 0 _ v0 rfl rfl)
  obtain ⟨fuel0, h0⟩ := h0
  obtain ⟨x0, hr0⟩ := opens_load h0
  obtain ⟨A0, c0, e0, hs0, hm0⟩ := hr0.1
  obtain rfl : cs0 = #[.string x0.Appliance, .slice A0 x0.Things.length c0] := Array.toList_inj.1 (by simpa [Value.cells] using e0)
  have ho0 := hr0.2
  have hm0 : (x0.Things.length : Int) ≤ 9223372036854775807 := by unfold maxLen at hm0; omega
  obtain ⟨x1, rfl, rfl, rfl, hx1⟩ := ChangeMaps.open_string Try.underlying9 (hval 1 _ v1 rfl rfl) h1
  obtain ⟨x2, rfl, rfl, rfl, wx2⟩ := open_int Try.underlying3 (hval 2 _ v2 rfl rfl) h2
  have hx2 : -9223372036854775808 ≤ x2 ∧ x2 ≤ 9223372036854775807 := by simpa [Lit.wf, IntKind.min, IntKind.max, IntKind.signed, IntKind.bits] using wx2
  refine (walk x0.Appliance x0.Things A0 _ c0 x1 x2 W hm0 hs0 (fun x hx => (ho0.2 x hx).1) ho0.1 hx1 hx2).mono fun e W' ⟨he, hb⟩ => ?_
  exact ⟨_, he, post_law laid_ Try.underlying4 rfl rfl (by kernel_rfl) ⟨rfl, rfl, rfl⟩ hW' hb⟩

set_option maxRecDepth 100000 in
theorem lifted_ (os : Os) (started : os.Started) (H : Type) (enc : TypeId × Value → H) :
    ReturnsInHanded {} Try.checked os 9 .any (Rows.fnExactCheckThingSpec.pre6 enc Try.prog Try.f9 Rows.fnExactCheckThingRow.domain false) (Rows.fnExactCheckThingSpec.post enc Try.prog Try.f9 false true false false) := by
  refine returnsInHanded_of_change (C := Try.checked) own_ started (by kernel_rfl) Try.func9
    (ChangeSpec.witness6 (enc := enc) (C := Try.checked) false ⟨#[], #[.agg #[.string ByteArray.empty, .slice none 0 0], .string ByteArray.empty, .int .i64 0], []⟩ 8 (by kernel_rfl) (by kernel_rfl) (by kernel_rfl) (by kernel_rfl)) ?_
  intro W base args ds gs before hval0 hW _ _
  exact contract_ H enc W base args ds gs before hval0 hW

theorem proved : Rows.FnExactCheckThingSaid :=
  OpenClaim.holds_of_wide 9 Try.f9 rfl rfl rfl rfl rfl rfl rfl ⟨rfl, rfl, rfl, rfl, rfl⟩ rfl rfl rfl rfl rfl (by kernel_rfl) Try.func9 (by kernel_rfl)
    (of_decide_eq_true (by kernel_rfl)) (by unfold Func.isWrapper; first | (rw [if_pos (by decide +kernel)]; kernel_rfl) | (rw [if_neg (by decide +kernel)]; exact ⟨rfl, rfl⟩))
    (fun os started H enc _ => lifted_ os started H enc)

end Go.Proofs.Ytmmaddlbaonajaa.lawCheckThing
