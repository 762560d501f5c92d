/-
  The law on DiaryCrashes: it answers true at every input, and every argument reads as before. No conditions.
-/
import Derived.Test.YtadkhmlpmdcbpaaDoorCurR
import Derived.Test.YtadkhmlpmdcbpaaDoorQsT
import Derived.Test.YtadkhmlpmdcbpaaDoorJnRe
import Derived.Test.YtadkhmlpmdcbpaaDoorJnIs
import Derived.Test.YtadkhmlpmdcbpaaDoorJnCr
import Derived.Test.YtadkhmlpmdcbpaaDoorJnLs
import Derived.Test.YtadkhmlpmdcbpaaDoorJnLt
import Derived.Test.YtadkhmlpmdcbpaaDoorJnWr
import Derived.Test.YtadkhmlpmdcbpaaDoorJnLw
import Derived.Test.YtadkhmlpmdcbpaaDoorJnEnv
import Derived.Test.YtadkhmlpmdcbpaaDoorRow
import Derived.Test.YtadkhmlpmdcbpaaDoorRows
import Derived.Test.YtadkhmlpmdcbpaaDoorMem3
import Derived.Test.YtadkhmlpmdcbpaaDoorCards
import Derived.Test.YtadkhmlpmdcbpaaDoorTie
import Derived.Deep.DeepCutAuto
import Derived.Handed
import Derived.LaidLaws
import Derived.Lay
import Derived.SevenTiedAt
namespace Go.Proofs.YtadkhmlpmdcbpaaDoor.lawDiaryCrashes
open Go.RowKit

theorem wp_below {P : Program} {c : Code} {Q : Exit → Act → World → Prop} {a : Act} {w : World} (h : ∀ V, Below w.heap.size w V → c.wp P Q a V) : c.wp P Q a w := h w (bl_refl w)
theorem cr_lo (d : Diary) (k : Int) : (loF d k).2 = (crF d k).2 := by
  unfold loF crF; split <;> rfl
theorem cr_fl {d : Diary} {k : Int} (h : (crF d k).2 = true) : (flF d).2 = true := by
  unfold crF at h
  split at h
  · rename_i hc
    simp only [Bool.and_eq_true] at hc
    rw [flF_yes hc.1]
  · cases h
theorem fl_open (d : Diary) : (flF d).2 = openB d.Safe d.Open := by
  cases h : openB d.Safe d.Open
  · rw [flF_no h]
  · rw [flF_yes h]
theorem re_true {s : ByteArray} (h : (reF s).2 = true) : (reF s).1 = ⟨s.extract 0 (rd 40 0 s.data.toList).2, ByteArray.empty⟩ := by
  unfold reF at h ⊢
  split at h
  · rename_i hc; rw [if_pos hc]
  · cases h
theorem re_yes {s : ByteArray} (h : s.size ≤ 3000) : reF s = (⟨s.extract 0 (rd 40 0 s.data.toList).2, ByteArray.empty⟩, true) := by unfold reF; rw [if_pos h]
theorem re_size (s : ByteArray) : (reF s).1.Safe.size + (reF s).1.Open.size ≤ s.size := by
  unfold reF
  split
  · show (s.extract 0 _).size + 0 ≤ _; rw [ByteArray.size_extract]; omega
  · show 0 + 0 ≤ _; omega
theorem ex_self (s : ByteArray) (m : Nat) : s.extract 0 (s.extract 0 m).size = s.extract 0 m := by
  rw [ByteArray.size_extract]
  apply ba_ext
  rw [ba_take, ba_take]
  rcases Nat.le_total m s.size with h | h
  · rw [Nat.min_eq_left h, Nat.sub_zero]
  · rw [Nat.min_eq_right h, Nat.sub_zero, List.take_of_length_le (by rw [ba_len]; omega), List.take_of_length_le (by rw [ba_len]; omega)]
theorem ex_le (s : ByteArray) (m : Nat) : (s.extract 0 m).size ≤ s.size := by rw [ByteArray.size_extract]; omega
theorem cr_true {d : Diary} {k : Int} (h : (crF d k).2 = true) : openB d.Safe d.Open = true ∧ (0 ≤ k ∧ k ≤ d.Open.size) ∧ (crF d k).1 = d.Safe ++ d.Open.extract 0 k.toNat ∧ (loF d k).1 = (statesB d.Safe d.Open).drop (keptN d k) := by
  unfold crF at h ⊢
  split at h
  · rename_i hc
    have hc' := hc
    simp only [Bool.and_eq_true] at hc
    refine ⟨hc.1, inB_iff.1 hc.2, by rw [if_pos hc'], by unfold loF; rw [if_pos hc']⟩
  · cases h
theorem crash_facts {d : Diary} {k : Int} {C1 : ByteArray} {Lx St : List State} (hop : openB d.Safe d.Open = true) (hsz : d.Safe.size + d.Open.size ≤ 1200) (hC1 : C1 = d.Safe ++ d.Open.extract 0 k.toNat) (hLx : Lx = (statesB d.Safe d.Open).drop (keptN d k)) (hSt : St = statesB d.Safe d.Open) :
    ∃ (Ks Ko : ByteArray) (FW : List State), reF C1 = (⟨Ks, Ko⟩, true) ∧ stF ⟨Ks, Ko⟩ = (FW, true) ∧ FW ++ Lx = St ∧ Ks.size + Ko.size ≤ C1.size ∧ d.Safe.size ≤ Ks.size ∧ FW.length + Lx.length = St.length ∧ (k = (d.Open.size : Int) → Lx.length = 0) ∧ C1.size ≤ 1200 := by
  have hCs : C1.size ≤ 1200 := by rw [hC1, ByteArray.size_append]; have := ex_le d.Open k.toNat; omega
  have hcat : (rd 40 0 C1.data.toList).1 ++ Lx = St := by
    have h := kept_take (d := d) (k := k)
    rw [← hC1] at h
    rw [h, hLx, hSt, List.take_append_drop]
  have hKd : d.Safe.size ≤ (rd 40 0 C1.data.toList).2 := by
    have h := crash_safe (k := k) hop
    rw [← hC1] at h
    exact h
  have hle : (rd 40 0 C1.data.toList).2 ≤ C1.size := by
    have h := (rd_le 40 0 C1.data.toList).2.1
    rw [ba_len] at h
    exact h
  have hre := re_yes (s := C1) (by omega)
  have hso := rec_open C1
  have hss := rec_states C1
  obtain ⟨FW, hFW⟩ : ∃ L, L = (rd 40 0 C1.data.toList).1 := ⟨_, rfl⟩
  obtain ⟨m, hm⟩ : ∃ m, m = (rd 40 0 C1.data.toList).2 := ⟨_, rfl⟩
  rw [← hFW] at hcat hss
  rw [← hm] at hKd hle hre hso hss
  have hes : (C1.extract 0 m).size = m := by rw [ByteArray.size_extract]; omega
  refine ⟨C1.extract 0 m, ByteArray.empty, FW, hre, ?_, hcat, ?_, ?_, ?_, ?_, hCs⟩
  · rw [stF_yes (d := ⟨C1.extract 0 m, ByteArray.empty⟩) hso]
    exact congrArg (fun x => (x, true)) hss
  · rw [hes]; exact hle
  · rw [hes]; exact hKd
  · rw [← hcat, List.length_append]
  · intro h; rw [hLx, crash_all h]; rfl
theorem empty_none : ByteArray.empty.toList.isEmpty = true := by rw [Lib.toList_data]; rfl
set_option maxRecDepth 100000 in
set_option maxHeartbeats 16000000 in
theorem walk (A0 : Option Addr) (n0 c0 : Nat) (x0 : List Byt) (A1 : Option Addr) (n1 c1 : Nat) (x1 : List Byt) (w : World) (he : Env w) (hx0 : CodeIs w A0 n0 x0) (hx1 : CodeIs w A1 n1 x1) :
    Calls Tryd.prog 3 #[.slice A0 n0 c0, .slice A1 n1 c1] w fun e w' => e = .returned (.bool true) ∧ Below w.heap.size w w' := by
  obtain ⟨Lz, hLz⟩ : ∃ L, IntKind.i64.wrap ((n0 : Int) + (n1 : Int)) = L := ⟨_, rfl⟩
  by_cases hz : (1048576 : Int) < Lz
  · have hz' : decide (Lz > 1048576) = true := by simpa using hz
    go_enter Tryd.func3, Tryd.ntmps3
    have hk0 := bl_refl w
    go_wp2
    go_ret
    exact ⟨rfl, bl_refl _⟩
  have hz' : decide (Lz > 1048576) = false := by simpa using hz
  go_enter Tryd.func3, Tryd.ntmps3
  have hk0 := bl_refl w
  go_wp2_with fail
  refine (drawCrash_any A0 n0 c0 x0 _ (hx0.below hk0)).mono ?_
  rintro e V1 ⟨d, k, rfl, hsz, hkk, hb1⟩
  have hB1 := bl_trans (a := w) (bl_refl _) hb1
  have hk1 := bl_trans hk0 hB1
  have z1 := Lib.hid hB1.size
  obtain ⟨⟨C1, ok⟩, hC⟩ : ∃ C, crF d k = C := ⟨_, rfl⟩
  obtain ⟨⟨Lx, lk⟩, hL⟩ : ∃ C, loF d k = C := ⟨_, rfl⟩
  obtain ⟨⟨⟨Fs, Fo⟩, fo⟩, hF⟩ : ∃ C, flF d = C := ⟨_, rfl⟩
  obtain rfl : lk = ok := by have := cr_lo d k; rw [hL, hC] at this; exact this
  have hof : lk = true → fo = true := fun h => by have := cr_fl (d := d) (k := k) (by rw [hC]; exact h); rw [hF] at this; exact this
  have hop : openB d.Safe d.Open = fo := by rw [← fl_open, hF]
  have hLlen : Lx.length ≤ 40 := by have := loF_len d k; rw [hL] at this; exact this
  have hFz : fo = true → Fs = d.Safe ++ d.Open ∧ Fo = ByteArray.empty := fun h => by rw [flF_yes (hop.trans h)] at hF; injection hF with h1 h2; injection h1 with h3 h4; exact ⟨h3.symm, h4.symm⟩
  have hcr : lk = true → (0 ≤ k ∧ k ≤ d.Open.size) ∧ C1 = d.Safe ++ d.Open.extract 0 k.toNat ∧ Lx = (statesB d.Safe d.Open).drop (keptN d k) := fun h => by have := cr_true (d := d) (k := k) (by rw [hC]; exact h); rw [hC, hL] at this; exact this.2
  have Hhof := Lib.hid hof
  clear hof
  have HhLlen := Lib.hid hLlen
  clear hLlen
  have HhFz := Lib.hid hFz
  clear hFz
  have Hhcr := Lib.hid hcr
  clear hcr
  have kCimpl := Lib.hid (show ∀ (W : World) (_ : Env W), Calls Tryd.prog 5 #[.agg #[.string d.Safe, .string d.Open], .int .i64 k] W fun e w' => e = .returned (.tuple #[.string C1, .bool lk]) ∧ Below W.heap.size W w' from fun W he => by have h := implCrashDiary_any d k W (by omega) he; rw [hC] at h; exact h)
  have kLimpl := Lib.hid (show ∀ (W : World) (_ : Env W), Calls Tryd.prog 7 #[.agg #[.string d.Safe, .string d.Open], .int .i64 k] W fun e w' => ∃ A c, e = .returned (.tuple #[.slice A Lx.length c, .bool lk]) ∧ Own w' W.heap.size 40 (.slice A Lx.length c) Lx ∧ Below W.heap.size W w' from fun W he => by have h := implLostStates_any d k W (by omega) he; rw [hL] at h; exact h)
  have kFimpl := Lib.hid (show ∀ (W : World) (_ : Env W), Calls Tryd.prog 9 #[.agg #[.string d.Safe, .string d.Open]] W fun e w' => e = .returned (.tuple #[.agg #[.string Fs, .string Fo], .bool fo]) ∧ Below W.heap.size W w' from fun W he => by have h := implFlushDiary_any d W (by omega) he; rw [hF] at h; exact h)
  have kCspec := Lib.hid (show ∀ (W : World), Calls Tryd.prog 6 #[.agg #[.string d.Safe, .string d.Open], .int .i64 k] W fun e w' => e = .returned (.tuple #[.string C1, .bool lk]) ∧ Below W.heap.size W w' from fun W => by have h := specCrashDiary_any d k W (by omega); rw [hC] at h; exact h)
  have kLspec := Lib.hid (show ∀ (W : World), Calls Tryd.prog 8 #[.agg #[.string d.Safe, .string d.Open], .int .i64 k] W fun e w' => ∃ A c, e = .returned (.tuple #[.slice A Lx.length c, .bool lk]) ∧ Own w' W.heap.size 40 (.slice A Lx.length c) Lx ∧ Below W.heap.size W w' from fun W => by have h := specLostStates_any d k W (by omega); rw [hL] at h; exact h)
  have kFspec := Lib.hid (show ∀ (W : World), Calls Tryd.prog 10 #[.agg #[.string d.Safe, .string d.Open]] W fun e w' => e = .returned (.tuple #[.agg #[.string Fs, .string Fo], .bool fo]) ∧ Below W.heap.size W w' from fun W => by have h := specFlushDiary_any d W (by omega); rw [hF] at h; exact h)
  have kI := Lib.hid (show ∀ (W : World) (_ : Env W), Calls Tryd.prog 15 #[.agg #[.string d.Safe, .string d.Open]] W fun e w' => e = .returned (.bool fo) ∧ Below W.heap.size W w' from fun W he => by have h := implIsDiary_any d W (by omega) he; rw [hop] at h; exact h)
  have HhC := Lib.hid hC
  clear hC
  have HhL := Lib.hid hL
  clear hL
  have HhF := Lib.hid hF
  clear hF
  have Hhop := Lib.hid hop
  clear hop
  go_wp2_with fail
  refine (kCimpl.out _ (he.below (bl_trans hk1 (by repeat' (first | exact bl_refl _ | refine bl_alloc ?_ _ | refine bl_drew ?_ | refine bl_drewN ?_ _ | refine bl_set ?_ ?_ _ | (simp; done) | (simp; omega)))))).mono ?_
  rintro e V2 ⟨rfl, hb2⟩
  have hB2 := bl_trans (a := V1) (by repeat' (first | exact bl_refl _ | refine bl_alloc ?_ _ | refine bl_drew ?_ | refine bl_drewN ?_ _ | refine bl_set ?_ ?_ _ | (simp; done) | (simp; omega))) hb2
  have hk2 := bl_trans hk1 hB2
  have z2 : Hid (V1.heap.size + 1 ≤ V2.heap.size) := by have := hb2.size; simp only [World.size_alloc] at this; exact (by omega : _)
  have bd_0_2 : V2.cell? ⟨V1.heap.size, 0, none⟩ = some (.string d.Safe) := cell_later hb2 (by go_simp)
  have bd_1_2 : V2.cell? ⟨V1.heap.size, 1, none⟩ = some (.string d.Open) := cell_later hb2 (by go_simp)
  have ld_2 : V1.heap.size < V2.heap.size := World.block_lt_of_cell? _ _ bd_0_2
  clear hk1
  go_wp2_with fail
  refine (kCspec.out _).mono ?_
  rintro e V3 ⟨rfl, hb3⟩
  have hB3 := bl_trans (a := V2) (bl_refl _) hb3
  have hk3 := bl_trans hk2 hB3
  have z3 := Lib.hid hB3.size
  have bd_0_3 : V3.cell? ⟨V1.heap.size, 0, none⟩ = some (.string d.Safe) := cell_later hB3 bd_0_2
  have bd_1_3 : V3.cell? ⟨V1.heap.size, 1, none⟩ = some (.string d.Open) := cell_later hB3 bd_1_2
  have ld_3 : V1.heap.size < V3.heap.size := World.block_lt_of_cell? _ _ bd_0_3
  clear hk2 bd_0_2 bd_1_2 ld_2
  go_wp2_with fail
  refine (kLimpl.out _ (he.below hk3)).mono ?_
  rintro e V4 ⟨A_l, c_l, rfl, ho_l, hb4⟩
  have hB4 := bl_trans (a := V3) (bl_refl _) hb4
  have hk4 := bl_trans hk3 hB4
  have z4 := Lib.hid hB4.size
  have bd_0_4 : V4.cell? ⟨V1.heap.size, 0, none⟩ = some (.string d.Safe) := cell_later hB4 bd_0_3
  have bd_1_4 : V4.cell? ⟨V1.heap.size, 1, none⟩ = some (.string d.Open) := cell_later hB4 bd_1_3
  have ld_4 : V1.heap.size < V4.heap.size := World.block_lt_of_cell? _ _ bd_0_4
  clear hk3 bd_0_3 bd_1_3 ld_3
  go_wp2_with fail
  refine (kLspec.out _).mono ?_
  rintro e V5 ⟨A_m, c_m, rfl, ho_m, hb5⟩
  have hB5 := bl_trans (a := V4) (bl_refl _) hb5
  have hk5 := bl_trans hk4 hB5
  have z5 := Lib.hid hB5.size
  have l_5 := ho_l.below hB5
  have bd_0_5 : V5.cell? ⟨V1.heap.size, 0, none⟩ = some (.string d.Safe) := cell_later hB5 bd_0_4
  have bd_1_5 : V5.cell? ⟨V1.heap.size, 1, none⟩ = some (.string d.Open) := cell_later hB5 bd_1_4
  have ld_5 : V1.heap.size < V5.heap.size := World.block_lt_of_cell? _ _ bd_0_5
  clear hk4 ho_l bd_0_4 bd_1_4 ld_4
  go_wp2_with fail
  refine (kFimpl.out _ (he.below hk5)).mono ?_
  rintro e V6 ⟨rfl, hb6⟩
  have hB6 := bl_trans (a := V5) (bl_refl _) hb6
  have hk6 := bl_trans hk5 hB6
  have z6 := Lib.hid hB6.size
  have l_6 := l_5.below hB6
  have m_6 := ho_m.below hB6
  have bd_0_6 : V6.cell? ⟨V1.heap.size, 0, none⟩ = some (.string d.Safe) := cell_later hB6 bd_0_5
  have bd_1_6 : V6.cell? ⟨V1.heap.size, 1, none⟩ = some (.string d.Open) := cell_later hB6 bd_1_5
  have ld_6 : V1.heap.size < V6.heap.size := World.block_lt_of_cell? _ _ bd_0_6
  clear hk5 l_5 ho_m bd_0_5 bd_1_5 ld_5
  go_wp2_with fail
  refine (kFspec.out _).mono ?_
  rintro e V7 ⟨rfl, hb7⟩
  have hB7 := bl_trans (a := V6) (by repeat' (first | exact bl_refl _ | refine bl_alloc ?_ _ | refine bl_drew ?_ | refine bl_drewN ?_ _ | refine bl_set ?_ ?_ _ | (simp; done) | (simp; omega))) hb7
  have hk7 := bl_trans hk6 hB7
  have z7 : Hid (V6.heap.size + 1 ≤ V7.heap.size) := by have := hb7.size; simp only [World.size_alloc] at this; exact (by omega : _)
  have l_7 := l_6.below hB7
  have m_7 := m_6.below hB7
  have bd_0_7 : V7.cell? ⟨V1.heap.size, 0, none⟩ = some (.string d.Safe) := cell_later hB7 bd_0_6
  have bd_1_7 : V7.cell? ⟨V1.heap.size, 1, none⟩ = some (.string d.Open) := cell_later hB7 bd_1_6
  have ld_7 : V1.heap.size < V7.heap.size := World.block_lt_of_cell? _ _ bd_0_7
  have bf_0_7 : V7.cell? ⟨V6.heap.size, 0, none⟩ = some (.string Fs) := cell_later hb7 (by go_simp)
  have bf_1_7 : V7.cell? ⟨V6.heap.size, 1, none⟩ = some (.string Fo) := cell_later hb7 (by go_simp)
  have lf_7 : V6.heap.size < V7.heap.size := World.block_lt_of_cell? _ _ bf_0_7
  clear hk6 l_6 m_6 bd_0_6 bd_1_6 ld_6
  go_wp2_with fail
  refine (drawRecover_any A1 n1 c1 x1 _ (hx1.below (bl_trans hk7 (by repeat' (first | exact bl_refl _ | refine bl_alloc ?_ _ | refine bl_drew ?_ | refine bl_drewN ?_ _ | refine bl_set ?_ ?_ _ | (simp; done) | (simp; omega)))))).mono ?_
  rintro e V8 ⟨s, rfl, hss, hb8⟩
  have hB8 := bl_trans (a := V7) (by repeat' (first | exact bl_refl _ | refine bl_alloc ?_ _ | refine bl_drew ?_ | refine bl_drewN ?_ _ | refine bl_set ?_ ?_ _ | (simp; done) | (simp; omega))) hb8
  have hk8 := bl_trans hk7 hB8
  have z8 : Hid (V7.heap.size + 1 ≤ V8.heap.size) := by have := hb8.size; simp only [World.size_alloc] at this; exact (by omega : _)
  have l_8 := l_7.below hB8
  have m_8 := m_7.below hB8
  have bd_0_8 : V8.cell? ⟨V1.heap.size, 0, none⟩ = some (.string d.Safe) := cell_later hB8 bd_0_7
  have bd_1_8 : V8.cell? ⟨V1.heap.size, 1, none⟩ = some (.string d.Open) := cell_later hB8 bd_1_7
  have ld_8 : V1.heap.size < V8.heap.size := World.block_lt_of_cell? _ _ bd_0_8
  have bf_0_8 : V8.cell? ⟨V6.heap.size, 0, none⟩ = some (.string Fs) := cell_later hB8 bf_0_7
  have bf_1_8 : V8.cell? ⟨V6.heap.size, 1, none⟩ = some (.string Fo) := cell_later hB8 bf_1_7
  have lf_8 : V6.heap.size < V8.heap.size := World.block_lt_of_cell? _ _ bf_0_8
  have bg_0_8 : V8.cell? ⟨V7.heap.size, 0, none⟩ = some (.string Fs) := cell_later hb8 (by go_simp)
  have bg_1_8 : V8.cell? ⟨V7.heap.size, 1, none⟩ = some (.string Fo) := cell_later hb8 (by go_simp)
  have lg_8 : V7.heap.size < V8.heap.size := World.block_lt_of_cell? _ _ bg_0_8
  clear hk7 l_7 m_7 bd_0_7 bd_1_7 ld_7 bf_0_7 bf_1_7 lf_7
  obtain ⟨⟨⟨Rs, Ro⟩, rv⟩, hR⟩ : ∃ C, reF s = C := ⟨_, rfl⟩
  have hRt : rv = true → Rs = s.extract 0 (rd 40 0 s.data.toList).2 ∧ Ro = ByteArray.empty := fun h => by have h2 := re_true (s := s) (by rw [hR]; exact h); rw [hR] at h2; injection h2 with h3 h4; exact ⟨h3, h4⟩
  have hRz : Rs.size + Ro.size ≤ s.size := by have := re_size s; rw [hR] at this; exact this
  have kRimpl := Lib.hid (show ∀ (W : World) (_ : Env W), Calls Tryd.prog 12 #[.string s] W fun e w' => e = .returned (.tuple #[.agg #[.string Rs, .string Ro], .bool rv]) ∧ Below W.heap.size W w' from fun W he => by have h := implRecoverDiary_any s W (by omega) he; rw [hR] at h; exact h)
  have kRspec := Lib.hid (show ∀ (W : World), Calls Tryd.prog 13 #[.string s] W fun e w' => e = .returned (.tuple #[.agg #[.string Rs, .string Ro], .bool rv]) ∧ Below W.heap.size W w' from fun W => by have h := specRecoverDiary_any s W (by omega); rw [hR] at h; exact h)
  have HhRt := Lib.hid hRt
  clear hRt
  have HhRz := Lib.hid hRz
  clear hRz
  have HhR := Lib.hid hR
  clear hR
  go_wp2_with fail
  refine (kRimpl.out _ (he.below hk8)).mono ?_
  rintro e V9 ⟨rfl, hb9⟩
  have hB9 := bl_trans (a := V8) (bl_refl _) hb9
  have hk9 := bl_trans hk8 hB9
  have z9 := Lib.hid hB9.size
  have l_9 := l_8.below hB9
  have m_9 := m_8.below hB9
  have bd_0_9 : V9.cell? ⟨V1.heap.size, 0, none⟩ = some (.string d.Safe) := cell_later hB9 bd_0_8
  have bd_1_9 : V9.cell? ⟨V1.heap.size, 1, none⟩ = some (.string d.Open) := cell_later hB9 bd_1_8
  have ld_9 : V1.heap.size < V9.heap.size := World.block_lt_of_cell? _ _ bd_0_9
  have bf_0_9 : V9.cell? ⟨V6.heap.size, 0, none⟩ = some (.string Fs) := cell_later hB9 bf_0_8
  have bf_1_9 : V9.cell? ⟨V6.heap.size, 1, none⟩ = some (.string Fo) := cell_later hB9 bf_1_8
  have lf_9 : V6.heap.size < V9.heap.size := World.block_lt_of_cell? _ _ bf_0_9
  have bg_0_9 : V9.cell? ⟨V7.heap.size, 0, none⟩ = some (.string Fs) := cell_later hB9 bg_0_8
  have bg_1_9 : V9.cell? ⟨V7.heap.size, 1, none⟩ = some (.string Fo) := cell_later hB9 bg_1_8
  have lg_9 : V7.heap.size < V9.heap.size := World.block_lt_of_cell? _ _ bg_0_9
  clear hk8 l_8 m_8 bd_0_8 bd_1_8 ld_8 bf_0_8 bf_1_8 lf_8 bg_0_8 bg_1_8 lg_8
  go_wp2_with fail
  refine (kRspec.out _).mono ?_
  rintro e V10 ⟨rfl, hb10⟩
  have hB10 := bl_trans (a := V9) (by repeat' (first | exact bl_refl _ | refine bl_alloc ?_ _ | refine bl_drew ?_ | refine bl_drewN ?_ _ | refine bl_set ?_ ?_ _ | (simp; done) | (simp; omega))) hb10
  have hk10 := bl_trans hk9 hB10
  have z10 : Hid (V9.heap.size + 1 ≤ V10.heap.size) := by have := hb10.size; simp only [World.size_alloc] at this; exact (by omega : _)
  have l_10 := l_9.below hB10
  have m_10 := m_9.below hB10
  have bd_0_10 : V10.cell? ⟨V1.heap.size, 0, none⟩ = some (.string d.Safe) := cell_later hB10 bd_0_9
  have bd_1_10 : V10.cell? ⟨V1.heap.size, 1, none⟩ = some (.string d.Open) := cell_later hB10 bd_1_9
  have ld_10 : V1.heap.size < V10.heap.size := World.block_lt_of_cell? _ _ bd_0_10
  have bf_0_10 : V10.cell? ⟨V6.heap.size, 0, none⟩ = some (.string Fs) := cell_later hB10 bf_0_9
  have bf_1_10 : V10.cell? ⟨V6.heap.size, 1, none⟩ = some (.string Fo) := cell_later hB10 bf_1_9
  have lf_10 : V6.heap.size < V10.heap.size := World.block_lt_of_cell? _ _ bf_0_10
  have bg_0_10 : V10.cell? ⟨V7.heap.size, 0, none⟩ = some (.string Fs) := cell_later hB10 bg_0_9
  have bg_1_10 : V10.cell? ⟨V7.heap.size, 1, none⟩ = some (.string Fo) := cell_later hB10 bg_1_9
  have lg_10 : V7.heap.size < V10.heap.size := World.block_lt_of_cell? _ _ bg_0_10
  have bp_0_10 : V10.cell? ⟨V9.heap.size, 0, none⟩ = some (.string Rs) := cell_later hb10 (by go_simp)
  have bp_1_10 : V10.cell? ⟨V9.heap.size, 1, none⟩ = some (.string Ro) := cell_later hb10 (by go_simp)
  have lp_10 : V9.heap.size < V10.heap.size := World.block_lt_of_cell? _ _ bp_0_10
  clear hk9 l_9 m_9 bd_0_9 bd_1_9 ld_9 bf_0_9 bf_1_9 lf_9 bg_0_9 bg_1_9 lg_9
  go_upto_region 13 with fail
  refine wp_below (fun V11 hb11 => ?_)
  have hB11 := bl_trans (a := V10) (by repeat' (first | exact bl_refl _ | refine bl_alloc ?_ _ | refine bl_drew ?_ | refine bl_drewN ?_ _ | refine bl_set ?_ ?_ _ | (simp; done) | (simp; omega))) hb11
  have hk11 := bl_trans hk10 hB11
  have z11 : Hid (V10.heap.size + 1 ≤ V11.heap.size) := by have := hb11.size; simp only [World.size_alloc] at this; exact (by omega : _)
  have l_11 := l_10.below hB11
  have m_11 := m_10.below hB11
  have bd_0_11 : V11.cell? ⟨V1.heap.size, 0, none⟩ = some (.string d.Safe) := cell_later hB11 bd_0_10
  have bd_1_11 : V11.cell? ⟨V1.heap.size, 1, none⟩ = some (.string d.Open) := cell_later hB11 bd_1_10
  have ld_11 : V1.heap.size < V11.heap.size := World.block_lt_of_cell? _ _ bd_0_11
  have bf_0_11 : V11.cell? ⟨V6.heap.size, 0, none⟩ = some (.string Fs) := cell_later hB11 bf_0_10
  have bf_1_11 : V11.cell? ⟨V6.heap.size, 1, none⟩ = some (.string Fo) := cell_later hB11 bf_1_10
  have lf_11 : V6.heap.size < V11.heap.size := World.block_lt_of_cell? _ _ bf_0_11
  have bg_0_11 : V11.cell? ⟨V7.heap.size, 0, none⟩ = some (.string Fs) := cell_later hB11 bg_0_10
  have bg_1_11 : V11.cell? ⟨V7.heap.size, 1, none⟩ = some (.string Fo) := cell_later hB11 bg_1_10
  have lg_11 : V7.heap.size < V11.heap.size := World.block_lt_of_cell? _ _ bg_0_11
  have bp_0_11 : V11.cell? ⟨V9.heap.size, 0, none⟩ = some (.string Rs) := cell_later hB11 bp_0_10
  have bp_1_11 : V11.cell? ⟨V9.heap.size, 1, none⟩ = some (.string Ro) := cell_later hB11 bp_1_10
  have lp_11 : V9.heap.size < V11.heap.size := World.block_lt_of_cell? _ _ bp_0_11
  have bq_0_11 : V11.cell? ⟨V10.heap.size, 0, none⟩ = some (.string Rs) := cell_later hb11 (by go_simp)
  have bq_1_11 : V11.cell? ⟨V10.heap.size, 1, none⟩ = some (.string Ro) := cell_later hb11 (by go_simp)
  have lq_11 : V10.heap.size < V11.heap.size := World.block_lt_of_cell? _ _ bq_0_11
  clear hk10 l_10 m_10 bd_0_10 bd_1_10 ld_10 bf_0_10 bf_1_10 lf_10 bg_0_10 bg_1_10 lg_10 bp_0_10 bp_1_10 lp_10
  go_cut [151] (fun sb wx => sb = .bool false ∧ Below V11.heap.size V11 wx)
  case first => as_aux_lemma =>
    cases lk
    · skip
      go_wp2_with fail
      refine (qStates_same _ _ _ _ _ Lx _ (by have := HhLlen.out; omega) l_11.sl m_11.sl).mono ?_
      rintro e V12 ⟨rfl, hb12⟩
      have hB12 := bl_trans (a := V11) (bl_refl _) hb12
      have hk12 := bl_trans hk11 hB12
      have z12 := Lib.hid hB12.size
      have l_12 := l_11.below hB12
      have m_12 := m_11.below hB12
      have bd_0_12 : V12.cell? ⟨V1.heap.size, 0, none⟩ = some (.string d.Safe) := cell_later hB12 bd_0_11
      have bd_1_12 : V12.cell? ⟨V1.heap.size, 1, none⟩ = some (.string d.Open) := cell_later hB12 bd_1_11
      have ld_12 : V1.heap.size < V12.heap.size := World.block_lt_of_cell? _ _ bd_0_12
      have bf_0_12 : V12.cell? ⟨V6.heap.size, 0, none⟩ = some (.string Fs) := cell_later hB12 bf_0_11
      have bf_1_12 : V12.cell? ⟨V6.heap.size, 1, none⟩ = some (.string Fo) := cell_later hB12 bf_1_11
      have lf_12 : V6.heap.size < V12.heap.size := World.block_lt_of_cell? _ _ bf_0_12
      have bg_0_12 : V12.cell? ⟨V7.heap.size, 0, none⟩ = some (.string Fs) := cell_later hB12 bg_0_11
      have bg_1_12 : V12.cell? ⟨V7.heap.size, 1, none⟩ = some (.string Fo) := cell_later hB12 bg_1_11
      have lg_12 : V7.heap.size < V12.heap.size := World.block_lt_of_cell? _ _ bg_0_12
      have bp_0_12 : V12.cell? ⟨V9.heap.size, 0, none⟩ = some (.string Rs) := cell_later hB12 bp_0_11
      have bp_1_12 : V12.cell? ⟨V9.heap.size, 1, none⟩ = some (.string Ro) := cell_later hB12 bp_1_11
      have lp_12 : V9.heap.size < V12.heap.size := World.block_lt_of_cell? _ _ bp_0_12
      have bq_0_12 : V12.cell? ⟨V10.heap.size, 0, none⟩ = some (.string Rs) := cell_later hB12 bq_0_11
      have bq_1_12 : V12.cell? ⟨V10.heap.size, 1, none⟩ = some (.string Ro) := cell_later hB12 bq_1_11
      have lq_12 : V10.heap.size < V12.heap.size := World.block_lt_of_cell? _ _ bq_0_12
      clear hk11 l_11 m_11 bd_0_11 bd_1_11 ld_11 bf_0_11 bf_1_11 lf_11 bg_0_11 bg_1_11 lg_11 bp_0_11 bp_1_11 lp_11 bq_0_11 bq_1_11 lq_11
      go_wp2_with fail
      refine (kI.out _ (he.below hk12)).mono ?_
      rintro e V13 ⟨rfl, hb13⟩
      have hB13 := bl_trans (a := V12) (bl_refl _) hb13
      have hk13 := bl_trans hk12 hB13
      have z13 := Lib.hid hB13.size
      have l_13 := l_12.below hB13
      have m_13 := m_12.below hB13
      have bd_0_13 : V13.cell? ⟨V1.heap.size, 0, none⟩ = some (.string d.Safe) := cell_later hB13 bd_0_12
      have bd_1_13 : V13.cell? ⟨V1.heap.size, 1, none⟩ = some (.string d.Open) := cell_later hB13 bd_1_12
      have ld_13 : V1.heap.size < V13.heap.size := World.block_lt_of_cell? _ _ bd_0_13
      have bf_0_13 : V13.cell? ⟨V6.heap.size, 0, none⟩ = some (.string Fs) := cell_later hB13 bf_0_12
      have bf_1_13 : V13.cell? ⟨V6.heap.size, 1, none⟩ = some (.string Fo) := cell_later hB13 bf_1_12
      have lf_13 : V6.heap.size < V13.heap.size := World.block_lt_of_cell? _ _ bf_0_13
      have bg_0_13 : V13.cell? ⟨V7.heap.size, 0, none⟩ = some (.string Fs) := cell_later hB13 bg_0_12
      have bg_1_13 : V13.cell? ⟨V7.heap.size, 1, none⟩ = some (.string Fo) := cell_later hB13 bg_1_12
      have lg_13 : V7.heap.size < V13.heap.size := World.block_lt_of_cell? _ _ bg_0_13
      have bp_0_13 : V13.cell? ⟨V9.heap.size, 0, none⟩ = some (.string Rs) := cell_later hB13 bp_0_12
      have bp_1_13 : V13.cell? ⟨V9.heap.size, 1, none⟩ = some (.string Ro) := cell_later hB13 bp_1_12
      have lp_13 : V9.heap.size < V13.heap.size := World.block_lt_of_cell? _ _ bp_0_13
      have bq_0_13 : V13.cell? ⟨V10.heap.size, 0, none⟩ = some (.string Rs) := cell_later hB13 bq_0_12
      have bq_1_13 : V13.cell? ⟨V10.heap.size, 1, none⟩ = some (.string Ro) := cell_later hB13 bq_1_12
      have lq_13 : V10.heap.size < V13.heap.size := World.block_lt_of_cell? _ _ bq_0_13
      clear hk12 l_12 m_12 bd_0_12 bd_1_12 ld_12 bf_0_12 bf_1_12 lf_12 bg_0_12 bg_1_12 lg_12 bp_0_12 bp_1_12 lp_12 bq_0_12 bq_1_12 lq_12
      go_wp2_with fail
      go_meet
      exact ⟨rfl, (bl_trans hB12 hB13)⟩
    · obtain rfl := Hhof.out rfl
      go_wp2_with fail
      refine (qStates_same _ _ _ _ _ Lx _ (by have := HhLlen.out; omega) l_11.sl m_11.sl).mono ?_
      rintro e V14 ⟨rfl, hb14⟩
      have hB14 := bl_trans (a := V11) (bl_refl _) hb14
      have hk14 := bl_trans hk11 hB14
      have z14 := Lib.hid hB14.size
      have l_14 := l_11.below hB14
      have m_14 := m_11.below hB14
      have bd_0_14 : V14.cell? ⟨V1.heap.size, 0, none⟩ = some (.string d.Safe) := cell_later hB14 bd_0_11
      have bd_1_14 : V14.cell? ⟨V1.heap.size, 1, none⟩ = some (.string d.Open) := cell_later hB14 bd_1_11
      have ld_14 : V1.heap.size < V14.heap.size := World.block_lt_of_cell? _ _ bd_0_14
      have bf_0_14 : V14.cell? ⟨V6.heap.size, 0, none⟩ = some (.string Fs) := cell_later hB14 bf_0_11
      have bf_1_14 : V14.cell? ⟨V6.heap.size, 1, none⟩ = some (.string Fo) := cell_later hB14 bf_1_11
      have lf_14 : V6.heap.size < V14.heap.size := World.block_lt_of_cell? _ _ bf_0_14
      have bg_0_14 : V14.cell? ⟨V7.heap.size, 0, none⟩ = some (.string Fs) := cell_later hB14 bg_0_11
      have bg_1_14 : V14.cell? ⟨V7.heap.size, 1, none⟩ = some (.string Fo) := cell_later hB14 bg_1_11
      have lg_14 : V7.heap.size < V14.heap.size := World.block_lt_of_cell? _ _ bg_0_14
      have bp_0_14 : V14.cell? ⟨V9.heap.size, 0, none⟩ = some (.string Rs) := cell_later hB14 bp_0_11
      have bp_1_14 : V14.cell? ⟨V9.heap.size, 1, none⟩ = some (.string Ro) := cell_later hB14 bp_1_11
      have lp_14 : V9.heap.size < V14.heap.size := World.block_lt_of_cell? _ _ bp_0_14
      have bq_0_14 : V14.cell? ⟨V10.heap.size, 0, none⟩ = some (.string Rs) := cell_later hB14 bq_0_11
      have bq_1_14 : V14.cell? ⟨V10.heap.size, 1, none⟩ = some (.string Ro) := cell_later hB14 bq_1_11
      have lq_14 : V10.heap.size < V14.heap.size := World.block_lt_of_cell? _ _ bq_0_14
      clear hk11 l_11 m_11 bd_0_11 bd_1_11 ld_11 bf_0_11 bf_1_11 lf_11 bg_0_11 bg_1_11 lg_11 bp_0_11 bp_1_11 lp_11 bq_0_11 bq_1_11 lq_11
      go_wp2_with fail
      refine (kI.out _ (he.below hk14)).mono ?_
      rintro e V15 ⟨rfl, hb15⟩
      have hB15 := bl_trans (a := V14) (bl_refl _) hb15
      have hk15 := bl_trans hk14 hB15
      have z15 := Lib.hid hB15.size
      have l_15 := l_14.below hB15
      have m_15 := m_14.below hB15
      have bd_0_15 : V15.cell? ⟨V1.heap.size, 0, none⟩ = some (.string d.Safe) := cell_later hB15 bd_0_14
      have bd_1_15 : V15.cell? ⟨V1.heap.size, 1, none⟩ = some (.string d.Open) := cell_later hB15 bd_1_14
      have ld_15 : V1.heap.size < V15.heap.size := World.block_lt_of_cell? _ _ bd_0_15
      have bf_0_15 : V15.cell? ⟨V6.heap.size, 0, none⟩ = some (.string Fs) := cell_later hB15 bf_0_14
      have bf_1_15 : V15.cell? ⟨V6.heap.size, 1, none⟩ = some (.string Fo) := cell_later hB15 bf_1_14
      have lf_15 : V6.heap.size < V15.heap.size := World.block_lt_of_cell? _ _ bf_0_15
      have bg_0_15 : V15.cell? ⟨V7.heap.size, 0, none⟩ = some (.string Fs) := cell_later hB15 bg_0_14
      have bg_1_15 : V15.cell? ⟨V7.heap.size, 1, none⟩ = some (.string Fo) := cell_later hB15 bg_1_14
      have lg_15 : V7.heap.size < V15.heap.size := World.block_lt_of_cell? _ _ bg_0_15
      have bp_0_15 : V15.cell? ⟨V9.heap.size, 0, none⟩ = some (.string Rs) := cell_later hB15 bp_0_14
      have bp_1_15 : V15.cell? ⟨V9.heap.size, 1, none⟩ = some (.string Ro) := cell_later hB15 bp_1_14
      have lp_15 : V9.heap.size < V15.heap.size := World.block_lt_of_cell? _ _ bp_0_15
      have bq_0_15 : V15.cell? ⟨V10.heap.size, 0, none⟩ = some (.string Rs) := cell_later hB15 bq_0_14
      have bq_1_15 : V15.cell? ⟨V10.heap.size, 1, none⟩ = some (.string Ro) := cell_later hB15 bq_1_14
      have lq_15 : V10.heap.size < V15.heap.size := World.block_lt_of_cell? _ _ bq_0_15
      clear hk14 l_14 m_14 bd_0_14 bd_1_14 ld_14 bf_0_14 bf_1_14 lf_14 bg_0_14 bg_1_14 lg_14 bp_0_14 bp_1_14 lp_14 bq_0_14 bq_1_14 lq_14
      go_wp2_with fail
      go_meet
      exact ⟨rfl, (bl_trans hB14 hB15)⟩
  case rest => as_aux_lemma =>
    obtain ⟨rfl, hb16⟩ := hcut
    obtain ⟨V16, hVV⟩ : ∃ V, V = wc := ⟨_, rfl⟩
    subst hVV
    have hB16 := bl_trans (a := V11) (bl_refl _) hb16
    have hk16 := bl_trans hk11 hB16
    have z16 := Lib.hid hB16.size
    have l_16 := l_11.below hB16
    have m_16 := m_11.below hB16
    have bd_0_16 : V16.cell? ⟨V1.heap.size, 0, none⟩ = some (.string d.Safe) := cell_later hB16 bd_0_11
    have bd_1_16 : V16.cell? ⟨V1.heap.size, 1, none⟩ = some (.string d.Open) := cell_later hB16 bd_1_11
    have ld_16 : V1.heap.size < V16.heap.size := World.block_lt_of_cell? _ _ bd_0_16
    have bf_0_16 : V16.cell? ⟨V6.heap.size, 0, none⟩ = some (.string Fs) := cell_later hB16 bf_0_11
    have bf_1_16 : V16.cell? ⟨V6.heap.size, 1, none⟩ = some (.string Fo) := cell_later hB16 bf_1_11
    have lf_16 : V6.heap.size < V16.heap.size := World.block_lt_of_cell? _ _ bf_0_16
    have bg_0_16 : V16.cell? ⟨V7.heap.size, 0, none⟩ = some (.string Fs) := cell_later hB16 bg_0_11
    have bg_1_16 : V16.cell? ⟨V7.heap.size, 1, none⟩ = some (.string Fo) := cell_later hB16 bg_1_11
    have lg_16 : V7.heap.size < V16.heap.size := World.block_lt_of_cell? _ _ bg_0_16
    have bp_0_16 : V16.cell? ⟨V9.heap.size, 0, none⟩ = some (.string Rs) := cell_later hB16 bp_0_11
    have bp_1_16 : V16.cell? ⟨V9.heap.size, 1, none⟩ = some (.string Ro) := cell_later hB16 bp_1_11
    have lp_16 : V9.heap.size < V16.heap.size := World.block_lt_of_cell? _ _ bp_0_16
    have bq_0_16 : V16.cell? ⟨V10.heap.size, 0, none⟩ = some (.string Rs) := cell_later hB16 bq_0_11
    have bq_1_16 : V16.cell? ⟨V10.heap.size, 1, none⟩ = some (.string Ro) := cell_later hB16 bq_1_11
    have lq_16 : V10.heap.size < V16.heap.size := World.block_lt_of_cell? _ _ bq_0_16
    clear hk11 l_11 m_11 bd_0_11 bd_1_11 ld_11 bf_0_11 bf_1_11 lf_11 bg_0_11 bg_1_11 lg_11 bp_0_11 bp_1_11 lp_11 bq_0_11 bq_1_11 lq_11
    go_upto_region 15 with fail
    refine wp_below (fun V17 hb17 => ?_)
    have hB17 := bl_trans (a := V16) (bl_refl _) hb17
    have hk17 := bl_trans hk16 hB17
    have z17 := Lib.hid hB17.size
    have l_17 := l_16.below hB17
    have m_17 := m_16.below hB17
    have bd_0_17 : V17.cell? ⟨V1.heap.size, 0, none⟩ = some (.string d.Safe) := cell_later hB17 bd_0_16
    have bd_1_17 : V17.cell? ⟨V1.heap.size, 1, none⟩ = some (.string d.Open) := cell_later hB17 bd_1_16
    have ld_17 : V1.heap.size < V17.heap.size := World.block_lt_of_cell? _ _ bd_0_17
    have bf_0_17 : V17.cell? ⟨V6.heap.size, 0, none⟩ = some (.string Fs) := cell_later hB17 bf_0_16
    have bf_1_17 : V17.cell? ⟨V6.heap.size, 1, none⟩ = some (.string Fo) := cell_later hB17 bf_1_16
    have lf_17 : V6.heap.size < V17.heap.size := World.block_lt_of_cell? _ _ bf_0_17
    have bg_0_17 : V17.cell? ⟨V7.heap.size, 0, none⟩ = some (.string Fs) := cell_later hB17 bg_0_16
    have bg_1_17 : V17.cell? ⟨V7.heap.size, 1, none⟩ = some (.string Fo) := cell_later hB17 bg_1_16
    have lg_17 : V7.heap.size < V17.heap.size := World.block_lt_of_cell? _ _ bg_0_17
    have bp_0_17 : V17.cell? ⟨V9.heap.size, 0, none⟩ = some (.string Rs) := cell_later hB17 bp_0_16
    have bp_1_17 : V17.cell? ⟨V9.heap.size, 1, none⟩ = some (.string Ro) := cell_later hB17 bp_1_16
    have lp_17 : V9.heap.size < V17.heap.size := World.block_lt_of_cell? _ _ bp_0_17
    have bq_0_17 : V17.cell? ⟨V10.heap.size, 0, none⟩ = some (.string Rs) := cell_later hB17 bq_0_16
    have bq_1_17 : V17.cell? ⟨V10.heap.size, 1, none⟩ = some (.string Ro) := cell_later hB17 bq_1_16
    have lq_17 : V10.heap.size < V17.heap.size := World.block_lt_of_cell? _ _ bq_0_17
    clear hk16 l_16 m_16 bd_0_16 bd_1_16 ld_16 bf_0_16 bf_1_16 lf_16 bg_0_16 bg_1_16 lg_16 bp_0_16 bp_1_16 lp_16 bq_0_16 bq_1_16 lq_16
    go_cut [180] (fun sb wx => sb = .bool false ∧ Below V17.heap.size V17 wx)
    case first => as_aux_lemma =>
      cases rv
      · skip
        refine wp_region_grow (by kernel_rfl) (by kernel_rfl) (fun X hX => ?_)
        have hbX : Below V17.heap.size V17 X := by rw [hX]; exact bl_refl _
        have qq0 := Gw.cell (cell_later hbX bp_0_17)
        have qq1 := Gw.cell (cell_later hbX bp_1_17)
        have qq2 := Gw.cell (cell_later hbX bq_0_17)
        have qq3 := Gw.cell (cell_later hbX bq_1_17)
        have HX := Lib.hid hX
        clear hX
        repeat (go_big_quiet_step (fail))
        refine wpGrow_nil (fun VV hV => ?_)
        have hbq := bl_trans hbX hV
        clear hV hbX HX qq0 qq1 qq2 qq3
        iterate 2 go_step
        go_meet
        exact ⟨rfl, hbq⟩
      · obtain ⟨hR1, hR2⟩ := HhRt.out rfl
        have hx : s.extract 0 Rs.size = Rs := by rw [hR1]; exact ex_self _ _
        have hle : Rs.size ≤ s.size := by rw [hR1]; exact ex_le _ _
        have hd1 : decide ((Rs.size : Int) > s.size) = false := by simp; omega
        have hd3 : decide ((s.size : Int) < Rs.size) = false := by simp; omega
        have hd4 : ¬ (s.size < Rs.size) := by omega
        have hd5 : ¬ ((s.size : Int) < Rs.size) := by omega
        have hd2 : (Rs.size : Int) ≤ s.size := by omega
        have hE : Ro.toList.isEmpty = true := by rw [hR2]; exact empty_none
        have kJ := Lib.hid (show ∀ (W : World) (_ : Env W), Calls Tryd.prog 15 #[.agg #[.string Rs, .string Ro]] W fun e w' => e = .returned (.bool true) ∧ Below W.heap.size W w' from fun W he => by have h := implIsDiary_any ⟨Rs, Ro⟩ W (by have h5 := HhRz.out; simp only [] at h5 ⊢; omega) he; rw [show openB (⟨Rs, Ro⟩ : Diary).Safe (⟨Rs, Ro⟩ : Diary).Open = true by rw [hR1, hR2]; exact rec_open s] at h; exact h)
        have HR1 := Lib.hid hR1
        have HR2 := Lib.hid hR2
        clear hR1 hR2
        refine wp_region_grow (by kernel_rfl) (by kernel_rfl) (fun X hX => ?_)
        have hbX : Below V17.heap.size V17 X := by rw [hX]; exact bl_refl _
        have qq0 := Gw.cell (cell_later hbX bp_0_17)
        have qq1 := Gw.cell (cell_later hbX bp_1_17)
        have qq2 := Gw.cell (cell_later hbX bq_0_17)
        have qq3 := Gw.cell (cell_later hbX bq_1_17)
        have HX := Lib.hid hX
        clear hX
        repeat (go_big_quiet_step ((go_at_call 15; exact Calls.grow_of (kJ.out _ (((he.below hk17).below hbX).below (Subtype.property _))))))
        refine wpGrow_nil (fun VV hV => ?_)
        have hbq := bl_trans hbX hV
        clear hV hbX HX qq0 qq1 qq2 qq3
        iterate 2 go_step
        go_meet
        exact ⟨rfl, hbq⟩
    case rest => as_aux_lemma =>
      obtain ⟨rfl, hb18⟩ := hcut
      obtain ⟨V18, hVV⟩ : ∃ V, V = wc := ⟨_, rfl⟩
      subst hVV
      have hB18 := bl_trans (a := V17) (bl_refl _) hb18
      have hk18 := bl_trans hk17 hB18
      have z18 := Lib.hid hB18.size
      have l_18 := l_17.below hB18
      have m_18 := m_17.below hB18
      have bd_0_18 : V18.cell? ⟨V1.heap.size, 0, none⟩ = some (.string d.Safe) := cell_later hB18 bd_0_17
      have bd_1_18 : V18.cell? ⟨V1.heap.size, 1, none⟩ = some (.string d.Open) := cell_later hB18 bd_1_17
      have ld_18 : V1.heap.size < V18.heap.size := World.block_lt_of_cell? _ _ bd_0_18
      have bf_0_18 : V18.cell? ⟨V6.heap.size, 0, none⟩ = some (.string Fs) := cell_later hB18 bf_0_17
      have bf_1_18 : V18.cell? ⟨V6.heap.size, 1, none⟩ = some (.string Fo) := cell_later hB18 bf_1_17
      have lf_18 : V6.heap.size < V18.heap.size := World.block_lt_of_cell? _ _ bf_0_18
      have bg_0_18 : V18.cell? ⟨V7.heap.size, 0, none⟩ = some (.string Fs) := cell_later hB18 bg_0_17
      have bg_1_18 : V18.cell? ⟨V7.heap.size, 1, none⟩ = some (.string Fo) := cell_later hB18 bg_1_17
      have lg_18 : V7.heap.size < V18.heap.size := World.block_lt_of_cell? _ _ bg_0_18
      have bp_0_18 : V18.cell? ⟨V9.heap.size, 0, none⟩ = some (.string Rs) := cell_later hB18 bp_0_17
      have bp_1_18 : V18.cell? ⟨V9.heap.size, 1, none⟩ = some (.string Ro) := cell_later hB18 bp_1_17
      have lp_18 : V9.heap.size < V18.heap.size := World.block_lt_of_cell? _ _ bp_0_18
      have bq_0_18 : V18.cell? ⟨V10.heap.size, 0, none⟩ = some (.string Rs) := cell_later hB18 bq_0_17
      have bq_1_18 : V18.cell? ⟨V10.heap.size, 1, none⟩ = some (.string Ro) := cell_later hB18 bq_1_17
      have lq_18 : V10.heap.size < V18.heap.size := World.block_lt_of_cell? _ _ bq_0_18
      clear hk17 l_17 m_17 bd_0_17 bd_1_17 ld_17 bf_0_17 bf_1_17 lf_17 bg_0_17 bg_1_17 lg_17 bp_0_17 bp_1_17 lp_17 bq_0_17 bq_1_17 lq_17
      cases fo
      · obtain rfl : lk = false := by cases lk with | false => rfl | true => exact absurd (Hhof.out rfl) Bool.false_ne_true
        go_wp2
        go_ret
        exact ⟨rfl, hk18⟩
      obtain ⟨hFe, hFe2⟩ := HhFz.out rfl
      have hE : Fo.toList.isEmpty = true := by rw [hFe2]; exact empty_none
      obtain ⟨St, hSt⟩ : ∃ S, S = statesB d.Safe d.Open := ⟨_, rfl⟩
      have hStl : St.length ≤ 40 := by rw [hSt]; exact states_len _ _
      have hsF : stF ⟨Fs, Fo⟩ = (St, true) := by rw [hFe, hFe2, stF_yes (d := ⟨d.Safe ++ d.Open, ByteArray.empty⟩) (flush_open Hhop.out)]; exact congrArg (fun x => (x, true)) ((flush_states _ _).trans hSt.symm)
      have hsd : stF d = (St, true) := by rw [stF_yes Hhop.out, hSt]
      have hFz2 : Fs.size + Fo.size ≤ 1048576 := by rw [hFe, hFe2]; show (d.Safe ++ d.Open).size + 0 ≤ _; rw [ByteArray.size_append]; omega
      have kW1 := Lib.hid (show ∀ (W : World) (_ : Env W), Calls Tryd.prog 16 #[.agg #[.string Fs, .string Fo]] W fun e w' => ∃ A c, e = .returned (.tuple #[.slice A St.length c, .bool true]) ∧ Own w' W.heap.size 40 (.slice A St.length c) St ∧ Below W.heap.size W w' from fun W he => by have h := implWrittenStates_any ⟨Fs, Fo⟩ W hFz2 he; rw [hsF] at h; exact h)
      have kW2 := Lib.hid (show ∀ (W : World), Calls Tryd.prog 17 #[.agg #[.string d.Safe, .string d.Open]] W fun e w' => ∃ A c, e = .returned (.tuple #[.slice A St.length c, .bool true]) ∧ Own w' W.heap.size 40 (.slice A St.length c) St ∧ Below W.heap.size W w' from fun W => by have h := specWrittenStates_any d W (by omega); rw [hsd] at h; exact h)
      have HhFe := Lib.hid hFe
      clear hFe
      have HhFe2 := Lib.hid hFe2
      clear hFe2
      have HhSt := Lib.hid hSt
      clear hSt
      have HhsF := Lib.hid hsF
      clear hsF
      have Hhsd := Lib.hid hsd
      clear hsd
      clear hFz2
      go_wp2_with fail
      refine (kW1.out _ (he.below hk18)).mono ?_
      rintro e V19 ⟨A_a, c_a, rfl, ho_a, hb19⟩
      have hB19 := bl_trans (a := V18) (bl_refl _) hb19
      have hk19 := bl_trans hk18 hB19
      have z19 := Lib.hid hB19.size
      have l_19 := l_18.below hB19
      have m_19 := m_18.below hB19
      have bd_0_19 : V19.cell? ⟨V1.heap.size, 0, none⟩ = some (.string d.Safe) := cell_later hB19 bd_0_18
      have bd_1_19 : V19.cell? ⟨V1.heap.size, 1, none⟩ = some (.string d.Open) := cell_later hB19 bd_1_18
      have ld_19 : V1.heap.size < V19.heap.size := World.block_lt_of_cell? _ _ bd_0_19
      have bf_0_19 : V19.cell? ⟨V6.heap.size, 0, none⟩ = some (.string Fs) := cell_later hB19 bf_0_18
      have bf_1_19 : V19.cell? ⟨V6.heap.size, 1, none⟩ = some (.string Fo) := cell_later hB19 bf_1_18
      have lf_19 : V6.heap.size < V19.heap.size := World.block_lt_of_cell? _ _ bf_0_19
      have bg_0_19 : V19.cell? ⟨V7.heap.size, 0, none⟩ = some (.string Fs) := cell_later hB19 bg_0_18
      have bg_1_19 : V19.cell? ⟨V7.heap.size, 1, none⟩ = some (.string Fo) := cell_later hB19 bg_1_18
      have lg_19 : V7.heap.size < V19.heap.size := World.block_lt_of_cell? _ _ bg_0_19
      have bp_0_19 : V19.cell? ⟨V9.heap.size, 0, none⟩ = some (.string Rs) := cell_later hB19 bp_0_18
      have bp_1_19 : V19.cell? ⟨V9.heap.size, 1, none⟩ = some (.string Ro) := cell_later hB19 bp_1_18
      have lp_19 : V9.heap.size < V19.heap.size := World.block_lt_of_cell? _ _ bp_0_19
      have bq_0_19 : V19.cell? ⟨V10.heap.size, 0, none⟩ = some (.string Rs) := cell_later hB19 bq_0_18
      have bq_1_19 : V19.cell? ⟨V10.heap.size, 1, none⟩ = some (.string Ro) := cell_later hB19 bq_1_18
      have lq_19 : V10.heap.size < V19.heap.size := World.block_lt_of_cell? _ _ bq_0_19
      clear hk18 l_18 m_18 bd_0_18 bd_1_18 ld_18 bf_0_18 bf_1_18 lf_18 bg_0_18 bg_1_18 lg_18 bp_0_18 bp_1_18 lp_18 bq_0_18 bq_1_18 lq_18
      go_wp2_with fail
      refine (kW2.out _).mono ?_
      rintro e V20 ⟨A_b, c_b, rfl, ho_b, hb20⟩
      have hB20 := bl_trans (a := V19) (bl_refl _) hb20
      have hk20 := bl_trans hk19 hB20
      have z20 := Lib.hid hB20.size
      have l_20 := l_19.below hB20
      have m_20 := m_19.below hB20
      have a_20 := ho_a.below hB20
      have bd_0_20 : V20.cell? ⟨V1.heap.size, 0, none⟩ = some (.string d.Safe) := cell_later hB20 bd_0_19
      have bd_1_20 : V20.cell? ⟨V1.heap.size, 1, none⟩ = some (.string d.Open) := cell_later hB20 bd_1_19
      have ld_20 : V1.heap.size < V20.heap.size := World.block_lt_of_cell? _ _ bd_0_20
      have bf_0_20 : V20.cell? ⟨V6.heap.size, 0, none⟩ = some (.string Fs) := cell_later hB20 bf_0_19
      have bf_1_20 : V20.cell? ⟨V6.heap.size, 1, none⟩ = some (.string Fo) := cell_later hB20 bf_1_19
      have lf_20 : V6.heap.size < V20.heap.size := World.block_lt_of_cell? _ _ bf_0_20
      have bg_0_20 : V20.cell? ⟨V7.heap.size, 0, none⟩ = some (.string Fs) := cell_later hB20 bg_0_19
      have bg_1_20 : V20.cell? ⟨V7.heap.size, 1, none⟩ = some (.string Fo) := cell_later hB20 bg_1_19
      have lg_20 : V7.heap.size < V20.heap.size := World.block_lt_of_cell? _ _ bg_0_20
      have bp_0_20 : V20.cell? ⟨V9.heap.size, 0, none⟩ = some (.string Rs) := cell_later hB20 bp_0_19
      have bp_1_20 : V20.cell? ⟨V9.heap.size, 1, none⟩ = some (.string Ro) := cell_later hB20 bp_1_19
      have lp_20 : V9.heap.size < V20.heap.size := World.block_lt_of_cell? _ _ bp_0_20
      have bq_0_20 : V20.cell? ⟨V10.heap.size, 0, none⟩ = some (.string Rs) := cell_later hB20 bq_0_19
      have bq_1_20 : V20.cell? ⟨V10.heap.size, 1, none⟩ = some (.string Ro) := cell_later hB20 bq_1_19
      have lq_20 : V10.heap.size < V20.heap.size := World.block_lt_of_cell? _ _ bq_0_20
      clear hk19 l_19 m_19 ho_a bd_0_19 bd_1_19 ld_19 bf_0_19 bf_1_19 lf_19 bg_0_19 bg_1_19 lg_19 bp_0_19 bp_1_19 lp_19 bq_0_19 bq_1_19 lq_19
      go_upto_region 20 with fail
      refine wp_below (fun V21 hb21 => ?_)
      have hB21 := bl_trans (a := V20) (bl_refl _) hb21
      have hk21 := bl_trans hk20 hB21
      have z21 := Lib.hid hB21.size
      have l_21 := l_20.below hB21
      have m_21 := m_20.below hB21
      have a_21 := a_20.below hB21
      have b_21 := ho_b.below hB21
      have bd_0_21 : V21.cell? ⟨V1.heap.size, 0, none⟩ = some (.string d.Safe) := cell_later hB21 bd_0_20
      have bd_1_21 : V21.cell? ⟨V1.heap.size, 1, none⟩ = some (.string d.Open) := cell_later hB21 bd_1_20
      have ld_21 : V1.heap.size < V21.heap.size := World.block_lt_of_cell? _ _ bd_0_21
      have bf_0_21 : V21.cell? ⟨V6.heap.size, 0, none⟩ = some (.string Fs) := cell_later hB21 bf_0_20
      have bf_1_21 : V21.cell? ⟨V6.heap.size, 1, none⟩ = some (.string Fo) := cell_later hB21 bf_1_20
      have lf_21 : V6.heap.size < V21.heap.size := World.block_lt_of_cell? _ _ bf_0_21
      have bg_0_21 : V21.cell? ⟨V7.heap.size, 0, none⟩ = some (.string Fs) := cell_later hB21 bg_0_20
      have bg_1_21 : V21.cell? ⟨V7.heap.size, 1, none⟩ = some (.string Fo) := cell_later hB21 bg_1_20
      have lg_21 : V7.heap.size < V21.heap.size := World.block_lt_of_cell? _ _ bg_0_21
      have bp_0_21 : V21.cell? ⟨V9.heap.size, 0, none⟩ = some (.string Rs) := cell_later hB21 bp_0_20
      have bp_1_21 : V21.cell? ⟨V9.heap.size, 1, none⟩ = some (.string Ro) := cell_later hB21 bp_1_20
      have lp_21 : V9.heap.size < V21.heap.size := World.block_lt_of_cell? _ _ bp_0_21
      have bq_0_21 : V21.cell? ⟨V10.heap.size, 0, none⟩ = some (.string Rs) := cell_later hB21 bq_0_20
      have bq_1_21 : V21.cell? ⟨V10.heap.size, 1, none⟩ = some (.string Ro) := cell_later hB21 bq_1_20
      have lq_21 : V10.heap.size < V21.heap.size := World.block_lt_of_cell? _ _ bq_0_21
      clear hk20 l_20 m_20 a_20 ho_b bd_0_20 bd_1_20 ld_20 bf_0_20 bf_1_20 lf_20 bg_0_20 bg_1_20 lg_20 bp_0_20 bp_1_20 lp_20 bq_0_20 bq_1_20 lq_20
      go_cut [208] (fun sb wx => sb = .bool false ∧ Below V21.heap.size V21 wx)
      case first => as_aux_lemma =>
        go_wp2_with fail
        refine (qStates_same _ _ _ _ _ St _ (by omega) a_21.sl b_21.sl).mono ?_
        rintro e V22 ⟨rfl, hb22⟩
        have hB22 := bl_trans (a := V21) (bl_refl _) hb22
        have hk22 := bl_trans hk21 hB22
        have z22 := Lib.hid hB22.size
        have l_22 := l_21.below hB22
        have m_22 := m_21.below hB22
        have a_22 := a_21.below hB22
        have b_22 := b_21.below hB22
        have bd_0_22 : V22.cell? ⟨V1.heap.size, 0, none⟩ = some (.string d.Safe) := cell_later hB22 bd_0_21
        have bd_1_22 : V22.cell? ⟨V1.heap.size, 1, none⟩ = some (.string d.Open) := cell_later hB22 bd_1_21
        have ld_22 : V1.heap.size < V22.heap.size := World.block_lt_of_cell? _ _ bd_0_22
        have bf_0_22 : V22.cell? ⟨V6.heap.size, 0, none⟩ = some (.string Fs) := cell_later hB22 bf_0_21
        have bf_1_22 : V22.cell? ⟨V6.heap.size, 1, none⟩ = some (.string Fo) := cell_later hB22 bf_1_21
        have lf_22 : V6.heap.size < V22.heap.size := World.block_lt_of_cell? _ _ bf_0_22
        have bg_0_22 : V22.cell? ⟨V7.heap.size, 0, none⟩ = some (.string Fs) := cell_later hB22 bg_0_21
        have bg_1_22 : V22.cell? ⟨V7.heap.size, 1, none⟩ = some (.string Fo) := cell_later hB22 bg_1_21
        have lg_22 : V7.heap.size < V22.heap.size := World.block_lt_of_cell? _ _ bg_0_22
        have bp_0_22 : V22.cell? ⟨V9.heap.size, 0, none⟩ = some (.string Rs) := cell_later hB22 bp_0_21
        have bp_1_22 : V22.cell? ⟨V9.heap.size, 1, none⟩ = some (.string Ro) := cell_later hB22 bp_1_21
        have lp_22 : V9.heap.size < V22.heap.size := World.block_lt_of_cell? _ _ bp_0_22
        have bq_0_22 : V22.cell? ⟨V10.heap.size, 0, none⟩ = some (.string Rs) := cell_later hB22 bq_0_21
        have bq_1_22 : V22.cell? ⟨V10.heap.size, 1, none⟩ = some (.string Ro) := cell_later hB22 bq_1_21
        have lq_22 : V10.heap.size < V22.heap.size := World.block_lt_of_cell? _ _ bq_0_22
        clear hk21 l_21 m_21 a_21 b_21 bd_0_21 bd_1_21 ld_21 bf_0_21 bf_1_21 lf_21 bg_0_21 bg_1_21 lg_21 bp_0_21 bp_1_21 lp_21 bq_0_21 bq_1_21 lq_21
        dsimp only
        rename_i K0 hK0
        refine hK0 _ _ ?_
        iterate 20 go_step
        go_meet
        exact ⟨rfl, hB22⟩
      case rest => as_aux_lemma =>
        obtain ⟨rfl, hb23⟩ := hcut
        obtain ⟨V23, hVV⟩ : ∃ V, V = wc := ⟨_, rfl⟩
        subst hVV
        have hB23 := bl_trans (a := V21) (bl_refl _) hb23
        have hk23 := bl_trans hk21 hB23
        have z23 := Lib.hid hB23.size
        have l_23 := l_21.below hB23
        have m_23 := m_21.below hB23
        have a_23 := a_21.below hB23
        have b_23 := b_21.below hB23
        have bd_0_23 : V23.cell? ⟨V1.heap.size, 0, none⟩ = some (.string d.Safe) := cell_later hB23 bd_0_21
        have bd_1_23 : V23.cell? ⟨V1.heap.size, 1, none⟩ = some (.string d.Open) := cell_later hB23 bd_1_21
        have ld_23 : V1.heap.size < V23.heap.size := World.block_lt_of_cell? _ _ bd_0_23
        have bf_0_23 : V23.cell? ⟨V6.heap.size, 0, none⟩ = some (.string Fs) := cell_later hB23 bf_0_21
        have bf_1_23 : V23.cell? ⟨V6.heap.size, 1, none⟩ = some (.string Fo) := cell_later hB23 bf_1_21
        have lf_23 : V6.heap.size < V23.heap.size := World.block_lt_of_cell? _ _ bf_0_23
        have bg_0_23 : V23.cell? ⟨V7.heap.size, 0, none⟩ = some (.string Fs) := cell_later hB23 bg_0_21
        have bg_1_23 : V23.cell? ⟨V7.heap.size, 1, none⟩ = some (.string Fo) := cell_later hB23 bg_1_21
        have lg_23 : V7.heap.size < V23.heap.size := World.block_lt_of_cell? _ _ bg_0_23
        have bp_0_23 : V23.cell? ⟨V9.heap.size, 0, none⟩ = some (.string Rs) := cell_later hB23 bp_0_21
        have bp_1_23 : V23.cell? ⟨V9.heap.size, 1, none⟩ = some (.string Ro) := cell_later hB23 bp_1_21
        have lp_23 : V9.heap.size < V23.heap.size := World.block_lt_of_cell? _ _ bp_0_23
        have bq_0_23 : V23.cell? ⟨V10.heap.size, 0, none⟩ = some (.string Rs) := cell_later hB23 bq_0_21
        have bq_1_23 : V23.cell? ⟨V10.heap.size, 1, none⟩ = some (.string Ro) := cell_later hB23 bq_1_21
        have lq_23 : V10.heap.size < V23.heap.size := World.block_lt_of_cell? _ _ bq_0_23
        clear hk21 l_21 m_21 a_21 b_21 bd_0_21 bd_1_21 ld_21 bf_0_21 bf_1_21 lf_21 bg_0_21 bg_1_21 lg_21 bp_0_21 bp_1_21 lp_21 bq_0_21 bq_1_21 lq_21
        clear a_23 b_23
        cases lk
        · go_wp2
          go_ret
          exact ⟨rfl, hk23⟩
        obtain ⟨⟨hk0', hk1'⟩, hC1, hLx⟩ := Hhcr.out rfl
        obtain ⟨Ks, Ko, FW, hreC, hsK, hcat, hKs, hKd, hll, hlast, hCs⟩ := crash_facts Hhop.out hsz hC1 hLx HhSt.out
        have hq1 : decide ((Ks.size : Int) < d.Safe.size) = false := decide_eq_false (by omega)
        have hw : IntKind.i64.wrap ((FW.length : Int) + (Lx.length : Int)) = (St.length : Int) := by rw [IntWalk.i64_in _ (by omega)]; omega
        have kQimpl := Lib.hid (show ∀ (W : World) (_ : Env W), Calls Tryd.prog 12 #[.string C1] W fun e w' => e = .returned (.tuple #[.agg #[.string Ks, .string Ko], .bool true]) ∧ Below W.heap.size W w' from fun W he => by have h := implRecoverDiary_any C1 W (by omega) he; rw [hreC] at h; exact h)
        have kQspec := Lib.hid (show ∀ (W : World), Calls Tryd.prog 13 #[.string C1] W fun e w' => e = .returned (.tuple #[.agg #[.string Ks, .string Ko], .bool true]) ∧ Below W.heap.size W w' from fun W => by have h := specRecoverDiary_any C1 W (by omega); rw [hreC] at h; exact h)
        have kW3 := Lib.hid (show ∀ (W : World), Calls Tryd.prog 17 #[.agg #[.string Ks, .string Ko]] W fun e w' => ∃ A c, e = .returned (.tuple #[.slice A FW.length c, .bool true]) ∧ Own w' W.heap.size 40 (.slice A FW.length c) FW ∧ Below W.heap.size W w' from fun W => by have h := specWrittenStates_any ⟨Ks, Ko⟩ W (by simp only []; omega); rw [hsK] at h; exact h)
        have HhC1 := Lib.hid hC1
        clear hC1
        have HhLx := Lib.hid hLx
        clear hLx
        have HhreC := Lib.hid hreC
        clear hreC
        have HhsK := Lib.hid hsK
        clear hsK
        have Hhcat := Lib.hid hcat
        clear hcat
        have Hhlast := Lib.hid hlast
        clear hlast
        have Hhll := Lib.hid hll
        clear hll
        go_wp2_with fail
        refine (kQimpl.out _ (he.below hk23)).mono ?_
        rintro e V24 ⟨rfl, hb24⟩
        have hB24 := bl_trans (a := V23) (bl_refl _) hb24
        have hk24 := bl_trans hk23 hB24
        have z24 := Lib.hid hB24.size
        have l_24 := l_23.below hB24
        have m_24 := m_23.below hB24
        have bd_0_24 : V24.cell? ⟨V1.heap.size, 0, none⟩ = some (.string d.Safe) := cell_later hB24 bd_0_23
        have bd_1_24 : V24.cell? ⟨V1.heap.size, 1, none⟩ = some (.string d.Open) := cell_later hB24 bd_1_23
        have ld_24 : V1.heap.size < V24.heap.size := World.block_lt_of_cell? _ _ bd_0_24
        have bf_0_24 : V24.cell? ⟨V6.heap.size, 0, none⟩ = some (.string Fs) := cell_later hB24 bf_0_23
        have bf_1_24 : V24.cell? ⟨V6.heap.size, 1, none⟩ = some (.string Fo) := cell_later hB24 bf_1_23
        have lf_24 : V6.heap.size < V24.heap.size := World.block_lt_of_cell? _ _ bf_0_24
        have bg_0_24 : V24.cell? ⟨V7.heap.size, 0, none⟩ = some (.string Fs) := cell_later hB24 bg_0_23
        have bg_1_24 : V24.cell? ⟨V7.heap.size, 1, none⟩ = some (.string Fo) := cell_later hB24 bg_1_23
        have lg_24 : V7.heap.size < V24.heap.size := World.block_lt_of_cell? _ _ bg_0_24
        have bp_0_24 : V24.cell? ⟨V9.heap.size, 0, none⟩ = some (.string Rs) := cell_later hB24 bp_0_23
        have bp_1_24 : V24.cell? ⟨V9.heap.size, 1, none⟩ = some (.string Ro) := cell_later hB24 bp_1_23
        have lp_24 : V9.heap.size < V24.heap.size := World.block_lt_of_cell? _ _ bp_0_24
        have bq_0_24 : V24.cell? ⟨V10.heap.size, 0, none⟩ = some (.string Rs) := cell_later hB24 bq_0_23
        have bq_1_24 : V24.cell? ⟨V10.heap.size, 1, none⟩ = some (.string Ro) := cell_later hB24 bq_1_23
        have lq_24 : V10.heap.size < V24.heap.size := World.block_lt_of_cell? _ _ bq_0_24
        clear hk23 l_23 m_23 bd_0_23 bd_1_23 ld_23 bf_0_23 bf_1_23 lf_23 bg_0_23 bg_1_23 lg_23 bp_0_23 bp_1_23 lp_23 bq_0_23 bq_1_23 lq_23
        go_wp2_with fail
        refine (kQspec.out _).mono ?_
        rintro e V25 ⟨rfl, hb25⟩
        have hB25 := bl_trans (a := V24) (by repeat' (first | exact bl_refl _ | refine bl_alloc ?_ _ | refine bl_drew ?_ | refine bl_drewN ?_ _ | refine bl_set ?_ ?_ _ | (simp; done) | (simp; omega))) hb25
        have hk25 := bl_trans hk24 hB25
        have z25 : Hid (V24.heap.size + 1 ≤ V25.heap.size) := by have := hb25.size; simp only [World.size_alloc] at this; exact (by omega : _)
        have l_25 := l_24.below hB25
        have m_25 := m_24.below hB25
        have bd_0_25 : V25.cell? ⟨V1.heap.size, 0, none⟩ = some (.string d.Safe) := cell_later hB25 bd_0_24
        have bd_1_25 : V25.cell? ⟨V1.heap.size, 1, none⟩ = some (.string d.Open) := cell_later hB25 bd_1_24
        have ld_25 : V1.heap.size < V25.heap.size := World.block_lt_of_cell? _ _ bd_0_25
        have bf_0_25 : V25.cell? ⟨V6.heap.size, 0, none⟩ = some (.string Fs) := cell_later hB25 bf_0_24
        have bf_1_25 : V25.cell? ⟨V6.heap.size, 1, none⟩ = some (.string Fo) := cell_later hB25 bf_1_24
        have lf_25 : V6.heap.size < V25.heap.size := World.block_lt_of_cell? _ _ bf_0_25
        have bg_0_25 : V25.cell? ⟨V7.heap.size, 0, none⟩ = some (.string Fs) := cell_later hB25 bg_0_24
        have bg_1_25 : V25.cell? ⟨V7.heap.size, 1, none⟩ = some (.string Fo) := cell_later hB25 bg_1_24
        have lg_25 : V7.heap.size < V25.heap.size := World.block_lt_of_cell? _ _ bg_0_25
        have bp_0_25 : V25.cell? ⟨V9.heap.size, 0, none⟩ = some (.string Rs) := cell_later hB25 bp_0_24
        have bp_1_25 : V25.cell? ⟨V9.heap.size, 1, none⟩ = some (.string Ro) := cell_later hB25 bp_1_24
        have lp_25 : V9.heap.size < V25.heap.size := World.block_lt_of_cell? _ _ bp_0_25
        have bq_0_25 : V25.cell? ⟨V10.heap.size, 0, none⟩ = some (.string Rs) := cell_later hB25 bq_0_24
        have bq_1_25 : V25.cell? ⟨V10.heap.size, 1, none⟩ = some (.string Ro) := cell_later hB25 bq_1_24
        have lq_25 : V10.heap.size < V25.heap.size := World.block_lt_of_cell? _ _ bq_0_25
        have bu_0_25 : V25.cell? ⟨V24.heap.size, 0, none⟩ = some (.string Ks) := cell_later hb25 (by go_simp)
        have bu_1_25 : V25.cell? ⟨V24.heap.size, 1, none⟩ = some (.string Ko) := cell_later hb25 (by go_simp)
        have lu_25 : V24.heap.size < V25.heap.size := World.block_lt_of_cell? _ _ bu_0_25
        clear hk24 l_24 m_24 bd_0_24 bd_1_24 ld_24 bf_0_24 bf_1_24 lf_24 bg_0_24 bg_1_24 lg_24 bp_0_24 bp_1_24 lp_24 bq_0_24 bq_1_24 lq_24
        go_wp2_with fail
        refine (kW2.out _).mono ?_
        rintro e V26 ⟨A_t32, c_t32, rfl, ho_t32, hb26⟩
        have Hi_t32 := Lib.hid ho_t32.lies
        have hB26 := bl_trans (a := V25) (by repeat' (first | exact bl_refl _ | refine bl_alloc ?_ _ | refine bl_drew ?_ | refine bl_drewN ?_ _ | refine bl_set ?_ ?_ _ | (simp; done) | (simp; omega))) hb26
        have hk26 := bl_trans hk25 hB26
        have z26 : Hid (V25.heap.size + 1 ≤ V26.heap.size) := by have := hb26.size; simp only [World.size_alloc] at this; exact (by omega : _)
        have l_26 := l_25.below hB26
        have m_26 := m_25.below hB26
        have bd_0_26 : V26.cell? ⟨V1.heap.size, 0, none⟩ = some (.string d.Safe) := cell_later hB26 bd_0_25
        have bd_1_26 : V26.cell? ⟨V1.heap.size, 1, none⟩ = some (.string d.Open) := cell_later hB26 bd_1_25
        have ld_26 : V1.heap.size < V26.heap.size := World.block_lt_of_cell? _ _ bd_0_26
        have bf_0_26 : V26.cell? ⟨V6.heap.size, 0, none⟩ = some (.string Fs) := cell_later hB26 bf_0_25
        have bf_1_26 : V26.cell? ⟨V6.heap.size, 1, none⟩ = some (.string Fo) := cell_later hB26 bf_1_25
        have lf_26 : V6.heap.size < V26.heap.size := World.block_lt_of_cell? _ _ bf_0_26
        have bg_0_26 : V26.cell? ⟨V7.heap.size, 0, none⟩ = some (.string Fs) := cell_later hB26 bg_0_25
        have bg_1_26 : V26.cell? ⟨V7.heap.size, 1, none⟩ = some (.string Fo) := cell_later hB26 bg_1_25
        have lg_26 : V7.heap.size < V26.heap.size := World.block_lt_of_cell? _ _ bg_0_26
        have bp_0_26 : V26.cell? ⟨V9.heap.size, 0, none⟩ = some (.string Rs) := cell_later hB26 bp_0_25
        have bp_1_26 : V26.cell? ⟨V9.heap.size, 1, none⟩ = some (.string Ro) := cell_later hB26 bp_1_25
        have lp_26 : V9.heap.size < V26.heap.size := World.block_lt_of_cell? _ _ bp_0_26
        have bq_0_26 : V26.cell? ⟨V10.heap.size, 0, none⟩ = some (.string Rs) := cell_later hB26 bq_0_25
        have bq_1_26 : V26.cell? ⟨V10.heap.size, 1, none⟩ = some (.string Ro) := cell_later hB26 bq_1_25
        have lq_26 : V10.heap.size < V26.heap.size := World.block_lt_of_cell? _ _ bq_0_26
        have bu_0_26 : V26.cell? ⟨V24.heap.size, 0, none⟩ = some (.string Ks) := cell_later hB26 bu_0_25
        have bu_1_26 : V26.cell? ⟨V24.heap.size, 1, none⟩ = some (.string Ko) := cell_later hB26 bu_1_25
        have lu_26 : V24.heap.size < V26.heap.size := World.block_lt_of_cell? _ _ bu_0_26
        have bv_0_26 : V26.cell? ⟨V25.heap.size, 0, none⟩ = some (.string Ks) := cell_later hb26 (by go_simp)
        have bv_1_26 : V26.cell? ⟨V25.heap.size, 1, none⟩ = some (.string Ko) := cell_later hb26 (by go_simp)
        have lv_26 : V25.heap.size < V26.heap.size := World.block_lt_of_cell? _ _ bv_0_26
        clear hk25 l_25 m_25 bd_0_25 bd_1_25 ld_25 bf_0_25 bf_1_25 lf_25 bg_0_25 bg_1_25 lg_25 bp_0_25 bp_1_25 lp_25 bq_0_25 bq_1_25 lq_25 bu_0_25 bu_1_25 lu_25
        go_wp2_with fail
        refine (kW3.out _).mono ?_
        rintro e V27 ⟨A_t34, c_t34, rfl, ho_t34, hb27⟩
        have Hi_t34 := Lib.hid ho_t34.lies
        have hB27 := bl_trans (a := V26) (bl_refl _) hb27
        have hk27 := bl_trans hk26 hB27
        have z27 := Lib.hid hB27.size
        have l_27 := l_26.below hB27
        have m_27 := m_26.below hB27
        have t32_27 := ho_t32.below hB27
        have bd_0_27 : V27.cell? ⟨V1.heap.size, 0, none⟩ = some (.string d.Safe) := cell_later hB27 bd_0_26
        have bd_1_27 : V27.cell? ⟨V1.heap.size, 1, none⟩ = some (.string d.Open) := cell_later hB27 bd_1_26
        have ld_27 : V1.heap.size < V27.heap.size := World.block_lt_of_cell? _ _ bd_0_27
        have bf_0_27 : V27.cell? ⟨V6.heap.size, 0, none⟩ = some (.string Fs) := cell_later hB27 bf_0_26
        have bf_1_27 : V27.cell? ⟨V6.heap.size, 1, none⟩ = some (.string Fo) := cell_later hB27 bf_1_26
        have lf_27 : V6.heap.size < V27.heap.size := World.block_lt_of_cell? _ _ bf_0_27
        have bg_0_27 : V27.cell? ⟨V7.heap.size, 0, none⟩ = some (.string Fs) := cell_later hB27 bg_0_26
        have bg_1_27 : V27.cell? ⟨V7.heap.size, 1, none⟩ = some (.string Fo) := cell_later hB27 bg_1_26
        have lg_27 : V7.heap.size < V27.heap.size := World.block_lt_of_cell? _ _ bg_0_27
        have bp_0_27 : V27.cell? ⟨V9.heap.size, 0, none⟩ = some (.string Rs) := cell_later hB27 bp_0_26
        have bp_1_27 : V27.cell? ⟨V9.heap.size, 1, none⟩ = some (.string Ro) := cell_later hB27 bp_1_26
        have lp_27 : V9.heap.size < V27.heap.size := World.block_lt_of_cell? _ _ bp_0_27
        have bq_0_27 : V27.cell? ⟨V10.heap.size, 0, none⟩ = some (.string Rs) := cell_later hB27 bq_0_26
        have bq_1_27 : V27.cell? ⟨V10.heap.size, 1, none⟩ = some (.string Ro) := cell_later hB27 bq_1_26
        have lq_27 : V10.heap.size < V27.heap.size := World.block_lt_of_cell? _ _ bq_0_27
        have bu_0_27 : V27.cell? ⟨V24.heap.size, 0, none⟩ = some (.string Ks) := cell_later hB27 bu_0_26
        have bu_1_27 : V27.cell? ⟨V24.heap.size, 1, none⟩ = some (.string Ko) := cell_later hB27 bu_1_26
        have lu_27 : V24.heap.size < V27.heap.size := World.block_lt_of_cell? _ _ bu_0_27
        have bv_0_27 : V27.cell? ⟨V25.heap.size, 0, none⟩ = some (.string Ks) := cell_later hB27 bv_0_26
        have bv_1_27 : V27.cell? ⟨V25.heap.size, 1, none⟩ = some (.string Ko) := cell_later hB27 bv_1_26
        have lv_27 : V25.heap.size < V27.heap.size := World.block_lt_of_cell? _ _ bv_0_27
        clear hk26 l_26 m_26 ho_t32 bd_0_26 bd_1_26 ld_26 bf_0_26 bf_1_26 lf_26 bg_0_26 bg_1_26 lg_26 bp_0_26 bp_1_26 lp_26 bq_0_26 bq_1_26 lq_26 bu_0_26 bu_1_26 lu_26 bv_0_26 bv_1_26 lv_26
        go_upto_region 27 with fail
        refine wp_below (fun V28 hb28 => ?_)
        have hB28 := bl_trans (a := V27) (bl_refl _) hb28
        have hk28 := bl_trans hk27 hB28
        have z28 := Lib.hid hB28.size
        have l_28 := l_27.below hB28
        have m_28 := m_27.below hB28
        have t32_28 := t32_27.below hB28
        have t34_28 := ho_t34.below hB28
        have bd_0_28 : V28.cell? ⟨V1.heap.size, 0, none⟩ = some (.string d.Safe) := cell_later hB28 bd_0_27
        have bd_1_28 : V28.cell? ⟨V1.heap.size, 1, none⟩ = some (.string d.Open) := cell_later hB28 bd_1_27
        have ld_28 : V1.heap.size < V28.heap.size := World.block_lt_of_cell? _ _ bd_0_28
        have bf_0_28 : V28.cell? ⟨V6.heap.size, 0, none⟩ = some (.string Fs) := cell_later hB28 bf_0_27
        have bf_1_28 : V28.cell? ⟨V6.heap.size, 1, none⟩ = some (.string Fo) := cell_later hB28 bf_1_27
        have lf_28 : V6.heap.size < V28.heap.size := World.block_lt_of_cell? _ _ bf_0_28
        have bg_0_28 : V28.cell? ⟨V7.heap.size, 0, none⟩ = some (.string Fs) := cell_later hB28 bg_0_27
        have bg_1_28 : V28.cell? ⟨V7.heap.size, 1, none⟩ = some (.string Fo) := cell_later hB28 bg_1_27
        have lg_28 : V7.heap.size < V28.heap.size := World.block_lt_of_cell? _ _ bg_0_28
        have bp_0_28 : V28.cell? ⟨V9.heap.size, 0, none⟩ = some (.string Rs) := cell_later hB28 bp_0_27
        have bp_1_28 : V28.cell? ⟨V9.heap.size, 1, none⟩ = some (.string Ro) := cell_later hB28 bp_1_27
        have lp_28 : V9.heap.size < V28.heap.size := World.block_lt_of_cell? _ _ bp_0_28
        have bq_0_28 : V28.cell? ⟨V10.heap.size, 0, none⟩ = some (.string Rs) := cell_later hB28 bq_0_27
        have bq_1_28 : V28.cell? ⟨V10.heap.size, 1, none⟩ = some (.string Ro) := cell_later hB28 bq_1_27
        have lq_28 : V10.heap.size < V28.heap.size := World.block_lt_of_cell? _ _ bq_0_28
        have bu_0_28 : V28.cell? ⟨V24.heap.size, 0, none⟩ = some (.string Ks) := cell_later hB28 bu_0_27
        have bu_1_28 : V28.cell? ⟨V24.heap.size, 1, none⟩ = some (.string Ko) := cell_later hB28 bu_1_27
        have lu_28 : V24.heap.size < V28.heap.size := World.block_lt_of_cell? _ _ bu_0_28
        have bv_0_28 : V28.cell? ⟨V25.heap.size, 0, none⟩ = some (.string Ks) := cell_later hB28 bv_0_27
        have bv_1_28 : V28.cell? ⟨V25.heap.size, 1, none⟩ = some (.string Ko) := cell_later hB28 bv_1_27
        have lv_28 : V25.heap.size < V28.heap.size := World.block_lt_of_cell? _ _ bv_0_28
        clear hk27 l_27 m_27 t32_27 ho_t34 bd_0_27 bd_1_27 ld_27 bf_0_27 bf_1_27 lf_27 bg_0_27 bg_1_27 lg_27 bp_0_27 bp_1_27 lp_27 bq_0_27 bq_1_27 lq_27 bu_0_27 bu_1_27 lu_27 bv_0_27 bv_1_27 lv_27
        go_cut [267] (fun sb wx => sb = .bool false ∧ Below V28.heap.size V28 wx)
        case first => as_aux_lemma =>
          iterate 87 go_step
          go_meet
          refine ⟨?_, bl_refl _⟩
          first | rfl | rw [decide_eq_false (show ¬ (Ks.size < d.Safe.size) by omega)]
        case rest => as_aux_lemma =>
          obtain ⟨rfl, hb29⟩ := hcut
          obtain ⟨V29, hVV⟩ : ∃ V, V = wc := ⟨_, rfl⟩
          subst hVV
          have hB29 := bl_trans (a := V28) (bl_refl _) hb29
          have hk29 := bl_trans hk28 hB29
          have z29 := Lib.hid hB29.size
          have l_29 := l_28.below hB29
          have m_29 := m_28.below hB29
          have t32_29 := t32_28.below hB29
          have t34_29 := t34_28.below hB29
          have bd_0_29 : V29.cell? ⟨V1.heap.size, 0, none⟩ = some (.string d.Safe) := cell_later hB29 bd_0_28
          have bd_1_29 : V29.cell? ⟨V1.heap.size, 1, none⟩ = some (.string d.Open) := cell_later hB29 bd_1_28
          have ld_29 : V1.heap.size < V29.heap.size := World.block_lt_of_cell? _ _ bd_0_29
          have bf_0_29 : V29.cell? ⟨V6.heap.size, 0, none⟩ = some (.string Fs) := cell_later hB29 bf_0_28
          have bf_1_29 : V29.cell? ⟨V6.heap.size, 1, none⟩ = some (.string Fo) := cell_later hB29 bf_1_28
          have lf_29 : V6.heap.size < V29.heap.size := World.block_lt_of_cell? _ _ bf_0_29
          have bg_0_29 : V29.cell? ⟨V7.heap.size, 0, none⟩ = some (.string Fs) := cell_later hB29 bg_0_28
          have bg_1_29 : V29.cell? ⟨V7.heap.size, 1, none⟩ = some (.string Fo) := cell_later hB29 bg_1_28
          have lg_29 : V7.heap.size < V29.heap.size := World.block_lt_of_cell? _ _ bg_0_29
          have bp_0_29 : V29.cell? ⟨V9.heap.size, 0, none⟩ = some (.string Rs) := cell_later hB29 bp_0_28
          have bp_1_29 : V29.cell? ⟨V9.heap.size, 1, none⟩ = some (.string Ro) := cell_later hB29 bp_1_28
          have lp_29 : V9.heap.size < V29.heap.size := World.block_lt_of_cell? _ _ bp_0_29
          have bq_0_29 : V29.cell? ⟨V10.heap.size, 0, none⟩ = some (.string Rs) := cell_later hB29 bq_0_28
          have bq_1_29 : V29.cell? ⟨V10.heap.size, 1, none⟩ = some (.string Ro) := cell_later hB29 bq_1_28
          have lq_29 : V10.heap.size < V29.heap.size := World.block_lt_of_cell? _ _ bq_0_29
          have bu_0_29 : V29.cell? ⟨V24.heap.size, 0, none⟩ = some (.string Ks) := cell_later hB29 bu_0_28
          have bu_1_29 : V29.cell? ⟨V24.heap.size, 1, none⟩ = some (.string Ko) := cell_later hB29 bu_1_28
          have lu_29 : V24.heap.size < V29.heap.size := World.block_lt_of_cell? _ _ bu_0_29
          have bv_0_29 : V29.cell? ⟨V25.heap.size, 0, none⟩ = some (.string Ks) := cell_later hB29 bv_0_28
          have bv_1_29 : V29.cell? ⟨V25.heap.size, 1, none⟩ = some (.string Ko) := cell_later hB29 bv_1_28
          have lv_29 : V25.heap.size < V29.heap.size := World.block_lt_of_cell? _ _ bv_0_29
          clear hk28 l_28 m_28 t32_28 t34_28 bd_0_28 bd_1_28 ld_28 bf_0_28 bf_1_28 lf_28 bg_0_28 bg_1_28 lg_28 bp_0_28 bp_1_28 lp_28 bq_0_28 bq_1_28 lq_28 bu_0_28 bu_1_28 lu_28 bv_0_28 bv_1_28 lv_28
          clear bf_0_29 bf_1_29 lf_29 bg_0_29 bg_1_29 lg_29 bp_0_29 bp_1_29 lp_29 bq_0_29 bq_1_29 lq_29 bu_0_29 bu_1_29 lu_29 bv_0_29 bv_1_29 lv_29 l_29
          have hll := Hhll.out
          go_upto_region 30 with fail
          go_wp2_with ((at_builtin; refine wpList_appN rfl (.tmp 269) (.tmp 270) _ _ rfl el_state (w0 := w) (xs := FW) (ys := Lx) rfl (t34_29.mono (by have := z1.out; have := z2.out; have := z3.out; have := z4.out; have := z5.out; have := z6.out; have := z7.out; have := z8.out; have := z9.out; have := z10.out; have := z11.out; have := z16.out; have := z17.out; have := z18.out; have := z19.out; have := z20.out; have := z21.out; have := z23.out; have := z24.out; have := z25.out; have := z26.out; have := z27.out; have := z28.out; have := z29.out; omega)) hk29 rfl m_29.sl (by omega) ?_; intro A3 c3 w3 ho3 hb3 hg3))
          have hf3 := OnlyF.of_gb hg3
          have o32 := t32_29.only hf3 (Hi_t32.out.apart Hi_t34.out (by have := z1.out; have := z2.out; have := z3.out; have := z4.out; have := z5.out; have := z6.out; have := z7.out; have := z8.out; have := z9.out; have := z10.out; have := z11.out; have := z16.out; have := z17.out; have := z18.out; have := z19.out; have := z20.out; have := z21.out; have := z23.out; have := z24.out; have := z25.out; have := z26.out; have := z27.out; have := z28.out; have := z29.out; omega))
          have e1 := hf3.keeps bd_1_29 (fun hm => by have h4 := Hi_t34.out _ hm; (try simp at h4); have := z1.out; have := z2.out; have := z3.out; have := z4.out; have := z5.out; have := z6.out; have := z7.out; have := z8.out; have := z9.out; have := z10.out; have := z11.out; have := z16.out; have := z17.out; have := z18.out; have := z19.out; have := z20.out; have := z21.out; have := z23.out; have := z24.out; have := z25.out; have := z26.out; have := z27.out; have := z28.out; have := z29.out; omega)
          rw [Hhcat.out] at ho3
          have HS := Lib.hid ho3.sl
          have HT := Lib.hid o32.sl
          have HB := Lib.hid hb3
          clear ho3 o32 hg3 hf3 hb3
          clear t32_29
          clear t34_29
          clear m_29
          clear Hi_t32 Hi_t34
          go_wp2
          go_loopw [273] (fun iv wr => ∃ i : Nat, i ≤ FW.length + Lx.length ∧ iv = .int .i64 i ∧ Below w3.heap.size w3 wr) (fun iv _ => FW.length + Lx.length - (intOf iv).toNat)
          case atStart => exact ⟨0, Nat.zero_le _, rfl, bl_refl _⟩
          case round =>
            obtain ⟨i, hi, rfl, hbr⟩ := hrel
            by_cases hlt : i < FW.length + Lx.length
            · obtain ⟨b, o, rfl, hbz, c0, c1⟩ := (HS.out.below hbr).state hlt
              obtain ⟨b', o', rfl, hbz', d0, d1⟩ := (HT.out.below hbr).state (by omega : i < St.length)
              have hid1 : (i : Int) < (FW.length : Int) + (Lx.length : Int) := by omega
              have hid2 : (i : Int) < (St.length : Int) := by omega
              go_upto_region 33 with fail
              refine wp_below (fun X5 hX5 => ?_)
              have hB5 := bl_trans (bl_alloc (bl_refl wr) _) hX5
              have f0 : X5.cell? ⟨wr.heap.size, 0, none⟩ = some (.string (nth St i).Name) := cell_later hX5 (by go_simp)
              have f1 : X5.cell? ⟨wr.heap.size, 1, none⟩ = some (.int .i64 (nth St i).Value) := cell_later hX5 (by go_simp)
              have d0 := cell_later hB5 d0
              have d1 := cell_later hB5 d1
              clear hX5 c0 c1
              refine wp_region_grow (by kernel_rfl) (by kernel_rfl) (fun X hX => ?_)
              have hbX : Below X5.heap.size X5 X := by rw [hX]; exact bl_refl _
              have q0 := Gw.cell (cell_later hbX d0)
              have q1 := Gw.cell (cell_later hbX d1)
              have q2 := Gw.cell (cell_later hbX f0)
              have q3 := Gw.cell (cell_later hbX f1)
              have HX := Lib.hid hX
              clear hX
              repeat (go_big_quiet_step (fail))
              refine wpGrow_nil (fun V6 hV => ?_)
              have hb6 := bl_trans (bl_trans hbr hB5) (bl_trans hbX hV)
              clear hV hbX HX q0 q1 q2 q3 d0 d1 f0 f1
              go_wp2
              go_roundw
              case rel => exact ⟨i + 1, by omega, by go_num, hb6⟩
              case measure => simp [intOf]; omega
            · have e1 := cell_later hbr e1
              have hnid : ¬ ((i : Int) < (FW.length : Int) + (Lx.length : Int)) := by omega
              by_cases hk : k = (d.Open.size : Int)
              · have hl0 := Hhlast.out hk
                go_wp2
                go_ret
                exact ⟨rfl, bl_trans HB.out hbr⟩
              · go_wp2
                go_ret
                exact ⟨rfl, bl_trans HB.out hbr⟩
instance : Ok Byt := ⟨fun x => 0 ≤ x.v ∧ x.v ≤ 255⟩
theorem opens_u8 {P : Program} {t : TypeId} (ht : P.underlying t = some (.int .u8)) : Opens P t Byt := fun h => by
  obtain ⟨n, rfl, _, hw⟩ := DataW.trod_int ht h
  exact ⟨⟨n⟩, rfl, by simpa [Ok.ok, Lit.wf, IntKind.min, IntKind.max, IntKind.signed, IntKind.bits] using hw⟩

open Go.WideShapes Go.ChangeShapes Go.ChangeAt
theorem own_ : ownKnob Tryd.prog.godebug = none := by kernel_rfl
theorem laid_ : laidOutB Tryd.prog = true := by kernel_rfl
theorem of_change_and_shaped {H : Type} {enc : TypeId × Value → H} {a : Assume} {C : Checked} {os : Os} {f : FuncId} {fn : Func} {s : ChangeSpec} {conds : List PathCond} {apart fresh handsOn again : Bool} {X : World → Array Value → Prop}
    (hX : ∀ (w w' : World) (args : Array Value), w.heap = w'.heap → X w args → X w' args)
    (own : ownKnob C.prog.godebug = none) (started : os.Started) (noInit : C.prog.inits.idxOf? f = none) (hfn : C.prog.funcs[f]? = some fn)
    (witness : ∃ (w : World) (tape : Tape) (i : Input), w.os = os ∧ (w.forCall tape i).Shaped C.prog ∧ i.vars = [] ∧ Input.okWide C.prog (w.forCall tape i) .any w.heap.size f i ∧
      ((s.pre enc C.prog fn conds apart (w.forCall tape i).memory i.args ∧ X (w.forCall tape i).memory i.args) ∧ sizedMet enc C.prog fn (OpenSpec.ofChange s) apart (w.forCall tape i).memory i.args) ∧ a.holds C.prog (lone (Frame.enter C.prog f i.args .normal) [] (w.forCall tape i)))
    (contract : ∀ (W : World) (base : Nat) (args : Array Value) (ds gs : List (DataW H)) (before : List MemPlace),
      (∀ (j : Nat) t v, fn.params[j]? = some t → args[j]? = some v → Value.okWide C.prog W .any base t v) →
      DataW.Whole enc C.prog fn.params.toList s.vars apart W args.toList ds gs before → X W args → W.ShapedOpen C.prog →
      Calls C.prog f args W fun e W' => ∃ v, e = .returned v ∧ s.post enc C.prog fn apart fresh handsOn again W args v W') :
    ReturnsInHanded a C os f .any (fun w args => (s.pre enc C.prog fn conds apart w args ∧ X w args) ∧ sizedMet enc C.prog fn (OpenSpec.ofChange s) apart w args) (s.post enc C.prog fn apart fresh handsOn again) := by
  refine returnsInHanded_of_calls own started noInit witness ?_
  intro w tape i _ hsh _ hok hpre hholds
  obtain ⟨_, _, _, fn', hfn', _, _, _, _, hval⟩ := hok
  have e : fn' = fn := Option.some.inj (hfn'.symm.trans hfn)
  subst e
  obtain ⟨⟨⟨ds, gs, before, hw, _⟩, hx⟩, _⟩ := hpre
  have hw' := DataW.Whole.of_heap (w' := w.forCall tape i) (by rfl) hw
  refine (contract (w.forCall tape i) w.heap.size i.args ds gs before hval hw' (hX _ _ _ (by rfl) hx) hsh).mono fun e W' ⟨v, he, hp⟩ => ?_
  subst he
  exact ChangeSpec.post_blind hp
set_option maxRecDepth 100000 in
theorem contract_ (H : Type) (enc : TypeId × Value → H) (W : World) (base : Nat) (args : Array Value) (ds gs : List (DataW H)) (before : List MemPlace)
    (hval : ∀ (j : Nat) t v, Tryd.f3.params[j]? = some t → args[j]? = some v → Value.okWide Tryd.prog W .any base t v)
    (hW : DataW.Whole enc Tryd.prog Tryd.f3.params.toList Rows.fnDiaryCrashesSpec.vars false W args.toList ds gs before) (hL : laidMetH Tryd.prog Rows.fnDiaryCrashesRow.laid W) (hS : W.ShapedOpen Tryd.prog) :
    Calls Tryd.prog 3 args W fun e W' => ∃ v, e = .returned v ∧ Rows.fnDiaryCrashesSpec.post enc Tryd.prog Tryd.f3 false true false false W args v W' := by
  have hW' := hW
  obtain ⟨p, q, hA0, hV, rfl, hfz, hnd⟩ := hW
  have hA : DataW.TrodAll enc Tryd.prog W 0 (fun _ => true) true Tryd.f3.params.toList args.toList ds p := hA0
  rw [Tryd.params3] at hA hval
  obtain ⟨v0, vs0, d0, ds0, p0, q0, hargs, rfl, rfl, h0, r0⟩ := trodAll_cons hA
  obtain ⟨v1, vs1, d1, ds1, p1, q1, rfl, rfl, rfl, h1, r1⟩ := trodAll_cons r0
  obtain ⟨rfl, rfl, rfl⟩ := trodAll_nil r1
  obtain rfl : args = #[v0, v1] := by cases args; simp_all
  obtain ⟨rfl, rfl⟩ := trodVars_none hV
  obtain ⟨A0, n0, c0, rfl⟩ := okWide_slice Tryd.underlying22 (hval 0 _ v0 rfl rfl)
  obtain ⟨fuel0, h0⟩ := h0
  obtain ⟨x0, ⟨A0', c0', e0, hs0, hm0⟩, ho0⟩ := opens_slice Tryd.underlying22 (by kernel_rfl) ((opens_u8 Tryd.underlying5)) h0
  obtain ⟨rfl, rfl, rfl⟩ : A0 = A0' ∧ n0 = x0.length ∧ c0 = c0' := by simpa [Value.cells] using e0
  have hm0 : (x0.length : Int) ≤ 9223372036854775807 := by unfold maxLen at hm0; omega
  obtain ⟨A1, n1, c1, rfl⟩ := okWide_slice Tryd.underlying22 (hval 1 _ v1 rfl rfl)
  obtain ⟨fuel1, h1⟩ := h1
  obtain ⟨x1, ⟨A1', c1', e1, hs1, hm1⟩, ho1⟩ := opens_slice Tryd.underlying22 (by kernel_rfl) ((opens_u8 Tryd.underlying5)) h1
  obtain ⟨rfl, rfl, rfl⟩ : A1 = A1' ∧ n1 = x1.length ∧ c1 = c1' := by simpa [Value.cells] using e1
  have hm1 : (x1.length : Int) ≤ 9223372036854775807 := by unfold maxLen at hm1; omega
  refine (walk A0 _ c0 x0 A1 _ c1 x1 W (env_of hL hS) ⟨hs0, hm0, ho0⟩ ⟨hs1, hm1, ho1⟩).mono fun e W' ⟨he, hb⟩ => ?_
  exact ⟨_, he, post_law laid_ Tryd.underlying4 rfl rfl (by kernel_rfl) ⟨rfl, rfl, rfl⟩ hW' hb⟩

set_option maxRecDepth 100000 in
theorem lifted_ (os : Os) (started : os.Started) (H : Type) (enc : TypeId × Value → H) :
    ReturnsInHanded {} Tryd.checked os 3 .any (fun w args => (Rows.fnDiaryCrashesSpec.pre enc Tryd.prog Tryd.f3 [] false w args ∧ laidMetH Tryd.prog Rows.fnDiaryCrashesRow.laid w) ∧ sizedMet enc Tryd.prog Tryd.f3 (OpenSpec.ofChange Rows.fnDiaryCrashesSpec) false w args) (Rows.fnDiaryCrashesSpec.post enc Tryd.prog Tryd.f3 false true false false) := by
  refine of_change_and_shaped (C := Tryd.checked) (X := fun w _ => laidMetH Tryd.prog Rows.fnDiaryCrashesRow.laid w) (fun _ _ _ hh h => h.of_heap hh) own_ started (by kernel_rfl) Tryd.func3
    (ChangeSpec.witness_shaped (enc := enc) (C := Tryd.checked) (os := os) (X := fun w _ => laidMetH Tryd.prog Rows.fnDiaryCrashesRow.laid w) false (World.laidAll Tryd.prog os Rows.fnDiaryCrashesRow.laid) #[.slice none 0 0, .slice none 0 0] 8 (World.laidAll_os _ _ _)
      (World.shaped_of_ZipB (by kernel_rfl) (by kernel_rfl)) (by kernel_rfl) (by kernel_rfl) (by kernel_rfl)
      (by rw [MakeChecks.laidMetH_plain _ _ _ (by kernel_rfl)]; exact laidMet_laidAll _ (by kernel_rfl) (by kernel_rfl))) ?_
  intro W base args ds gs before hval0 hW hL hS
  exact contract_ H enc W base args ds gs before hval0 hW hL hS

theorem said : Rows.FnDiaryCrashesSaid :=
  OpenClaim.holds_of_wide 3 Tryd.f3 rfl rfl rfl rfl rfl rfl rfl ⟨rfl, rfl, rfl, rfl, rfl⟩ rfl rfl rfl rfl rfl (by kernel_rfl) Tryd.func3 (by kernel_rfl)
    (of_decide_eq_true (by kernel_rfl)) (by unfold Func.isWrapper; first | (rw [if_pos (by decide +kernel)]; kernel_rfl) | (rw [if_neg (by decide +kernel)]; exact ⟨rfl, rfl⟩))
    (fun os started H enc _ => lifted_ os started H enc)
/-- No parameter wants a stand-in. -/
theorem plain (f : FuncId) (fn : Func) (hf : Tryd.pinned.checked.prog.funcNamed "loop.example/g01020/laws.FnDiaryCrashes" = some f) (hfn : Tryd.pinned.checked.prog.funcs[f]? = some fn) :
    true = Tryd.pinned.checked.prog.looks [] ∧ ∀ (j : Nat) t, fn.params[j]? = some t → Tryd.pinned.checked.prog.wantsStandIn t = false := by
  obtain rfl : f = 3 := Option.some.inj ((show Tryd.prog.funcNamed "loop.example/g01020/laws.FnDiaryCrashes" = some 3 by kernel_rfl).symm.trans hf) |>.symm
  obtain rfl : fn = Tryd.f3 := (Option.some.inj (Tryd.func3.symm.trans hfn)).symm
  refine ⟨by kernel_rfl, fun j t ht => ?_⟩
  have hall : (Tryd.f3.params.toList.all fun u => !Tryd.prog.wantsStandIn u) = true := by kernel_rfl
  have hm : t ∈ Tryd.f3.params.toList := by simpa using Array.mem_of_getElem? ht
  exact (show Tryd.prog.wantsStandIn t = false by simpa using List.all_eq_true.1 hall t hm)
theorem proved : Rows.FnDiaryCrashesCardSaid :=
  Claim7.holds_tied_plain_at .later [] _ _ _ _ said (fun _ h => by cases h) (by kernel_rfl) (fun _ h => by cases h) fnDiaryCrashes_row_tie rfl ⟨rfl, rfl⟩ (by kernel_rfl) rfl plain (by kernel_rfl)

end Go.Proofs.YtadkhmlpmdcbpaaDoor.lawDiaryCrashes
