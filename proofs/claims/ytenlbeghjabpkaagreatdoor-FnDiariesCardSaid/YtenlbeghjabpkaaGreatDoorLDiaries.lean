/-
  The law on Diaries: it answers true at every input, and every argument reads as before. No conditions.
-/
import Derived.Test.YtenlbeghjabpkaaGreatDoorLexB
import Derived.Test.YtenlbeghjabpkaaGreatDoorDiA
import Derived.Test.YtenlbeghjabpkaaGreatDoorJnIs
import Derived.Test.YtenlbeghjabpkaaGreatDoorJnWr
import Derived.Test.YtenlbeghjabpkaaGreatDoorJnWt
import Derived.Test.YtenlbeghjabpkaaGreatDoorDiC
import Derived.Test.YtenlbeghjabpkaaGreatDoorRows
import Derived.Test.YtenlbeghjabpkaaGreatDoorMem3
import Derived.Test.YtenlbeghjabpkaaGreatDoorCards
import Derived.Test.YtenlbeghjabpkaaGreatDoorTie
import Derived.Deep.DeepCutAuto
import Derived.Handed
import Derived.LaidLaws
import Derived.Lay
import Derived.SevenTiedAt
namespace Go.Proofs.YtenlbeghjabpkaaGreatDoor.lawDiaries
open Go.RowKit

theorem wp_below {P : Program} {c : Code} {Q : Exit → Act → World → Prop} {a : Act} {w : World} (h : ∀ V, Below w.heap.size w V → c.wp P Q a V) : c.wp P Q a w := h w (bl_refl w)
theorem empty_none : ByteArray.empty.toList.isEmpty = true := by rw [Lib.toList_data]; rfl
theorem ks_snd (d : Diary) : (ksF d).2 = openB d.Safe d.Open := by
  unfold ksF; split
  · rename_i h; exact h.symm
  · rename_i h; exact (Bool.eq_false_iff.2 h).symm
theorem sh_snd (d : Diary) : (shF d).2 = openB d.Safe d.Open := by
  unfold shF; split
  · rename_i h; exact h.symm
  · rename_i h; exact (Bool.eq_false_iff.2 h).symm
theorem wsF_true {d : Diary} {x : State} (h : (wsF d x).2 = true) : (openB d.Safe d.Open = true ∧ stateB x = true ∧ (statesB d.Safe d.Open).length < 40) ∧ (wsF d x).1 = ⟨d.Safe, d.Open ++ lineB ((statesB d.Safe d.Open).length : Int) x⟩ := by
  unfold wsF at h ⊢
  split at h
  · rename_i hc
    rw [if_pos hc]
    simp only [Bool.and_eq_true, decide_eq_true_eq] at hc
    exact ⟨⟨hc.1.1, hc.1.2, hc.2⟩, rfl⟩
  · cases h
/-- the written diary -/
theorem written_facts {d : Diary} {x : State} {Ws Wo : ByteArray} {Sw : List State} {fo : Bool} (_hop : openB d.Safe d.Open = fo) (hz : d.Safe.size + d.Open.size ≤ 1200) (hS : stF d = (Sw, fo)) (hW : wsF d x = (⟨Ws, Wo⟩, true)) :
    fo = true ∧ Ws = d.Safe ∧ stF ⟨Ws, Wo⟩ = (Sw ++ [x], true) ∧ Ws.size + Wo.size ≤ 1048576 := by
  have h := wsF_true (d := d) (x := x) (by rw [hW])
  rw [hW] at h
  obtain ⟨⟨h1, h2, h3⟩, h4⟩ := h
  injection h4 with h5 h6
  rw [stF_yes (d := d) h1] at hS
  injection hS with h7 h8
  obtain ⟨h9, h10⟩ := write_open h1 h2 h3
  have hok : okL ((statesB d.Safe d.Open).length : Int) x = true := by unfold okL; rw [h2, inB_yes (by omega) (by omega)]; rfl
  have h11 := line_len hok
  refine ⟨h8.symm, h5, ?_, ?_⟩
  · rw [h5, h6, stF_yes (d := ⟨d.Safe, d.Open ++ lineB ((statesB d.Safe d.Open).length : Int) x⟩) h9]
    exact congrArg (fun l => (l, true)) (h10.trans (by rw [h7]))
  · rw [h5, h6, ByteArray.size_append]; omega
/-- the shortened diary -/
theorem short_facts {d : Diary} {Hs Ho : ByteArray} {Kw Sw : List State} (hop : openB d.Safe d.Open = true) (hS : stF d = (Sw, true)) (hK : ksF d = (Kw, true)) (hH : shF d = (⟨Hs, Ho⟩, true)) :
    stF ⟨Hs, Ho⟩ = (Kw, true) ∧ ksF ⟨Hs, Ho⟩ = (Kw, true) ∧ Ho = ByteArray.empty ∧ Hs.size + Ho.size ≤ 1048576 ∧ (∀ x, x ∈ Kw → lastS Sw x = x) ∧ SrtS Kw ∧ (∀ y, y ∈ Sw → ∃ x, x ∈ Kw ∧ x.Name = y.Name) := by
  have hz1 := shF_safe d
  have hz2 := shF_open d
  rw [hH] at hz1 hz2
  rw [stF_yes (d := d) hop] at hS
  rw [ksF_yes (d := d) hop] at hK
  rw [shF_yes (d := d) hop] at hH
  injection hS with h1 _
  injection hK with h2 _
  injection hH with h3 _
  injection h3 with h4 h5
  have ho := short_open d
  have hs := short_states d
  have hk := short_known d
  rw [h4] at ho hs
  rw [h2] at hs hk
  simp only [] at hz1 hz2
  refine ⟨?_, ?_, h5.symm, by omega, ?_, ?_, ?_⟩
  · rw [← h5, stF_yes (d := ⟨Hs, ByteArray.empty⟩) ho]; exact congrArg (fun l => (l, true)) hs
  · rw [← h5, ksF_yes (d := ⟨Hs, ByteArray.empty⟩) ho]; exact congrArg (fun l => (l, true)) ((congrArg knownL hs).trans hk)
  · rw [← h1, ← h2]; exact known_last _
  · rw [← h2]; exact known_srt _
  · rw [← h1, ← h2]; exact known_has _
theorem line_facts {n : Int} {x : State} {T : ByteArray} (h : slF n x = (T, true)) : parseR T = (n, x, true) ∧ T.size ≤ 21 := by
  unfold slF at h
  split at h
  · rename_i hok
    injection h with h1 _
    refine ⟨?_, by rw [← h1]; exact line_len hok⟩
    unfold parseR
    rw [← h1, parseB_line hok]
  · injection h with _ h2; cases h2
set_option maxRecDepth 100000 in
set_option maxHeartbeats 16000000 in
theorem walk (A0 : Option Addr) (n0 c0 : Nat) (x0 : List Byt) (A1 : Option Addr) (n1 c1 : Nat) (x1 : List Byt) (w : World) (he : Env w) (hx0 : CodeIs w A0 n0 x0) (hx1 : CodeIs w A1 n1 x1) :
    Calls Tryz.prog 3 #[.slice A0 n0 c0, .slice A1 n1 c1] w fun e w' => e = .returned (.bool true) ∧ Below w.heap.size w w' := by
  obtain ⟨Lz, hLz⟩ : ∃ L, IntKind.i64.wrap ((n0 : Int) + (n1 : Int)) = L := ⟨_, rfl⟩
  by_cases hz : (1048576 : Int) < Lz
  · have hz' : decide (Lz > 1048576) = true := by simpa using hz
    go_enter Tryz.func3, Tryz.ntmps3
    have hk0 := bl_refl w
    go_wp2
    go_ret
    exact ⟨rfl, bl_refl _⟩
  have hz' : decide (Lz > 1048576) = false := by simpa using hz
  go_enter Tryz.func3, Tryz.ntmps3
  have hk0 := bl_refl w
  go_wp2_with fail
  refine (drawWrite_any A0 n0 c0 x0 _ (hx0.below hk0)).mono ?_
  rintro e V1 ⟨d, z, rfl, hsz, hzn, hzv, hb1⟩
  have hB1 := bl_trans (a := w) (bl_refl _) hb1
  have hk1 := bl_trans hk0 hB1
  have z1 := Lib.hid hB1.size
  obtain ⟨fo, hop⟩ : ∃ b, openB d.Safe d.Open = b := ⟨_, rfl⟩
  obtain ⟨sz, hst⟩ : ∃ b, stateB z = b := ⟨_, rfl⟩
  obtain ⟨⟨⟨Ws, Wo⟩, lk⟩, hW⟩ : ∃ C, wsF d z = C := ⟨_, rfl⟩
  obtain ⟨⟨Sw, o1⟩, hS⟩ : ∃ C, stF d = C := ⟨_, rfl⟩
  obtain rfl : fo = o1 := by have := stF_snd d; rw [hS, hop] at this; exact this.symm
  obtain ⟨⟨Kw, o2⟩, hK⟩ : ∃ C, ksF d = C := ⟨_, rfl⟩
  obtain rfl : fo = o2 := by have := ks_snd d; rw [hK, hop] at this; exact this.symm
  obtain ⟨⟨⟨Hs, Ho⟩, o3⟩, hH⟩ : ∃ C, shF d = C := ⟨_, rfl⟩
  obtain rfl : fo = o3 := by have := sh_snd d; rw [hH, hop] at this; exact this.symm
  have hSl : Sw.length ≤ 40 := by have := stF_len d; rw [hS] at this; exact this
  have hKl : Kw.length ≤ 40 := by have := ksF_len d; rw [hK] at this; exact this
  have hwf : lk = true → fo = true ∧ Ws = d.Safe ∧ stF ⟨Ws, Wo⟩ = (Sw ++ [z], true) ∧ Ws.size + Wo.size ≤ 1048576 := fun h => written_facts hop hsz hS (by rw [hW, h])
  have hsf : fo = true → stF ⟨Hs, Ho⟩ = (Kw, true) ∧ ksF ⟨Hs, Ho⟩ = (Kw, true) ∧ Ho = ByteArray.empty ∧ Hs.size + Ho.size ≤ 1048576 ∧ (∀ x, x ∈ Kw → lastS Sw x = x) ∧ SrtS Kw ∧ (∀ y, y ∈ Sw → ∃ x, x ∈ Kw ∧ x.Name = y.Name) := fun h => short_facts (hop.trans h) (by rw [hS, h]) (by rw [hK, h]) (by rw [hH, h])
  have Hhwf := Lib.hid hwf
  clear hwf
  have Hhsf := Lib.hid hsf
  clear hsf
  have kWimpl := Lib.hid (show ∀ (W : World) (_ : Env W), Calls Tryz.prog 5 #[.agg #[.string d.Safe, .string d.Open], .agg #[.string z.Name, .int .i64 z.Value]] W fun e w' => e = .returned (.tuple #[.agg #[.string Ws, .string Wo], .bool lk]) ∧ Below W.heap.size W w' from fun W he => by have h := implWriteState_any d z W (by omega) (by unfold maxLen; omega) he; rw [hW] at h; exact h)
  have kSimpl := Lib.hid (show ∀ (W : World) (_ : Env W), Calls Tryz.prog 7 #[.agg #[.string d.Safe, .string d.Open]] W fun e w' => ∃ A c, e = .returned (.tuple #[.slice A Sw.length c, .bool fo]) ∧ Own w' W.heap.size 26 (.slice A Sw.length c) Sw ∧ Below W.heap.size W w' from fun W he => by have h := implWrittenStates_any d W (by omega) he; rw [hS] at h; exact h)
  have kKimpl := Lib.hid (show ∀ (W : World) (_ : Env W), Calls Tryz.prog 9 #[.agg #[.string d.Safe, .string d.Open]] W fun e w' => ∃ A c, e = .returned (.tuple #[.slice A Kw.length c, .bool fo]) ∧ Own w' W.heap.size 26 (.slice A Kw.length c) Kw ∧ Below W.heap.size W w' from fun W he => by have h := implKnownStates_any d W (by omega) he; rw [hK] at h; exact h)
  have kHimpl := Lib.hid (show ∀ (W : World) (_ : Env W), Calls Tryz.prog 11 #[.agg #[.string d.Safe, .string d.Open]] W fun e w' => e = .returned (.tuple #[.agg #[.string Hs, .string Ho], .bool fo]) ∧ Below W.heap.size W w' from fun W he => by have h := implShortenDiary_any d W (by omega) he; rw [hH] at h; exact h)
  have kZimpl := Lib.hid (show ∀ (W : World), Calls Tryz.prog 21 #[.agg #[.string z.Name, .int .i64 z.Value]] W fun e w' => e = .returned (.bool sz) ∧ Below W.heap.size W w' from fun W => by have h := implIsState_any z W (by unfold maxLen; omega); rw [hst] at h; exact h)
  have kWspec := Lib.hid (show ∀ (W : World), Calls Tryz.prog 6 #[.agg #[.string d.Safe, .string d.Open], .agg #[.string z.Name, .int .i64 z.Value]] W fun e w' => e = .returned (.tuple #[.agg #[.string Ws, .string Wo], .bool lk]) ∧ Below W.heap.size W w' from fun W => by have h := specWriteState_any d z W (by omega) (by unfold maxLen; omega); rw [hW] at h; exact h)
  have kSspec := Lib.hid (show ∀ (W : World), Calls Tryz.prog 8 #[.agg #[.string d.Safe, .string d.Open]] W fun e w' => ∃ A c, e = .returned (.tuple #[.slice A Sw.length c, .bool fo]) ∧ Own w' W.heap.size 26 (.slice A Sw.length c) Sw ∧ Below W.heap.size W w' from fun W => by have h := specWrittenStates_any d W (by omega); rw [hS] at h; exact h)
  have kKspec := Lib.hid (show ∀ (W : World), Calls Tryz.prog 10 #[.agg #[.string d.Safe, .string d.Open]] W fun e w' => ∃ A c, e = .returned (.tuple #[.slice A Kw.length c, .bool fo]) ∧ Own w' W.heap.size 26 (.slice A Kw.length c) Kw ∧ Below W.heap.size W w' from fun W => by have h := specKnownStates_any d W (by omega); rw [hK] at h; exact h)
  have kHspec := Lib.hid (show ∀ (W : World), Calls Tryz.prog 12 #[.agg #[.string d.Safe, .string d.Open]] W fun e w' => e = .returned (.tuple #[.agg #[.string Hs, .string Ho], .bool fo]) ∧ Below W.heap.size W w' from fun W => by have h := specShortenDiary_any d W (by omega); rw [hH] at h; exact h)
  have kZspec := Lib.hid (show ∀ (W : World), Calls Tryz.prog 22 #[.agg #[.string z.Name, .int .i64 z.Value]] W fun e w' => e = .returned (.bool sz) ∧ Below W.heap.size W w' from fun W => by have h := specIsState_any z W (by unfold maxLen; omega); rw [hst] at h; exact h)
  have kI := Lib.hid (show ∀ (W : World) (_ : Env W), Calls Tryz.prog 20 #[.agg #[.string d.Safe, .string d.Open]] W fun e w' => e = .returned (.bool fo) ∧ Below W.heap.size W w' from fun W he => by have h := implIsDiary_any d W (by omega) he; rw [hop] at h; exact h)
  have Hhop := Lib.hid hop
  clear hop
  have Hhst := Lib.hid hst
  clear hst
  have HhW := Lib.hid hW
  clear hW
  have HhS := Lib.hid hS
  clear hS
  have HhK := Lib.hid hK
  clear hK
  have HhH := Lib.hid hH
  clear hH
  go_wp2_with fail
  refine (kWimpl.out _ (he.below (bl_trans hk1 (by repeat' (first | exact bl_refl _ | refine bl_alloc ?_ _ | refine bl_drew ?_ | refine bl_drewN ?_ _ | refine bl_set ?_ ?_ _ | (simp; done) | (simp; omega)))))).mono ?_
  rintro e V2 ⟨rfl, hb2⟩
  have hB2 := bl_trans (a := V1) (by repeat' (first | exact bl_refl _ | refine bl_alloc ?_ _ | refine bl_drew ?_ | refine bl_drewN ?_ _ | refine bl_set ?_ ?_ _ | (simp; done) | (simp; omega))) hb2
  have hk2 := bl_trans hk1 hB2
  have z2 : Hid (V1.heap.size + 2 ≤ V2.heap.size) := by have := hb2.size; simp only [World.size_alloc] at this; exact (by omega : _)
  have bd_0_2 : V2.cell? ⟨V1.heap.size, 0, none⟩ = some (.string d.Safe) := cell_later hb2 (by go_simp)
  have bd_1_2 : V2.cell? ⟨V1.heap.size, 1, none⟩ = some (.string d.Open) := cell_later hb2 (by go_simp)
  have ld_2 : V1.heap.size < V2.heap.size := World.block_lt_of_cell? _ _ bd_0_2
  have bz_0_2 : V2.cell? ⟨V1.heap.size + 1, 0, none⟩ = some (.string z.Name) := cell_later hb2 (by go_simp)
  have bz_1_2 : V2.cell? ⟨V1.heap.size + 1, 1, none⟩ = some (.int .i64 z.Value) := cell_later hb2 (by go_simp)
  have lz_2 : V1.heap.size + 1 < V2.heap.size := World.block_lt_of_cell? _ _ bz_0_2
  clear hk1
  go_wp2_with fail
  refine (kWspec.out _).mono ?_
  rintro e V3 ⟨rfl, hb3⟩
  have hB3 := bl_trans (a := V2) (by repeat' (first | exact bl_refl _ | refine bl_alloc ?_ _ | refine bl_drew ?_ | refine bl_drewN ?_ _ | refine bl_set ?_ ?_ _ | (simp; done) | (simp; omega))) hb3
  have hk3 := bl_trans hk2 hB3
  have z3 : Hid (V2.heap.size + 1 ≤ V3.heap.size) := by have := hb3.size; simp only [World.size_alloc] at this; exact (by omega : _)
  have bd_0_3 : V3.cell? ⟨V1.heap.size, 0, none⟩ = some (.string d.Safe) := cell_later hB3 bd_0_2
  have bd_1_3 : V3.cell? ⟨V1.heap.size, 1, none⟩ = some (.string d.Open) := cell_later hB3 bd_1_2
  have ld_3 : V1.heap.size < V3.heap.size := World.block_lt_of_cell? _ _ bd_0_3
  have bz_0_3 : V3.cell? ⟨V1.heap.size + 1, 0, none⟩ = some (.string z.Name) := cell_later hB3 bz_0_2
  have bz_1_3 : V3.cell? ⟨V1.heap.size + 1, 1, none⟩ = some (.int .i64 z.Value) := cell_later hB3 bz_1_2
  have lz_3 : V1.heap.size + 1 < V3.heap.size := World.block_lt_of_cell? _ _ bz_0_3
  have bw_0_3 : V3.cell? ⟨V2.heap.size, 0, none⟩ = some (.string Ws) := cell_later hb3 (by go_simp)
  have bw_1_3 : V3.cell? ⟨V2.heap.size, 1, none⟩ = some (.string Wo) := cell_later hb3 (by go_simp)
  have lw_3 : V2.heap.size < V3.heap.size := World.block_lt_of_cell? _ _ bw_0_3
  clear hk2 bd_0_2 bd_1_2 ld_2 bz_0_2 bz_1_2 lz_2
  go_wp2_with fail
  refine (kSimpl.out _ (he.below (bl_trans hk3 (by repeat' (first | exact bl_refl _ | refine bl_alloc ?_ _ | refine bl_drew ?_ | refine bl_drewN ?_ _ | refine bl_set ?_ ?_ _ | (simp; done) | (simp; omega)))))).mono ?_
  rintro e V4 ⟨A_l, c_l, rfl, ho_l, hb4⟩
  have hB4 := bl_trans (a := V3) (by repeat' (first | exact bl_refl _ | refine bl_alloc ?_ _ | refine bl_drew ?_ | refine bl_drewN ?_ _ | refine bl_set ?_ ?_ _ | (simp; done) | (simp; omega))) hb4
  have hk4 := bl_trans hk3 hB4
  have z4 : Hid (V3.heap.size + 1 ≤ V4.heap.size) := by have := hb4.size; simp only [World.size_alloc] at this; exact (by omega : _)
  have bd_0_4 : V4.cell? ⟨V1.heap.size, 0, none⟩ = some (.string d.Safe) := cell_later hB4 bd_0_3
  have bd_1_4 : V4.cell? ⟨V1.heap.size, 1, none⟩ = some (.string d.Open) := cell_later hB4 bd_1_3
  have ld_4 : V1.heap.size < V4.heap.size := World.block_lt_of_cell? _ _ bd_0_4
  have bz_0_4 : V4.cell? ⟨V1.heap.size + 1, 0, none⟩ = some (.string z.Name) := cell_later hB4 bz_0_3
  have bz_1_4 : V4.cell? ⟨V1.heap.size + 1, 1, none⟩ = some (.int .i64 z.Value) := cell_later hB4 bz_1_3
  have lz_4 : V1.heap.size + 1 < V4.heap.size := World.block_lt_of_cell? _ _ bz_0_4
  have bw_0_4 : V4.cell? ⟨V2.heap.size, 0, none⟩ = some (.string Ws) := cell_later hB4 bw_0_3
  have bw_1_4 : V4.cell? ⟨V2.heap.size, 1, none⟩ = some (.string Wo) := cell_later hB4 bw_1_3
  have lw_4 : V2.heap.size < V4.heap.size := World.block_lt_of_cell? _ _ bw_0_4
  have bv_0_4 : V4.cell? ⟨V3.heap.size, 0, none⟩ = some (.string Ws) := cell_later hb4 (by go_simp)
  have bv_1_4 : V4.cell? ⟨V3.heap.size, 1, none⟩ = some (.string Wo) := cell_later hb4 (by go_simp)
  have lv_4 : V3.heap.size < V4.heap.size := World.block_lt_of_cell? _ _ bv_0_4
  clear hk3 bd_0_3 bd_1_3 ld_3 bz_0_3 bz_1_3 lz_3 bw_0_3 bw_1_3 lw_3
  go_wp2_with fail
  refine (kSspec.out _).mono ?_
  rintro e V5 ⟨A_m, c_m, rfl, ho_m, hb5⟩
  have hB5 := bl_trans (a := V4) (bl_refl _) hb5
  have hk5 := bl_trans hk4 hB5
  have z5 := Lib.hid hB5.size
  have l_5 := ho_l.below hB5
  have bd_0_5 : V5.cell? ⟨V1.heap.size, 0, none⟩ = some (.string d.Safe) := cell_later hB5 bd_0_4
  have bd_1_5 : V5.cell? ⟨V1.heap.size, 1, none⟩ = some (.string d.Open) := cell_later hB5 bd_1_4
  have ld_5 : V1.heap.size < V5.heap.size := World.block_lt_of_cell? _ _ bd_0_5
  have bz_0_5 : V5.cell? ⟨V1.heap.size + 1, 0, none⟩ = some (.string z.Name) := cell_later hB5 bz_0_4
  have bz_1_5 : V5.cell? ⟨V1.heap.size + 1, 1, none⟩ = some (.int .i64 z.Value) := cell_later hB5 bz_1_4
  have lz_5 : V1.heap.size + 1 < V5.heap.size := World.block_lt_of_cell? _ _ bz_0_5
  have bw_0_5 : V5.cell? ⟨V2.heap.size, 0, none⟩ = some (.string Ws) := cell_later hB5 bw_0_4
  have bw_1_5 : V5.cell? ⟨V2.heap.size, 1, none⟩ = some (.string Wo) := cell_later hB5 bw_1_4
  have lw_5 : V2.heap.size < V5.heap.size := World.block_lt_of_cell? _ _ bw_0_5
  have bv_0_5 : V5.cell? ⟨V3.heap.size, 0, none⟩ = some (.string Ws) := cell_later hB5 bv_0_4
  have bv_1_5 : V5.cell? ⟨V3.heap.size, 1, none⟩ = some (.string Wo) := cell_later hB5 bv_1_4
  have lv_5 : V3.heap.size < V5.heap.size := World.block_lt_of_cell? _ _ bv_0_5
  clear hk4 ho_l bd_0_4 bd_1_4 ld_4 bz_0_4 bz_1_4 lz_4 bw_0_4 bw_1_4 lw_4 bv_0_4 bv_1_4 lv_4
  go_wp2_with fail
  refine (kKimpl.out _ (he.below hk5)).mono ?_
  rintro e V6 ⟨A_k, c_k, rfl, ho_k, hb6⟩
  have hB6 := bl_trans (a := V5) (bl_refl _) hb6
  have hk6 := bl_trans hk5 hB6
  have z6 := Lib.hid hB6.size
  have l_6 := l_5.below hB6
  have m_6 := ho_m.below hB6
  have bd_0_6 : V6.cell? ⟨V1.heap.size, 0, none⟩ = some (.string d.Safe) := cell_later hB6 bd_0_5
  have bd_1_6 : V6.cell? ⟨V1.heap.size, 1, none⟩ = some (.string d.Open) := cell_later hB6 bd_1_5
  have ld_6 : V1.heap.size < V6.heap.size := World.block_lt_of_cell? _ _ bd_0_6
  have bz_0_6 : V6.cell? ⟨V1.heap.size + 1, 0, none⟩ = some (.string z.Name) := cell_later hB6 bz_0_5
  have bz_1_6 : V6.cell? ⟨V1.heap.size + 1, 1, none⟩ = some (.int .i64 z.Value) := cell_later hB6 bz_1_5
  have lz_6 : V1.heap.size + 1 < V6.heap.size := World.block_lt_of_cell? _ _ bz_0_6
  have bw_0_6 : V6.cell? ⟨V2.heap.size, 0, none⟩ = some (.string Ws) := cell_later hB6 bw_0_5
  have bw_1_6 : V6.cell? ⟨V2.heap.size, 1, none⟩ = some (.string Wo) := cell_later hB6 bw_1_5
  have lw_6 : V2.heap.size < V6.heap.size := World.block_lt_of_cell? _ _ bw_0_6
  have bv_0_6 : V6.cell? ⟨V3.heap.size, 0, none⟩ = some (.string Ws) := cell_later hB6 bv_0_5
  have bv_1_6 : V6.cell? ⟨V3.heap.size, 1, none⟩ = some (.string Wo) := cell_later hB6 bv_1_5
  have lv_6 : V3.heap.size < V6.heap.size := World.block_lt_of_cell? _ _ bv_0_6
  clear hk5 l_5 ho_m bd_0_5 bd_1_5 ld_5 bz_0_5 bz_1_5 lz_5 bw_0_5 bw_1_5 lw_5 bv_0_5 bv_1_5 lv_5
  go_wp2_with fail
  refine (kKspec.out _).mono ?_
  rintro e V7 ⟨A_n, c_n, rfl, ho_n, hb7⟩
  have hB7 := bl_trans (a := V6) (bl_refl _) hb7
  have hk7 := bl_trans hk6 hB7
  have z7 := Lib.hid hB7.size
  have l_7 := l_6.below hB7
  have m_7 := m_6.below hB7
  have k_7 := ho_k.below hB7
  have bd_0_7 : V7.cell? ⟨V1.heap.size, 0, none⟩ = some (.string d.Safe) := cell_later hB7 bd_0_6
  have bd_1_7 : V7.cell? ⟨V1.heap.size, 1, none⟩ = some (.string d.Open) := cell_later hB7 bd_1_6
  have ld_7 : V1.heap.size < V7.heap.size := World.block_lt_of_cell? _ _ bd_0_7
  have bz_0_7 : V7.cell? ⟨V1.heap.size + 1, 0, none⟩ = some (.string z.Name) := cell_later hB7 bz_0_6
  have bz_1_7 : V7.cell? ⟨V1.heap.size + 1, 1, none⟩ = some (.int .i64 z.Value) := cell_later hB7 bz_1_6
  have lz_7 : V1.heap.size + 1 < V7.heap.size := World.block_lt_of_cell? _ _ bz_0_7
  have bw_0_7 : V7.cell? ⟨V2.heap.size, 0, none⟩ = some (.string Ws) := cell_later hB7 bw_0_6
  have bw_1_7 : V7.cell? ⟨V2.heap.size, 1, none⟩ = some (.string Wo) := cell_later hB7 bw_1_6
  have lw_7 : V2.heap.size < V7.heap.size := World.block_lt_of_cell? _ _ bw_0_7
  have bv_0_7 : V7.cell? ⟨V3.heap.size, 0, none⟩ = some (.string Ws) := cell_later hB7 bv_0_6
  have bv_1_7 : V7.cell? ⟨V3.heap.size, 1, none⟩ = some (.string Wo) := cell_later hB7 bv_1_6
  have lv_7 : V3.heap.size < V7.heap.size := World.block_lt_of_cell? _ _ bv_0_7
  clear hk6 l_6 m_6 ho_k bd_0_6 bd_1_6 ld_6 bz_0_6 bz_1_6 lz_6 bw_0_6 bw_1_6 lw_6 bv_0_6 bv_1_6 lv_6
  go_wp2_with fail
  refine (kHimpl.out _ (he.below hk7)).mono ?_
  rintro e V8 ⟨rfl, hb8⟩
  have hB8 := bl_trans (a := V7) (bl_refl _) hb8
  have hk8 := bl_trans hk7 hB8
  have z8 := Lib.hid hB8.size
  have l_8 := l_7.below hB8
  have m_8 := m_7.below hB8
  have k_8 := k_7.below hB8
  have n_8 := ho_n.below hB8
  have bd_0_8 : V8.cell? ⟨V1.heap.size, 0, none⟩ = some (.string d.Safe) := cell_later hB8 bd_0_7
  have bd_1_8 : V8.cell? ⟨V1.heap.size, 1, none⟩ = some (.string d.Open) := cell_later hB8 bd_1_7
  have ld_8 : V1.heap.size < V8.heap.size := World.block_lt_of_cell? _ _ bd_0_8
  have bz_0_8 : V8.cell? ⟨V1.heap.size + 1, 0, none⟩ = some (.string z.Name) := cell_later hB8 bz_0_7
  have bz_1_8 : V8.cell? ⟨V1.heap.size + 1, 1, none⟩ = some (.int .i64 z.Value) := cell_later hB8 bz_1_7
  have lz_8 : V1.heap.size + 1 < V8.heap.size := World.block_lt_of_cell? _ _ bz_0_8
  have bw_0_8 : V8.cell? ⟨V2.heap.size, 0, none⟩ = some (.string Ws) := cell_later hB8 bw_0_7
  have bw_1_8 : V8.cell? ⟨V2.heap.size, 1, none⟩ = some (.string Wo) := cell_later hB8 bw_1_7
  have lw_8 : V2.heap.size < V8.heap.size := World.block_lt_of_cell? _ _ bw_0_8
  have bv_0_8 : V8.cell? ⟨V3.heap.size, 0, none⟩ = some (.string Ws) := cell_later hB8 bv_0_7
  have bv_1_8 : V8.cell? ⟨V3.heap.size, 1, none⟩ = some (.string Wo) := cell_later hB8 bv_1_7
  have lv_8 : V3.heap.size < V8.heap.size := World.block_lt_of_cell? _ _ bv_0_8
  clear hk7 l_7 m_7 k_7 ho_n bd_0_7 bd_1_7 ld_7 bz_0_7 bz_1_7 lz_7 bw_0_7 bw_1_7 lw_7 bv_0_7 bv_1_7 lv_7
  go_wp2_with fail
  refine (kHspec.out _).mono ?_
  rintro e V9 ⟨rfl, hb9⟩
  have hB9 := bl_trans (a := V8) (by repeat' (first | exact bl_refl _ | refine bl_alloc ?_ _ | refine bl_drew ?_ | refine bl_drewN ?_ _ | refine bl_set ?_ ?_ _ | (simp; done) | (simp; omega))) hb9
  have hk9 := bl_trans hk8 hB9
  have z9 : Hid (V8.heap.size + 1 ≤ V9.heap.size) := by have := hb9.size; simp only [World.size_alloc] at this; exact (by omega : _)
  have l_9 := l_8.below hB9
  have m_9 := m_8.below hB9
  have k_9 := k_8.below hB9
  have n_9 := n_8.below hB9
  have bd_0_9 : V9.cell? ⟨V1.heap.size, 0, none⟩ = some (.string d.Safe) := cell_later hB9 bd_0_8
  have bd_1_9 : V9.cell? ⟨V1.heap.size, 1, none⟩ = some (.string d.Open) := cell_later hB9 bd_1_8
  have ld_9 : V1.heap.size < V9.heap.size := World.block_lt_of_cell? _ _ bd_0_9
  have bz_0_9 : V9.cell? ⟨V1.heap.size + 1, 0, none⟩ = some (.string z.Name) := cell_later hB9 bz_0_8
  have bz_1_9 : V9.cell? ⟨V1.heap.size + 1, 1, none⟩ = some (.int .i64 z.Value) := cell_later hB9 bz_1_8
  have lz_9 : V1.heap.size + 1 < V9.heap.size := World.block_lt_of_cell? _ _ bz_0_9
  have bw_0_9 : V9.cell? ⟨V2.heap.size, 0, none⟩ = some (.string Ws) := cell_later hB9 bw_0_8
  have bw_1_9 : V9.cell? ⟨V2.heap.size, 1, none⟩ = some (.string Wo) := cell_later hB9 bw_1_8
  have lw_9 : V2.heap.size < V9.heap.size := World.block_lt_of_cell? _ _ bw_0_9
  have bv_0_9 : V9.cell? ⟨V3.heap.size, 0, none⟩ = some (.string Ws) := cell_later hB9 bv_0_8
  have bv_1_9 : V9.cell? ⟨V3.heap.size, 1, none⟩ = some (.string Wo) := cell_later hB9 bv_1_8
  have lv_9 : V3.heap.size < V9.heap.size := World.block_lt_of_cell? _ _ bv_0_9
  have bh_0_9 : V9.cell? ⟨V8.heap.size, 0, none⟩ = some (.string Hs) := cell_later hb9 (by go_simp)
  have bh_1_9 : V9.cell? ⟨V8.heap.size, 1, none⟩ = some (.string Ho) := cell_later hb9 (by go_simp)
  have lh_9 : V8.heap.size < V9.heap.size := World.block_lt_of_cell? _ _ bh_0_9
  clear hk8 l_8 m_8 k_8 n_8 bd_0_8 bd_1_8 ld_8 bz_0_8 bz_1_8 lz_8 bw_0_8 bw_1_8 lw_8 bv_0_8 bv_1_8 lv_8
  go_wp2_with fail
  refine (drawLine_any A1 n1 c1 x1 _ (hx1.below (bl_trans hk9 (by repeat' (first | exact bl_refl _ | refine bl_alloc ?_ _ | refine bl_drew ?_ | refine bl_drewN ?_ _ | refine bl_set ?_ ?_ _ | (simp; done) | (simp; omega)))))).mono ?_
  rintro e V10 ⟨nn, x, rfl, hnn, hxn, hxv, hb10⟩
  have hB10 := bl_trans (a := V9) (by repeat' (first | exact bl_refl _ | refine bl_alloc ?_ _ | refine bl_drew ?_ | refine bl_drewN ?_ _ | refine bl_set ?_ ?_ _ | (simp; done) | (simp; omega))) hb10
  have hk10 := bl_trans hk9 hB10
  have z10 : Hid (V9.heap.size + 1 ≤ V10.heap.size) := by have := hb10.size; simp only [World.size_alloc] at this; exact (by omega : _)
  have l_10 := l_9.below hB10
  have m_10 := m_9.below hB10
  have k_10 := k_9.below hB10
  have n_10 := n_9.below hB10
  have bd_0_10 : V10.cell? ⟨V1.heap.size, 0, none⟩ = some (.string d.Safe) := cell_later hB10 bd_0_9
  have bd_1_10 : V10.cell? ⟨V1.heap.size, 1, none⟩ = some (.string d.Open) := cell_later hB10 bd_1_9
  have ld_10 : V1.heap.size < V10.heap.size := World.block_lt_of_cell? _ _ bd_0_10
  have bz_0_10 : V10.cell? ⟨V1.heap.size + 1, 0, none⟩ = some (.string z.Name) := cell_later hB10 bz_0_9
  have bz_1_10 : V10.cell? ⟨V1.heap.size + 1, 1, none⟩ = some (.int .i64 z.Value) := cell_later hB10 bz_1_9
  have lz_10 : V1.heap.size + 1 < V10.heap.size := World.block_lt_of_cell? _ _ bz_0_10
  have bw_0_10 : V10.cell? ⟨V2.heap.size, 0, none⟩ = some (.string Ws) := cell_later hB10 bw_0_9
  have bw_1_10 : V10.cell? ⟨V2.heap.size, 1, none⟩ = some (.string Wo) := cell_later hB10 bw_1_9
  have lw_10 : V2.heap.size < V10.heap.size := World.block_lt_of_cell? _ _ bw_0_10
  have bv_0_10 : V10.cell? ⟨V3.heap.size, 0, none⟩ = some (.string Ws) := cell_later hB10 bv_0_9
  have bv_1_10 : V10.cell? ⟨V3.heap.size, 1, none⟩ = some (.string Wo) := cell_later hB10 bv_1_9
  have lv_10 : V3.heap.size < V10.heap.size := World.block_lt_of_cell? _ _ bv_0_10
  have bh_0_10 : V10.cell? ⟨V8.heap.size, 0, none⟩ = some (.string Hs) := cell_later hB10 bh_0_9
  have bh_1_10 : V10.cell? ⟨V8.heap.size, 1, none⟩ = some (.string Ho) := cell_later hB10 bh_1_9
  have lh_10 : V8.heap.size < V10.heap.size := World.block_lt_of_cell? _ _ bh_0_10
  have bg_0_10 : V10.cell? ⟨V9.heap.size, 0, none⟩ = some (.string Hs) := cell_later hb10 (by go_simp)
  have bg_1_10 : V10.cell? ⟨V9.heap.size, 1, none⟩ = some (.string Ho) := cell_later hb10 (by go_simp)
  have lg_10 : V9.heap.size < V10.heap.size := World.block_lt_of_cell? _ _ bg_0_10
  clear hk9 l_9 m_9 k_9 n_9 bd_0_9 bd_1_9 ld_9 bz_0_9 bz_1_9 lz_9 bw_0_9 bw_1_9 lw_9 bv_0_9 bv_1_9 lv_9 bh_0_9 bh_1_9 lh_9
  obtain ⟨⟨Tl, sv⟩, hL⟩ : ∃ C, slF nn x = C := ⟨_, rfl⟩
  have hlf : sv = true → parseR Tl = (nn, x, true) ∧ Tl.size ≤ 21 := fun h => line_facts (by rw [hL, h])
  have Hhlf := Lib.hid hlf
  clear hlf
  have kLimpl := Lib.hid (show ∀ (W : World) (_ : Env W), Calls Tryz.prog 14 #[.int .i64 nn, .agg #[.string x.Name, .int .i64 x.Value]] W fun e w' => e = .returned (.tuple #[.string Tl, .bool sv]) ∧ Below W.heap.size W w' from fun W he => by have h := implStateLine_any nn x W (by unfold maxLen; omega) he.tab; rw [hL] at h; exact h)
  have kLspec := Lib.hid (show ∀ (W : World), Calls Tryz.prog 15 #[.int .i64 nn, .agg #[.string x.Name, .int .i64 x.Value]] W fun e w' => e = .returned (.tuple #[.string Tl, .bool sv]) ∧ Below W.heap.size W w' from fun W => by have h := specStateLine_any nn x W (by unfold maxLen; omega); rw [hL] at h; exact h)
  have HhL := Lib.hid hL
  clear hL
  go_wp2_with fail
  refine (kLimpl.out _ (he.below (bl_trans hk10 (by repeat' (first | exact bl_refl _ | refine bl_alloc ?_ _ | refine bl_drew ?_ | refine bl_drewN ?_ _ | refine bl_set ?_ ?_ _ | (simp; done) | (simp; omega)))))).mono ?_
  rintro e V11 ⟨rfl, hb11⟩
  have hB11 := bl_trans (a := V10) (by repeat' (first | exact bl_refl _ | refine bl_alloc ?_ _ | refine bl_drew ?_ | refine bl_drewN ?_ _ | refine bl_set ?_ ?_ _ | (simp; done) | (simp; omega))) hb11
  have hk11 := bl_trans hk10 hB11
  have z11 : Hid (V10.heap.size + 1 ≤ V11.heap.size) := by have := hb11.size; simp only [World.size_alloc] at this; exact (by omega : _)
  have l_11 := l_10.below hB11
  have m_11 := m_10.below hB11
  have k_11 := k_10.below hB11
  have n_11 := n_10.below hB11
  have bd_0_11 : V11.cell? ⟨V1.heap.size, 0, none⟩ = some (.string d.Safe) := cell_later hB11 bd_0_10
  have bd_1_11 : V11.cell? ⟨V1.heap.size, 1, none⟩ = some (.string d.Open) := cell_later hB11 bd_1_10
  have ld_11 : V1.heap.size < V11.heap.size := World.block_lt_of_cell? _ _ bd_0_11
  have bz_0_11 : V11.cell? ⟨V1.heap.size + 1, 0, none⟩ = some (.string z.Name) := cell_later hB11 bz_0_10
  have bz_1_11 : V11.cell? ⟨V1.heap.size + 1, 1, none⟩ = some (.int .i64 z.Value) := cell_later hB11 bz_1_10
  have lz_11 : V1.heap.size + 1 < V11.heap.size := World.block_lt_of_cell? _ _ bz_0_11
  have bw_0_11 : V11.cell? ⟨V2.heap.size, 0, none⟩ = some (.string Ws) := cell_later hB11 bw_0_10
  have bw_1_11 : V11.cell? ⟨V2.heap.size, 1, none⟩ = some (.string Wo) := cell_later hB11 bw_1_10
  have lw_11 : V2.heap.size < V11.heap.size := World.block_lt_of_cell? _ _ bw_0_11
  have bv_0_11 : V11.cell? ⟨V3.heap.size, 0, none⟩ = some (.string Ws) := cell_later hB11 bv_0_10
  have bv_1_11 : V11.cell? ⟨V3.heap.size, 1, none⟩ = some (.string Wo) := cell_later hB11 bv_1_10
  have lv_11 : V3.heap.size < V11.heap.size := World.block_lt_of_cell? _ _ bv_0_11
  have bh_0_11 : V11.cell? ⟨V8.heap.size, 0, none⟩ = some (.string Hs) := cell_later hB11 bh_0_10
  have bh_1_11 : V11.cell? ⟨V8.heap.size, 1, none⟩ = some (.string Ho) := cell_later hB11 bh_1_10
  have lh_11 : V8.heap.size < V11.heap.size := World.block_lt_of_cell? _ _ bh_0_11
  have bg_0_11 : V11.cell? ⟨V9.heap.size, 0, none⟩ = some (.string Hs) := cell_later hB11 bg_0_10
  have bg_1_11 : V11.cell? ⟨V9.heap.size, 1, none⟩ = some (.string Ho) := cell_later hB11 bg_1_10
  have lg_11 : V9.heap.size < V11.heap.size := World.block_lt_of_cell? _ _ bg_0_11
  have bx_0_11 : V11.cell? ⟨V10.heap.size, 0, none⟩ = some (.string x.Name) := cell_later hb11 (by go_simp)
  have bx_1_11 : V11.cell? ⟨V10.heap.size, 1, none⟩ = some (.int .i64 x.Value) := cell_later hb11 (by go_simp)
  have lx_11 : V10.heap.size < V11.heap.size := World.block_lt_of_cell? _ _ bx_0_11
  clear hk10 l_10 m_10 k_10 n_10 bd_0_10 bd_1_10 ld_10 bz_0_10 bz_1_10 lz_10 bw_0_10 bw_1_10 lw_10 bv_0_10 bv_1_10 lv_10 bh_0_10 bh_1_10 lh_10 bg_0_10 bg_1_10 lg_10
  go_wp2_with fail
  refine (kLspec.out _).mono ?_
  rintro e V12 ⟨rfl, hb12⟩
  have hB12 := bl_trans (a := V11) (bl_refl _) hb12
  have hk12 := bl_trans hk11 hB12
  have z12 := Lib.hid hB12.size
  have l_12 := l_11.below hB12
  have m_12 := m_11.below hB12
  have k_12 := k_11.below hB12
  have n_12 := n_11.below hB12
  have bd_0_12 : V12.cell? ⟨V1.heap.size, 0, none⟩ = some (.string d.Safe) := cell_later hB12 bd_0_11
  have bd_1_12 : V12.cell? ⟨V1.heap.size, 1, none⟩ = some (.string d.Open) := cell_later hB12 bd_1_11
  have ld_12 : V1.heap.size < V12.heap.size := World.block_lt_of_cell? _ _ bd_0_12
  have bz_0_12 : V12.cell? ⟨V1.heap.size + 1, 0, none⟩ = some (.string z.Name) := cell_later hB12 bz_0_11
  have bz_1_12 : V12.cell? ⟨V1.heap.size + 1, 1, none⟩ = some (.int .i64 z.Value) := cell_later hB12 bz_1_11
  have lz_12 : V1.heap.size + 1 < V12.heap.size := World.block_lt_of_cell? _ _ bz_0_12
  have bw_0_12 : V12.cell? ⟨V2.heap.size, 0, none⟩ = some (.string Ws) := cell_later hB12 bw_0_11
  have bw_1_12 : V12.cell? ⟨V2.heap.size, 1, none⟩ = some (.string Wo) := cell_later hB12 bw_1_11
  have lw_12 : V2.heap.size < V12.heap.size := World.block_lt_of_cell? _ _ bw_0_12
  have bv_0_12 : V12.cell? ⟨V3.heap.size, 0, none⟩ = some (.string Ws) := cell_later hB12 bv_0_11
  have bv_1_12 : V12.cell? ⟨V3.heap.size, 1, none⟩ = some (.string Wo) := cell_later hB12 bv_1_11
  have lv_12 : V3.heap.size < V12.heap.size := World.block_lt_of_cell? _ _ bv_0_12
  have bh_0_12 : V12.cell? ⟨V8.heap.size, 0, none⟩ = some (.string Hs) := cell_later hB12 bh_0_11
  have bh_1_12 : V12.cell? ⟨V8.heap.size, 1, none⟩ = some (.string Ho) := cell_later hB12 bh_1_11
  have lh_12 : V8.heap.size < V12.heap.size := World.block_lt_of_cell? _ _ bh_0_12
  have bg_0_12 : V12.cell? ⟨V9.heap.size, 0, none⟩ = some (.string Hs) := cell_later hB12 bg_0_11
  have bg_1_12 : V12.cell? ⟨V9.heap.size, 1, none⟩ = some (.string Ho) := cell_later hB12 bg_1_11
  have lg_12 : V9.heap.size < V12.heap.size := World.block_lt_of_cell? _ _ bg_0_12
  have bx_0_12 : V12.cell? ⟨V10.heap.size, 0, none⟩ = some (.string x.Name) := cell_later hB12 bx_0_11
  have bx_1_12 : V12.cell? ⟨V10.heap.size, 1, none⟩ = some (.int .i64 x.Value) := cell_later hB12 bx_1_11
  have lx_12 : V10.heap.size < V12.heap.size := World.block_lt_of_cell? _ _ bx_0_12
  clear hk11 l_11 m_11 k_11 n_11 bd_0_11 bd_1_11 ld_11 bz_0_11 bz_1_11 lz_11 bw_0_11 bw_1_11 lw_11 bv_0_11 bv_1_11 lv_11 bh_0_11 bh_1_11 lh_11 bg_0_11 bg_1_11 lg_11 bx_0_11 bx_1_11 lx_11
  go_wp2_with fail
  refine (drawParse_any A1 n1 c1 x1 _ (hx1.below hk12)).mono ?_
  rintro e V13 ⟨u, rfl, huz, hb13⟩
  have hB13 := bl_trans (a := V12) (bl_refl _) hb13
  have hk13 := bl_trans hk12 hB13
  have z13 := Lib.hid hB13.size
  have l_13 := l_12.below hB13
  have m_13 := m_12.below hB13
  have k_13 := k_12.below hB13
  have n_13 := n_12.below hB13
  have bd_0_13 : V13.cell? ⟨V1.heap.size, 0, none⟩ = some (.string d.Safe) := cell_later hB13 bd_0_12
  have bd_1_13 : V13.cell? ⟨V1.heap.size, 1, none⟩ = some (.string d.Open) := cell_later hB13 bd_1_12
  have ld_13 : V1.heap.size < V13.heap.size := World.block_lt_of_cell? _ _ bd_0_13
  have bz_0_13 : V13.cell? ⟨V1.heap.size + 1, 0, none⟩ = some (.string z.Name) := cell_later hB13 bz_0_12
  have bz_1_13 : V13.cell? ⟨V1.heap.size + 1, 1, none⟩ = some (.int .i64 z.Value) := cell_later hB13 bz_1_12
  have lz_13 : V1.heap.size + 1 < V13.heap.size := World.block_lt_of_cell? _ _ bz_0_13
  have bw_0_13 : V13.cell? ⟨V2.heap.size, 0, none⟩ = some (.string Ws) := cell_later hB13 bw_0_12
  have bw_1_13 : V13.cell? ⟨V2.heap.size, 1, none⟩ = some (.string Wo) := cell_later hB13 bw_1_12
  have lw_13 : V2.heap.size < V13.heap.size := World.block_lt_of_cell? _ _ bw_0_13
  have bv_0_13 : V13.cell? ⟨V3.heap.size, 0, none⟩ = some (.string Ws) := cell_later hB13 bv_0_12
  have bv_1_13 : V13.cell? ⟨V3.heap.size, 1, none⟩ = some (.string Wo) := cell_later hB13 bv_1_12
  have lv_13 : V3.heap.size < V13.heap.size := World.block_lt_of_cell? _ _ bv_0_13
  have bh_0_13 : V13.cell? ⟨V8.heap.size, 0, none⟩ = some (.string Hs) := cell_later hB13 bh_0_12
  have bh_1_13 : V13.cell? ⟨V8.heap.size, 1, none⟩ = some (.string Ho) := cell_later hB13 bh_1_12
  have lh_13 : V8.heap.size < V13.heap.size := World.block_lt_of_cell? _ _ bh_0_13
  have bg_0_13 : V13.cell? ⟨V9.heap.size, 0, none⟩ = some (.string Hs) := cell_later hB13 bg_0_12
  have bg_1_13 : V13.cell? ⟨V9.heap.size, 1, none⟩ = some (.string Ho) := cell_later hB13 bg_1_12
  have lg_13 : V9.heap.size < V13.heap.size := World.block_lt_of_cell? _ _ bg_0_13
  have bx_0_13 : V13.cell? ⟨V10.heap.size, 0, none⟩ = some (.string x.Name) := cell_later hB13 bx_0_12
  have bx_1_13 : V13.cell? ⟨V10.heap.size, 1, none⟩ = some (.int .i64 x.Value) := cell_later hB13 bx_1_12
  have lx_13 : V10.heap.size < V13.heap.size := World.block_lt_of_cell? _ _ bx_0_13
  clear hk12 l_12 m_12 k_12 n_12 bd_0_12 bd_1_12 ld_12 bz_0_12 bz_1_12 lz_12 bw_0_12 bw_1_12 lw_12 bv_0_12 bv_1_12 lv_12 bh_0_12 bh_1_12 lh_12 bg_0_12 bg_1_12 lg_12 bx_0_12 bx_1_12 lx_12
  obtain ⟨⟨Pn, ⟨Px, Pv⟩, Pk⟩, hP⟩ : ∃ C, parseR u = C := ⟨_, rfl⟩
  have kPimpl := Lib.hid (show ∀ (W : World) (_ : Env W), Calls Tryz.prog 17 #[.string u] W fun e w' => e = .returned (.tuple #[.int .i64 Pn, .agg #[.string Px, .int .i64 Pv], .bool Pk]) ∧ Below W.heap.size W w' from fun W he => by have h := implParseStateLine_any u W (by omega) he; rw [hP] at h; exact h)
  have kPspec := Lib.hid (show ∀ (W : World), Calls Tryz.prog 18 #[.string u] W fun e w' => e = .returned (.tuple #[.int .i64 Pn, .agg #[.string Px, .int .i64 Pv], .bool Pk]) ∧ Below W.heap.size W w' from fun W => by have h := specParseStateLine_any u W (by omega); rw [hP] at h; exact h)
  have HhP := Lib.hid hP
  clear hP
  go_wp2_with fail
  refine (kPimpl.out _ (he.below hk13)).mono ?_
  rintro e V14 ⟨rfl, hb14⟩
  have hB14 := bl_trans (a := V13) (bl_refl _) hb14
  have hk14 := bl_trans hk13 hB14
  have z14 := Lib.hid hB14.size
  have l_14 := l_13.below hB14
  have m_14 := m_13.below hB14
  have k_14 := k_13.below hB14
  have n_14 := n_13.below hB14
  have bd_0_14 : V14.cell? ⟨V1.heap.size, 0, none⟩ = some (.string d.Safe) := cell_later hB14 bd_0_13
  have bd_1_14 : V14.cell? ⟨V1.heap.size, 1, none⟩ = some (.string d.Open) := cell_later hB14 bd_1_13
  have ld_14 : V1.heap.size < V14.heap.size := World.block_lt_of_cell? _ _ bd_0_14
  have bz_0_14 : V14.cell? ⟨V1.heap.size + 1, 0, none⟩ = some (.string z.Name) := cell_later hB14 bz_0_13
  have bz_1_14 : V14.cell? ⟨V1.heap.size + 1, 1, none⟩ = some (.int .i64 z.Value) := cell_later hB14 bz_1_13
  have lz_14 : V1.heap.size + 1 < V14.heap.size := World.block_lt_of_cell? _ _ bz_0_14
  have bw_0_14 : V14.cell? ⟨V2.heap.size, 0, none⟩ = some (.string Ws) := cell_later hB14 bw_0_13
  have bw_1_14 : V14.cell? ⟨V2.heap.size, 1, none⟩ = some (.string Wo) := cell_later hB14 bw_1_13
  have lw_14 : V2.heap.size < V14.heap.size := World.block_lt_of_cell? _ _ bw_0_14
  have bv_0_14 : V14.cell? ⟨V3.heap.size, 0, none⟩ = some (.string Ws) := cell_later hB14 bv_0_13
  have bv_1_14 : V14.cell? ⟨V3.heap.size, 1, none⟩ = some (.string Wo) := cell_later hB14 bv_1_13
  have lv_14 : V3.heap.size < V14.heap.size := World.block_lt_of_cell? _ _ bv_0_14
  have bh_0_14 : V14.cell? ⟨V8.heap.size, 0, none⟩ = some (.string Hs) := cell_later hB14 bh_0_13
  have bh_1_14 : V14.cell? ⟨V8.heap.size, 1, none⟩ = some (.string Ho) := cell_later hB14 bh_1_13
  have lh_14 : V8.heap.size < V14.heap.size := World.block_lt_of_cell? _ _ bh_0_14
  have bg_0_14 : V14.cell? ⟨V9.heap.size, 0, none⟩ = some (.string Hs) := cell_later hB14 bg_0_13
  have bg_1_14 : V14.cell? ⟨V9.heap.size, 1, none⟩ = some (.string Ho) := cell_later hB14 bg_1_13
  have lg_14 : V9.heap.size < V14.heap.size := World.block_lt_of_cell? _ _ bg_0_14
  have bx_0_14 : V14.cell? ⟨V10.heap.size, 0, none⟩ = some (.string x.Name) := cell_later hB14 bx_0_13
  have bx_1_14 : V14.cell? ⟨V10.heap.size, 1, none⟩ = some (.int .i64 x.Value) := cell_later hB14 bx_1_13
  have lx_14 : V10.heap.size < V14.heap.size := World.block_lt_of_cell? _ _ bx_0_14
  clear hk13 l_13 m_13 k_13 n_13 bd_0_13 bd_1_13 ld_13 bz_0_13 bz_1_13 lz_13 bw_0_13 bw_1_13 lw_13 bv_0_13 bv_1_13 lv_13 bh_0_13 bh_1_13 lh_13 bg_0_13 bg_1_13 lg_13 bx_0_13 bx_1_13 lx_13
  go_wp2_with fail
  refine (kPspec.out _).mono ?_
  rintro e V15 ⟨rfl, hb15⟩
  have hB15 := bl_trans (a := V14) (by repeat' (first | exact bl_refl _ | refine bl_alloc ?_ _ | refine bl_drew ?_ | refine bl_drewN ?_ _ | refine bl_set ?_ ?_ _ | (simp; done) | (simp; omega))) hb15
  have hk15 := bl_trans hk14 hB15
  have z15 : Hid (V14.heap.size + 1 ≤ V15.heap.size) := by have := hb15.size; simp only [World.size_alloc] at this; exact (by omega : _)
  have l_15 := l_14.below hB15
  have m_15 := m_14.below hB15
  have k_15 := k_14.below hB15
  have n_15 := n_14.below hB15
  have bd_0_15 : V15.cell? ⟨V1.heap.size, 0, none⟩ = some (.string d.Safe) := cell_later hB15 bd_0_14
  have bd_1_15 : V15.cell? ⟨V1.heap.size, 1, none⟩ = some (.string d.Open) := cell_later hB15 bd_1_14
  have ld_15 : V1.heap.size < V15.heap.size := World.block_lt_of_cell? _ _ bd_0_15
  have bz_0_15 : V15.cell? ⟨V1.heap.size + 1, 0, none⟩ = some (.string z.Name) := cell_later hB15 bz_0_14
  have bz_1_15 : V15.cell? ⟨V1.heap.size + 1, 1, none⟩ = some (.int .i64 z.Value) := cell_later hB15 bz_1_14
  have lz_15 : V1.heap.size + 1 < V15.heap.size := World.block_lt_of_cell? _ _ bz_0_15
  have bw_0_15 : V15.cell? ⟨V2.heap.size, 0, none⟩ = some (.string Ws) := cell_later hB15 bw_0_14
  have bw_1_15 : V15.cell? ⟨V2.heap.size, 1, none⟩ = some (.string Wo) := cell_later hB15 bw_1_14
  have lw_15 : V2.heap.size < V15.heap.size := World.block_lt_of_cell? _ _ bw_0_15
  have bv_0_15 : V15.cell? ⟨V3.heap.size, 0, none⟩ = some (.string Ws) := cell_later hB15 bv_0_14
  have bv_1_15 : V15.cell? ⟨V3.heap.size, 1, none⟩ = some (.string Wo) := cell_later hB15 bv_1_14
  have lv_15 : V3.heap.size < V15.heap.size := World.block_lt_of_cell? _ _ bv_0_15
  have bh_0_15 : V15.cell? ⟨V8.heap.size, 0, none⟩ = some (.string Hs) := cell_later hB15 bh_0_14
  have bh_1_15 : V15.cell? ⟨V8.heap.size, 1, none⟩ = some (.string Ho) := cell_later hB15 bh_1_14
  have lh_15 : V8.heap.size < V15.heap.size := World.block_lt_of_cell? _ _ bh_0_15
  have bg_0_15 : V15.cell? ⟨V9.heap.size, 0, none⟩ = some (.string Hs) := cell_later hB15 bg_0_14
  have bg_1_15 : V15.cell? ⟨V9.heap.size, 1, none⟩ = some (.string Ho) := cell_later hB15 bg_1_14
  have lg_15 : V9.heap.size < V15.heap.size := World.block_lt_of_cell? _ _ bg_0_15
  have bx_0_15 : V15.cell? ⟨V10.heap.size, 0, none⟩ = some (.string x.Name) := cell_later hB15 bx_0_14
  have bx_1_15 : V15.cell? ⟨V10.heap.size, 1, none⟩ = some (.int .i64 x.Value) := cell_later hB15 bx_1_14
  have lx_15 : V10.heap.size < V15.heap.size := World.block_lt_of_cell? _ _ bx_0_15
  have bp_0_15 : V15.cell? ⟨V14.heap.size, 0, none⟩ = some (.string Px) := cell_later hb15 (by go_simp)
  have bp_1_15 : V15.cell? ⟨V14.heap.size, 1, none⟩ = some (.int .i64 Pv) := cell_later hb15 (by go_simp)
  have lp_15 : V14.heap.size < V15.heap.size := World.block_lt_of_cell? _ _ bp_0_15
  clear hk14 l_14 m_14 k_14 n_14 bd_0_14 bd_1_14 ld_14 bz_0_14 bz_1_14 lz_14 bw_0_14 bw_1_14 lw_14 bv_0_14 bv_1_14 lv_14 bh_0_14 bh_1_14 lh_14 bg_0_14 bg_1_14 lg_14 bx_0_14 bx_1_14 lx_14
  go_upto_region 18 with fail
  refine wp_below (fun V16 hb16 => ?_)
  have hB16 := bl_trans (a := V15) (by repeat' (first | exact bl_refl _ | refine bl_alloc ?_ _ | refine bl_drew ?_ | refine bl_drewN ?_ _ | refine bl_set ?_ ?_ _ | (simp; done) | (simp; omega))) hb16
  have hk16 := bl_trans hk15 hB16
  have z16 : Hid (V15.heap.size + 1 ≤ V16.heap.size) := by have := hb16.size; simp only [World.size_alloc] at this; exact (by omega : _)
  have l_16 := l_15.below hB16
  have m_16 := m_15.below hB16
  have k_16 := k_15.below hB16
  have n_16 := n_15.below hB16
  have bd_0_16 : V16.cell? ⟨V1.heap.size, 0, none⟩ = some (.string d.Safe) := cell_later hB16 bd_0_15
  have bd_1_16 : V16.cell? ⟨V1.heap.size, 1, none⟩ = some (.string d.Open) := cell_later hB16 bd_1_15
  have ld_16 : V1.heap.size < V16.heap.size := World.block_lt_of_cell? _ _ bd_0_16
  have bz_0_16 : V16.cell? ⟨V1.heap.size + 1, 0, none⟩ = some (.string z.Name) := cell_later hB16 bz_0_15
  have bz_1_16 : V16.cell? ⟨V1.heap.size + 1, 1, none⟩ = some (.int .i64 z.Value) := cell_later hB16 bz_1_15
  have lz_16 : V1.heap.size + 1 < V16.heap.size := World.block_lt_of_cell? _ _ bz_0_16
  have bw_0_16 : V16.cell? ⟨V2.heap.size, 0, none⟩ = some (.string Ws) := cell_later hB16 bw_0_15
  have bw_1_16 : V16.cell? ⟨V2.heap.size, 1, none⟩ = some (.string Wo) := cell_later hB16 bw_1_15
  have lw_16 : V2.heap.size < V16.heap.size := World.block_lt_of_cell? _ _ bw_0_16
  have bv_0_16 : V16.cell? ⟨V3.heap.size, 0, none⟩ = some (.string Ws) := cell_later hB16 bv_0_15
  have bv_1_16 : V16.cell? ⟨V3.heap.size, 1, none⟩ = some (.string Wo) := cell_later hB16 bv_1_15
  have lv_16 : V3.heap.size < V16.heap.size := World.block_lt_of_cell? _ _ bv_0_16
  have bh_0_16 : V16.cell? ⟨V8.heap.size, 0, none⟩ = some (.string Hs) := cell_later hB16 bh_0_15
  have bh_1_16 : V16.cell? ⟨V8.heap.size, 1, none⟩ = some (.string Ho) := cell_later hB16 bh_1_15
  have lh_16 : V8.heap.size < V16.heap.size := World.block_lt_of_cell? _ _ bh_0_16
  have bg_0_16 : V16.cell? ⟨V9.heap.size, 0, none⟩ = some (.string Hs) := cell_later hB16 bg_0_15
  have bg_1_16 : V16.cell? ⟨V9.heap.size, 1, none⟩ = some (.string Ho) := cell_later hB16 bg_1_15
  have lg_16 : V9.heap.size < V16.heap.size := World.block_lt_of_cell? _ _ bg_0_16
  have bx_0_16 : V16.cell? ⟨V10.heap.size, 0, none⟩ = some (.string x.Name) := cell_later hB16 bx_0_15
  have bx_1_16 : V16.cell? ⟨V10.heap.size, 1, none⟩ = some (.int .i64 x.Value) := cell_later hB16 bx_1_15
  have lx_16 : V10.heap.size < V16.heap.size := World.block_lt_of_cell? _ _ bx_0_16
  have bp_0_16 : V16.cell? ⟨V14.heap.size, 0, none⟩ = some (.string Px) := cell_later hB16 bp_0_15
  have bp_1_16 : V16.cell? ⟨V14.heap.size, 1, none⟩ = some (.int .i64 Pv) := cell_later hB16 bp_1_15
  have lp_16 : V14.heap.size < V16.heap.size := World.block_lt_of_cell? _ _ bp_0_16
  have bq_0_16 : V16.cell? ⟨V15.heap.size, 0, none⟩ = some (.string Px) := cell_later hb16 (by go_simp)
  have bq_1_16 : V16.cell? ⟨V15.heap.size, 1, none⟩ = some (.int .i64 Pv) := cell_later hb16 (by go_simp)
  have lq_16 : V15.heap.size < V16.heap.size := World.block_lt_of_cell? _ _ bq_0_16
  clear hk15 l_15 m_15 k_15 n_15 bd_0_15 bd_1_15 ld_15 bz_0_15 bz_1_15 lz_15 bw_0_15 bw_1_15 lw_15 bv_0_15 bv_1_15 lv_15 bh_0_15 bh_1_15 lh_15 bg_0_15 bg_1_15 lg_15 bx_0_15 bx_1_15 lx_15 bp_0_15 bp_1_15 lp_15
  go_cut [233] (fun sb wx => sb = .bool false ∧ Below V16.heap.size V16 wx)
  case first => as_aux_lemma =>
    have hlf2 : lk = true → fo = true := fun h => (Hhwf.out h).1
    have Hlf2 := Lib.hid hlf2
    clear hlf2
    dsimp only [List.append]
    refine wp_region_grow_big (by kernel_rfl) (by kernel_rfl) (by kernel_rfl) (fun X hX => ?_)
    have hbX : Below V16.heap.size V16 X := by rw [hX]; exact bl_refl _
    have qq0 := Gw.cell (cell_later hbX bd_0_16)
    have qq1 := Gw.cell (cell_later hbX bd_1_16)
    have qq2 := Gw.cell (cell_later hbX bz_0_16)
    have qq3 := Gw.cell (cell_later hbX bz_1_16)
    have qq4 := Gw.cell (cell_later hbX bw_0_16)
    have qq5 := Gw.cell (cell_later hbX bw_1_16)
    have qq6 := Gw.cell (cell_later hbX bv_0_16)
    have qq7 := Gw.cell (cell_later hbX bv_1_16)
    have qq8 := Gw.cell (cell_later hbX bh_0_16)
    have qq9 := Gw.cell (cell_later hbX bh_1_16)
    have qq10 := Gw.cell (cell_later hbX bg_0_16)
    have qq11 := Gw.cell (cell_later hbX bg_1_16)
    have qq12 := Gw.cell (cell_later hbX bp_0_16)
    have qq13 := Gw.cell (cell_later hbX bp_1_16)
    have qq14 := Gw.cell (cell_later hbX bq_0_16)
    have qq15 := Gw.cell (cell_later hbX bq_1_16)
    have HX := Lib.hid hX
    clear hX
    iterate 28 (go_big_quiet_step (first | (go_at_call 19; first | (exact Calls.grow_of (qStates_same _ _ _ _ _ Sw _ (by omega) ((l_16.sl.below hbX).below (Subtype.property _)) ((m_16.sl.below hbX).below (Subtype.property _)))) | (exact Calls.grow_of (qStates_same _ _ _ _ _ Kw _ (by omega) ((k_16.sl.below hbX).below (Subtype.property _)) ((n_16.sl.below hbX).below (Subtype.property _))))) | (go_at_call 20; exact Calls.grow_of (kI.out _ (((he.below hk16).below hbX).below (Subtype.property _)))) | (go_at_call 21; exact Calls.grow_of (kZimpl.out _)) | (go_at_call 22; exact Calls.grow_of (kZspec.out _))))
    as_aux_lemma =>
      iterate 28 (go_big_quiet_step (first | (go_at_call 19; first | (exact Calls.grow_of (qStates_same _ _ _ _ _ Sw _ (by omega) ((l_16.sl.below hbX).below (Subtype.property _)) ((m_16.sl.below hbX).below (Subtype.property _)))) | (exact Calls.grow_of (qStates_same _ _ _ _ _ Kw _ (by omega) ((k_16.sl.below hbX).below (Subtype.property _)) ((n_16.sl.below hbX).below (Subtype.property _))))) | (go_at_call 20; exact Calls.grow_of (kI.out _ (((he.below hk16).below hbX).below (Subtype.property _)))) | (go_at_call 21; exact Calls.grow_of (kZimpl.out _)) | (go_at_call 22; exact Calls.grow_of (kZspec.out _))))
      as_aux_lemma =>
        iterate 26 (go_big_quiet_step (first | (go_at_call 19; first | (exact Calls.grow_of (qStates_same _ _ _ _ _ Sw _ (by omega) ((l_16.sl.below hbX).below (Subtype.property _)) ((m_16.sl.below hbX).below (Subtype.property _)))) | (exact Calls.grow_of (qStates_same _ _ _ _ _ Kw _ (by omega) ((k_16.sl.below hbX).below (Subtype.property _)) ((n_16.sl.below hbX).below (Subtype.property _))))) | (go_at_call 20; exact Calls.grow_of (kI.out _ (((he.below hk16).below hbX).below (Subtype.property _)))) | (go_at_call 21; exact Calls.grow_of (kZimpl.out _)) | (go_at_call 22; exact Calls.grow_of (kZspec.out _))))
        as_aux_lemma =>
          cases lk
          · as_aux_lemma =>
              skip
              repeat (go_big_quiet_step (first | (go_at_call 19; first | (exact Calls.grow_of (qStates_same _ _ _ _ _ Sw _ (by omega) ((l_16.sl.below hbX).below (Subtype.property _)) ((m_16.sl.below hbX).below (Subtype.property _)))) | (exact Calls.grow_of (qStates_same _ _ _ _ _ Kw _ (by omega) ((k_16.sl.below hbX).below (Subtype.property _)) ((n_16.sl.below hbX).below (Subtype.property _))))) | (go_at_call 20; exact Calls.grow_of (kI.out _ (((he.below hk16).below hbX).below (Subtype.property _)))) | (go_at_call 21; exact Calls.grow_of (kZimpl.out _)) | (go_at_call 22; exact Calls.grow_of (kZspec.out _))))
              refine wpGrow_nil (fun VV hV => ?_)
              have hbq := bl_trans hbX hV
              clear hV hbX HX qq0 qq1 qq2 qq3 qq4 qq5 qq6 qq7 qq8 qq9 qq10 qq11 qq12 qq13 qq14 qq15
              iterate 2 go_step
              go_meet
              exact ⟨rfl, hbq⟩
          · as_aux_lemma =>
              obtain rfl := Hlf2.out rfl
              repeat (go_big_quiet_step (first | (go_at_call 19; first | (exact Calls.grow_of (qStates_same _ _ _ _ _ Sw _ (by omega) ((l_16.sl.below hbX).below (Subtype.property _)) ((m_16.sl.below hbX).below (Subtype.property _)))) | (exact Calls.grow_of (qStates_same _ _ _ _ _ Kw _ (by omega) ((k_16.sl.below hbX).below (Subtype.property _)) ((n_16.sl.below hbX).below (Subtype.property _))))) | (go_at_call 20; exact Calls.grow_of (kI.out _ (((he.below hk16).below hbX).below (Subtype.property _)))) | (go_at_call 21; exact Calls.grow_of (kZimpl.out _)) | (go_at_call 22; exact Calls.grow_of (kZspec.out _))))
              refine wpGrow_nil (fun VV hV => ?_)
              have hbq := bl_trans hbX hV
              clear hV hbX HX qq0 qq1 qq2 qq3 qq4 qq5 qq6 qq7 qq8 qq9 qq10 qq11 qq12 qq13 qq14 qq15
              iterate 2 go_step
              go_meet
              exact ⟨rfl, hbq⟩
  case rest => as_aux_lemma =>
    obtain ⟨rfl, hb17⟩ := hcut
    obtain ⟨V17, hVV⟩ : ∃ V, V = wc := ⟨_, rfl⟩
    subst hVV
    have hB17 := bl_trans (a := V16) (bl_refl _) hb17
    have hk17 := bl_trans hk16 hB17
    have z17 := Lib.hid hB17.size
    have l_17 := l_16.below hB17
    have m_17 := m_16.below hB17
    have k_17 := k_16.below hB17
    have n_17 := n_16.below hB17
    have bd_0_17 : V17.cell? ⟨V1.heap.size, 0, none⟩ = some (.string d.Safe) := cell_later hB17 bd_0_16
    have bd_1_17 : V17.cell? ⟨V1.heap.size, 1, none⟩ = some (.string d.Open) := cell_later hB17 bd_1_16
    have ld_17 : V1.heap.size < V17.heap.size := World.block_lt_of_cell? _ _ bd_0_17
    have bz_0_17 : V17.cell? ⟨V1.heap.size + 1, 0, none⟩ = some (.string z.Name) := cell_later hB17 bz_0_16
    have bz_1_17 : V17.cell? ⟨V1.heap.size + 1, 1, none⟩ = some (.int .i64 z.Value) := cell_later hB17 bz_1_16
    have lz_17 : V1.heap.size + 1 < V17.heap.size := World.block_lt_of_cell? _ _ bz_0_17
    have bw_0_17 : V17.cell? ⟨V2.heap.size, 0, none⟩ = some (.string Ws) := cell_later hB17 bw_0_16
    have bw_1_17 : V17.cell? ⟨V2.heap.size, 1, none⟩ = some (.string Wo) := cell_later hB17 bw_1_16
    have lw_17 : V2.heap.size < V17.heap.size := World.block_lt_of_cell? _ _ bw_0_17
    have bv_0_17 : V17.cell? ⟨V3.heap.size, 0, none⟩ = some (.string Ws) := cell_later hB17 bv_0_16
    have bv_1_17 : V17.cell? ⟨V3.heap.size, 1, none⟩ = some (.string Wo) := cell_later hB17 bv_1_16
    have lv_17 : V3.heap.size < V17.heap.size := World.block_lt_of_cell? _ _ bv_0_17
    have bh_0_17 : V17.cell? ⟨V8.heap.size, 0, none⟩ = some (.string Hs) := cell_later hB17 bh_0_16
    have bh_1_17 : V17.cell? ⟨V8.heap.size, 1, none⟩ = some (.string Ho) := cell_later hB17 bh_1_16
    have lh_17 : V8.heap.size < V17.heap.size := World.block_lt_of_cell? _ _ bh_0_17
    have bg_0_17 : V17.cell? ⟨V9.heap.size, 0, none⟩ = some (.string Hs) := cell_later hB17 bg_0_16
    have bg_1_17 : V17.cell? ⟨V9.heap.size, 1, none⟩ = some (.string Ho) := cell_later hB17 bg_1_16
    have lg_17 : V9.heap.size < V17.heap.size := World.block_lt_of_cell? _ _ bg_0_17
    have bx_0_17 : V17.cell? ⟨V10.heap.size, 0, none⟩ = some (.string x.Name) := cell_later hB17 bx_0_16
    have bx_1_17 : V17.cell? ⟨V10.heap.size, 1, none⟩ = some (.int .i64 x.Value) := cell_later hB17 bx_1_16
    have lx_17 : V10.heap.size < V17.heap.size := World.block_lt_of_cell? _ _ bx_0_17
    have bp_0_17 : V17.cell? ⟨V14.heap.size, 0, none⟩ = some (.string Px) := cell_later hB17 bp_0_16
    have bp_1_17 : V17.cell? ⟨V14.heap.size, 1, none⟩ = some (.int .i64 Pv) := cell_later hB17 bp_1_16
    have lp_17 : V14.heap.size < V17.heap.size := World.block_lt_of_cell? _ _ bp_0_17
    have bq_0_17 : V17.cell? ⟨V15.heap.size, 0, none⟩ = some (.string Px) := cell_later hB17 bq_0_16
    have bq_1_17 : V17.cell? ⟨V15.heap.size, 1, none⟩ = some (.int .i64 Pv) := cell_later hB17 bq_1_16
    have lq_17 : V15.heap.size < V17.heap.size := World.block_lt_of_cell? _ _ bq_0_17
    clear hk16 l_16 m_16 k_16 n_16 bd_0_16 bd_1_16 ld_16 bz_0_16 bz_1_16 lz_16 bw_0_16 bw_1_16 lw_16 bv_0_16 bv_1_16 lv_16 bh_0_16 bh_1_16 lh_16 bg_0_16 bg_1_16 lg_16 bx_0_16 bx_1_16 lx_16 bp_0_16 bp_1_16 lp_16 bq_0_16 bq_1_16 lq_16
    clear l_17 k_17 bp_0_17 bp_1_17 lp_17 bq_0_17 bq_1_17 lq_17
    go_upto_if 234 with fail
    refine wp_below (fun V18 hb18 => ?_)
    have hB18 := bl_trans (a := V17) (bl_refl _) hb18
    have hk18 := bl_trans hk17 hB18
    have z18 := Lib.hid hB18.size
    have m_18 := m_17.below hB18
    have n_18 := n_17.below hB18
    have bd_0_18 : V18.cell? ⟨V1.heap.size, 0, none⟩ = some (.string d.Safe) := cell_later hB18 bd_0_17
    have bd_1_18 : V18.cell? ⟨V1.heap.size, 1, none⟩ = some (.string d.Open) := cell_later hB18 bd_1_17
    have ld_18 : V1.heap.size < V18.heap.size := World.block_lt_of_cell? _ _ bd_0_18
    have bz_0_18 : V18.cell? ⟨V1.heap.size + 1, 0, none⟩ = some (.string z.Name) := cell_later hB18 bz_0_17
    have bz_1_18 : V18.cell? ⟨V1.heap.size + 1, 1, none⟩ = some (.int .i64 z.Value) := cell_later hB18 bz_1_17
    have lz_18 : V1.heap.size + 1 < V18.heap.size := World.block_lt_of_cell? _ _ bz_0_18
    have bw_0_18 : V18.cell? ⟨V2.heap.size, 0, none⟩ = some (.string Ws) := cell_later hB18 bw_0_17
    have bw_1_18 : V18.cell? ⟨V2.heap.size, 1, none⟩ = some (.string Wo) := cell_later hB18 bw_1_17
    have lw_18 : V2.heap.size < V18.heap.size := World.block_lt_of_cell? _ _ bw_0_18
    have bv_0_18 : V18.cell? ⟨V3.heap.size, 0, none⟩ = some (.string Ws) := cell_later hB18 bv_0_17
    have bv_1_18 : V18.cell? ⟨V3.heap.size, 1, none⟩ = some (.string Wo) := cell_later hB18 bv_1_17
    have lv_18 : V3.heap.size < V18.heap.size := World.block_lt_of_cell? _ _ bv_0_18
    have bh_0_18 : V18.cell? ⟨V8.heap.size, 0, none⟩ = some (.string Hs) := cell_later hB18 bh_0_17
    have bh_1_18 : V18.cell? ⟨V8.heap.size, 1, none⟩ = some (.string Ho) := cell_later hB18 bh_1_17
    have lh_18 : V8.heap.size < V18.heap.size := World.block_lt_of_cell? _ _ bh_0_18
    have bg_0_18 : V18.cell? ⟨V9.heap.size, 0, none⟩ = some (.string Hs) := cell_later hB18 bg_0_17
    have bg_1_18 : V18.cell? ⟨V9.heap.size, 1, none⟩ = some (.string Ho) := cell_later hB18 bg_1_17
    have lg_18 : V9.heap.size < V18.heap.size := World.block_lt_of_cell? _ _ bg_0_18
    have bx_0_18 : V18.cell? ⟨V10.heap.size, 0, none⟩ = some (.string x.Name) := cell_later hB18 bx_0_17
    have bx_1_18 : V18.cell? ⟨V10.heap.size, 1, none⟩ = some (.int .i64 x.Value) := cell_later hB18 bx_1_17
    have lx_18 : V10.heap.size < V18.heap.size := World.block_lt_of_cell? _ _ bx_0_18
    clear hk17 m_17 n_17 bd_0_17 bd_1_17 ld_17 bz_0_17 bz_1_17 lz_17 bw_0_17 bw_1_17 lw_17 bv_0_17 bv_1_17 lv_17 bh_0_17 bh_1_17 lh_17 bg_0_17 bg_1_17 lg_17 bx_0_17 bx_1_17 lx_17
    go_cut [] (fun wx => Below V18.heap.size V18 wx)
    case first => as_aux_lemma =>
      cases lk
      · skip
        go_wp2_with fail
        go_meet
        exact (bl_refl _)
      · obtain ⟨hfo, hWs, hWf, hWz⟩ := Hhwf.out rfl
        clear hfo
        obtain ⟨Al, hAl⟩ : ∃ L, L = Sw ++ [z] := ⟨_, rfl⟩
        rw [← hAl] at hWf
        have hAn : Al.length = Sw.length + 1 := by rw [hAl, List.length_append]; rfl
        have hAz : nth Al Sw.length = z := by rw [hAl]; exact nth_get (by simp)
        subst hWs
        have hw1 : IntKind.i64.wrap ((Sw.length : Int) + 1) = (Sw.length : Int) + 1 := IntWalk.i64_in _ (by omega)
        have kY := Lib.hid (show ∀ (W : World) (_ : Env W), Calls Tryz.prog 7 #[.agg #[.string d.Safe, .string Wo]] W fun e w' => ∃ A c, e = .returned (.tuple #[.slice A (Sw.length + 1) c, .bool true]) ∧ Own w' W.heap.size 26 (.slice A (Sw.length + 1) c) Al ∧ Below W.heap.size W w' from fun W he => by have h := implWrittenStates_any ⟨d.Safe, Wo⟩ W hWz he; rw [hWf] at h; exact h.mono fun e w' h => by obtain ⟨A, c, h1, h2, h3⟩ := h; exact ⟨A, c, by rw [← hAn]; exact h1, by rw [← hAn]; exact h2, h3⟩)
        have HhAl := Lib.hid hAl
        clear hAl
        have HhAn := Lib.hid hAn
        clear hAn
        have HhAz := Lib.hid hAz
        clear hAz
        have HhWf := Lib.hid hWf
        clear hWf
        clear hWz
        go_wp2_with fail
        refine (kY.out _ (he.below hk18)).mono ?_
        rintro e V19 ⟨A_a, c_a, rfl, ho_a, hb19⟩
        have hB19 := bl_trans (a := V18) (bl_refl _) hb19
        have hk19 := bl_trans hk18 hB19
        have z19 := Lib.hid hB19.size
        have m_19 := m_18.below hB19
        have n_19 := n_18.below hB19
        have bd_0_19 : V19.cell? ⟨V1.heap.size, 0, none⟩ = some (.string d.Safe) := cell_later hB19 bd_0_18
        have bd_1_19 : V19.cell? ⟨V1.heap.size, 1, none⟩ = some (.string d.Open) := cell_later hB19 bd_1_18
        have ld_19 : V1.heap.size < V19.heap.size := World.block_lt_of_cell? _ _ bd_0_19
        have bz_0_19 : V19.cell? ⟨V1.heap.size + 1, 0, none⟩ = some (.string z.Name) := cell_later hB19 bz_0_18
        have bz_1_19 : V19.cell? ⟨V1.heap.size + 1, 1, none⟩ = some (.int .i64 z.Value) := cell_later hB19 bz_1_18
        have lz_19 : V1.heap.size + 1 < V19.heap.size := World.block_lt_of_cell? _ _ bz_0_19
        have bw_0_19 : V19.cell? ⟨V2.heap.size, 0, none⟩ = some (.string d.Safe) := cell_later hB19 bw_0_18
        have bw_1_19 : V19.cell? ⟨V2.heap.size, 1, none⟩ = some (.string Wo) := cell_later hB19 bw_1_18
        have lw_19 : V2.heap.size < V19.heap.size := World.block_lt_of_cell? _ _ bw_0_19
        have bv_0_19 : V19.cell? ⟨V3.heap.size, 0, none⟩ = some (.string d.Safe) := cell_later hB19 bv_0_18
        have bv_1_19 : V19.cell? ⟨V3.heap.size, 1, none⟩ = some (.string Wo) := cell_later hB19 bv_1_18
        have lv_19 : V3.heap.size < V19.heap.size := World.block_lt_of_cell? _ _ bv_0_19
        have bh_0_19 : V19.cell? ⟨V8.heap.size, 0, none⟩ = some (.string Hs) := cell_later hB19 bh_0_18
        have bh_1_19 : V19.cell? ⟨V8.heap.size, 1, none⟩ = some (.string Ho) := cell_later hB19 bh_1_18
        have lh_19 : V8.heap.size < V19.heap.size := World.block_lt_of_cell? _ _ bh_0_19
        have bg_0_19 : V19.cell? ⟨V9.heap.size, 0, none⟩ = some (.string Hs) := cell_later hB19 bg_0_18
        have bg_1_19 : V19.cell? ⟨V9.heap.size, 1, none⟩ = some (.string Ho) := cell_later hB19 bg_1_18
        have lg_19 : V9.heap.size < V19.heap.size := World.block_lt_of_cell? _ _ bg_0_19
        have bx_0_19 : V19.cell? ⟨V10.heap.size, 0, none⟩ = some (.string x.Name) := cell_later hB19 bx_0_18
        have bx_1_19 : V19.cell? ⟨V10.heap.size, 1, none⟩ = some (.int .i64 x.Value) := cell_later hB19 bx_1_18
        have lx_19 : V10.heap.size < V19.heap.size := World.block_lt_of_cell? _ _ bx_0_19
        clear hk18 m_18 n_18 bd_0_18 bd_1_18 ld_18 bz_0_18 bz_1_18 lz_18 bw_0_18 bw_1_18 lw_18 bv_0_18 bv_1_18 lv_18 bh_0_18 bh_1_18 lh_18 bg_0_18 bg_1_18 lg_18 bx_0_18 bx_1_18 lx_18
        go_upto_region 22 with fail
        refine wp_below (fun V20 hb20 => ?_)
        have hB20 := bl_trans (a := V19) (bl_refl _) hb20
        have hk20 := bl_trans hk19 hB20
        have z20 := Lib.hid hB20.size
        have m_20 := m_19.below hB20
        have n_20 := n_19.below hB20
        have a_20 := ho_a.below hB20
        have bd_0_20 : V20.cell? ⟨V1.heap.size, 0, none⟩ = some (.string d.Safe) := cell_later hB20 bd_0_19
        have bd_1_20 : V20.cell? ⟨V1.heap.size, 1, none⟩ = some (.string d.Open) := cell_later hB20 bd_1_19
        have ld_20 : V1.heap.size < V20.heap.size := World.block_lt_of_cell? _ _ bd_0_20
        have bz_0_20 : V20.cell? ⟨V1.heap.size + 1, 0, none⟩ = some (.string z.Name) := cell_later hB20 bz_0_19
        have bz_1_20 : V20.cell? ⟨V1.heap.size + 1, 1, none⟩ = some (.int .i64 z.Value) := cell_later hB20 bz_1_19
        have lz_20 : V1.heap.size + 1 < V20.heap.size := World.block_lt_of_cell? _ _ bz_0_20
        have bw_0_20 : V20.cell? ⟨V2.heap.size, 0, none⟩ = some (.string d.Safe) := cell_later hB20 bw_0_19
        have bw_1_20 : V20.cell? ⟨V2.heap.size, 1, none⟩ = some (.string Wo) := cell_later hB20 bw_1_19
        have lw_20 : V2.heap.size < V20.heap.size := World.block_lt_of_cell? _ _ bw_0_20
        have bv_0_20 : V20.cell? ⟨V3.heap.size, 0, none⟩ = some (.string d.Safe) := cell_later hB20 bv_0_19
        have bv_1_20 : V20.cell? ⟨V3.heap.size, 1, none⟩ = some (.string Wo) := cell_later hB20 bv_1_19
        have lv_20 : V3.heap.size < V20.heap.size := World.block_lt_of_cell? _ _ bv_0_20
        have bh_0_20 : V20.cell? ⟨V8.heap.size, 0, none⟩ = some (.string Hs) := cell_later hB20 bh_0_19
        have bh_1_20 : V20.cell? ⟨V8.heap.size, 1, none⟩ = some (.string Ho) := cell_later hB20 bh_1_19
        have lh_20 : V8.heap.size < V20.heap.size := World.block_lt_of_cell? _ _ bh_0_20
        have bg_0_20 : V20.cell? ⟨V9.heap.size, 0, none⟩ = some (.string Hs) := cell_later hB20 bg_0_19
        have bg_1_20 : V20.cell? ⟨V9.heap.size, 1, none⟩ = some (.string Ho) := cell_later hB20 bg_1_19
        have lg_20 : V9.heap.size < V20.heap.size := World.block_lt_of_cell? _ _ bg_0_20
        have bx_0_20 : V20.cell? ⟨V10.heap.size, 0, none⟩ = some (.string x.Name) := cell_later hB20 bx_0_19
        have bx_1_20 : V20.cell? ⟨V10.heap.size, 1, none⟩ = some (.int .i64 x.Value) := cell_later hB20 bx_1_19
        have lx_20 : V10.heap.size < V20.heap.size := World.block_lt_of_cell? _ _ bx_0_20
        clear hk19 m_19 n_19 ho_a bd_0_19 bd_1_19 ld_19 bz_0_19 bz_1_19 lz_19 bw_0_19 bw_1_19 lw_19 bv_0_19 bv_1_19 lv_19 bh_0_19 bh_1_19 lh_19 bg_0_19 bg_1_19 lg_19 bx_0_19 bx_1_19 lx_19
        have hal := a_20.sl.state (k := Sw.length) (by omega)
        rw [HhAz.out] at hal
        clear a_20
        obtain ⟨ba, oa, rfl, hba, a0, a1⟩ := hal
        refine wp_region_grow (by kernel_rfl) (by kernel_rfl) (fun X hX => ?_)
        have hbX : Below V20.heap.size V20 X := by rw [hX]; exact bl_refl _
        have qq0 := Gw.cell (cell_later hbX bd_0_20)
        have qq1 := Gw.cell (cell_later hbX bd_1_20)
        have qq2 := Gw.cell (cell_later hbX bz_0_20)
        have qq3 := Gw.cell (cell_later hbX bz_1_20)
        have qq4 := Gw.cell (cell_later hbX bv_0_20)
        have qq5 := Gw.cell (cell_later hbX bv_1_20)
        have qq6 := Gw.cell (cell_later hbX a0)
        have qq7 := Gw.cell (cell_later hbX a1)
        have HX := Lib.hid hX
        clear hX
        repeat (go_big_quiet_step (fail))
        refine wpGrow_nil (fun VV hV => ?_)
        have hbq := bl_trans hbX hV
        clear hV hbX HX qq0 qq1 qq2 qq3 qq4 qq5 qq6 qq7
        go_wp2_with fail
        go_meet
        exact (bl_trans (bl_trans hB19 hB20) hbq)
    case rest => as_aux_lemma =>
      obtain ⟨V21, hVV⟩ : ∃ V, V = wc := ⟨_, rfl⟩
      have hb21 := hcut
      clear hcut
      subst hVV
      have hB21 := bl_trans (a := V18) (bl_refl _) hb21
      have hk21 := bl_trans hk18 hB21
      have z21 := Lib.hid hB21.size
      have m_21 := m_18.below hB21
      have n_21 := n_18.below hB21
      have bd_0_21 : V21.cell? ⟨V1.heap.size, 0, none⟩ = some (.string d.Safe) := cell_later hB21 bd_0_18
      have bd_1_21 : V21.cell? ⟨V1.heap.size, 1, none⟩ = some (.string d.Open) := cell_later hB21 bd_1_18
      have ld_21 : V1.heap.size < V21.heap.size := World.block_lt_of_cell? _ _ bd_0_21
      have bz_0_21 : V21.cell? ⟨V1.heap.size + 1, 0, none⟩ = some (.string z.Name) := cell_later hB21 bz_0_18
      have bz_1_21 : V21.cell? ⟨V1.heap.size + 1, 1, none⟩ = some (.int .i64 z.Value) := cell_later hB21 bz_1_18
      have lz_21 : V1.heap.size + 1 < V21.heap.size := World.block_lt_of_cell? _ _ bz_0_21
      have bw_0_21 : V21.cell? ⟨V2.heap.size, 0, none⟩ = some (.string Ws) := cell_later hB21 bw_0_18
      have bw_1_21 : V21.cell? ⟨V2.heap.size, 1, none⟩ = some (.string Wo) := cell_later hB21 bw_1_18
      have lw_21 : V2.heap.size < V21.heap.size := World.block_lt_of_cell? _ _ bw_0_21
      have bv_0_21 : V21.cell? ⟨V3.heap.size, 0, none⟩ = some (.string Ws) := cell_later hB21 bv_0_18
      have bv_1_21 : V21.cell? ⟨V3.heap.size, 1, none⟩ = some (.string Wo) := cell_later hB21 bv_1_18
      have lv_21 : V3.heap.size < V21.heap.size := World.block_lt_of_cell? _ _ bv_0_21
      have bh_0_21 : V21.cell? ⟨V8.heap.size, 0, none⟩ = some (.string Hs) := cell_later hB21 bh_0_18
      have bh_1_21 : V21.cell? ⟨V8.heap.size, 1, none⟩ = some (.string Ho) := cell_later hB21 bh_1_18
      have lh_21 : V8.heap.size < V21.heap.size := World.block_lt_of_cell? _ _ bh_0_21
      have bg_0_21 : V21.cell? ⟨V9.heap.size, 0, none⟩ = some (.string Hs) := cell_later hB21 bg_0_18
      have bg_1_21 : V21.cell? ⟨V9.heap.size, 1, none⟩ = some (.string Ho) := cell_later hB21 bg_1_18
      have lg_21 : V9.heap.size < V21.heap.size := World.block_lt_of_cell? _ _ bg_0_21
      have bx_0_21 : V21.cell? ⟨V10.heap.size, 0, none⟩ = some (.string x.Name) := cell_later hB21 bx_0_18
      have bx_1_21 : V21.cell? ⟨V10.heap.size, 1, none⟩ = some (.int .i64 x.Value) := cell_later hB21 bx_1_18
      have lx_21 : V10.heap.size < V21.heap.size := World.block_lt_of_cell? _ _ bx_0_21
      clear hk18 m_18 n_18 bd_0_18 bd_1_18 ld_18 bz_0_18 bz_1_18 lz_18 bw_0_18 bw_1_18 lw_18 bv_0_18 bv_1_18 lv_18 bh_0_18 bh_1_18 lh_18 bg_0_18 bg_1_18 lg_18 bx_0_18 bx_1_18 lx_18
      go_upto_if 266 with fail
      refine wp_below (fun V22 hb22 => ?_)
      have hB22 := bl_trans (a := V21) (bl_refl _) hb22
      have hk22 := bl_trans hk21 hB22
      have z22 := Lib.hid hB22.size
      have m_22 := m_21.below hB22
      have n_22 := n_21.below hB22
      have bd_0_22 : V22.cell? ⟨V1.heap.size, 0, none⟩ = some (.string d.Safe) := cell_later hB22 bd_0_21
      have bd_1_22 : V22.cell? ⟨V1.heap.size, 1, none⟩ = some (.string d.Open) := cell_later hB22 bd_1_21
      have ld_22 : V1.heap.size < V22.heap.size := World.block_lt_of_cell? _ _ bd_0_22
      have bz_0_22 : V22.cell? ⟨V1.heap.size + 1, 0, none⟩ = some (.string z.Name) := cell_later hB22 bz_0_21
      have bz_1_22 : V22.cell? ⟨V1.heap.size + 1, 1, none⟩ = some (.int .i64 z.Value) := cell_later hB22 bz_1_21
      have lz_22 : V1.heap.size + 1 < V22.heap.size := World.block_lt_of_cell? _ _ bz_0_22
      have bw_0_22 : V22.cell? ⟨V2.heap.size, 0, none⟩ = some (.string Ws) := cell_later hB22 bw_0_21
      have bw_1_22 : V22.cell? ⟨V2.heap.size, 1, none⟩ = some (.string Wo) := cell_later hB22 bw_1_21
      have lw_22 : V2.heap.size < V22.heap.size := World.block_lt_of_cell? _ _ bw_0_22
      have bv_0_22 : V22.cell? ⟨V3.heap.size, 0, none⟩ = some (.string Ws) := cell_later hB22 bv_0_21
      have bv_1_22 : V22.cell? ⟨V3.heap.size, 1, none⟩ = some (.string Wo) := cell_later hB22 bv_1_21
      have lv_22 : V3.heap.size < V22.heap.size := World.block_lt_of_cell? _ _ bv_0_22
      have bh_0_22 : V22.cell? ⟨V8.heap.size, 0, none⟩ = some (.string Hs) := cell_later hB22 bh_0_21
      have bh_1_22 : V22.cell? ⟨V8.heap.size, 1, none⟩ = some (.string Ho) := cell_later hB22 bh_1_21
      have lh_22 : V8.heap.size < V22.heap.size := World.block_lt_of_cell? _ _ bh_0_22
      have bg_0_22 : V22.cell? ⟨V9.heap.size, 0, none⟩ = some (.string Hs) := cell_later hB22 bg_0_21
      have bg_1_22 : V22.cell? ⟨V9.heap.size, 1, none⟩ = some (.string Ho) := cell_later hB22 bg_1_21
      have lg_22 : V9.heap.size < V22.heap.size := World.block_lt_of_cell? _ _ bg_0_22
      have bx_0_22 : V22.cell? ⟨V10.heap.size, 0, none⟩ = some (.string x.Name) := cell_later hB22 bx_0_21
      have bx_1_22 : V22.cell? ⟨V10.heap.size, 1, none⟩ = some (.int .i64 x.Value) := cell_later hB22 bx_1_21
      have lx_22 : V10.heap.size < V22.heap.size := World.block_lt_of_cell? _ _ bx_0_22
      clear hk21 m_21 n_21 bd_0_21 bd_1_21 ld_21 bz_0_21 bz_1_21 lz_21 bw_0_21 bw_1_21 lw_21 bv_0_21 bv_1_21 lv_21 bh_0_21 bh_1_21 lh_21 bg_0_21 bg_1_21 lg_21 bx_0_21 bx_1_21 lx_21
      go_cut [] (fun wx => Below V22.heap.size V22 wx)
      case first => as_aux_lemma =>
        cases fo
        · skip
          go_wp2_with fail
          go_meet
          exact (bl_refl _)
        · obtain ⟨hs1, hs2, hHo, hHz, hla, hsr, hha⟩ := Hhsf.out rfl
          have hE : Ho.toList.isEmpty = true := by rw [hHo]; exact empty_none
          have kp := Lib.hid (show ∀ (W : World) (_ : Env W), Calls Tryz.prog 9 #[.agg #[.string Hs, .string Ho]] W fun e w' => ∃ A c, e = .returned (.tuple #[.slice A Kw.length c, .bool true]) ∧ Own w' W.heap.size 26 (.slice A Kw.length c) Kw ∧ Below W.heap.size W w' from fun W he => by have h := implKnownStates_any ⟨Hs, Ho⟩ W hHz he; rw [hs2] at h; exact h)
          have kq := Lib.hid (show ∀ (W : World) (_ : Env W), Calls Tryz.prog 7 #[.agg #[.string Hs, .string Ho]] W fun e w' => ∃ A c, e = .returned (.tuple #[.slice A Kw.length c, .bool true]) ∧ Own w' W.heap.size 26 (.slice A Kw.length c) Kw ∧ Below W.heap.size W w' from fun W he => by have h := implWrittenStates_any ⟨Hs, Ho⟩ W hHz he; rw [hs1] at h; exact h)
          have Hhs1 := Lib.hid hs1
          clear hs1
          have Hhs2 := Lib.hid hs2
          clear hs2
          have HhHo := Lib.hid hHo
          clear hHo
          have Hhla := Lib.hid hla
          clear hla
          have Hhsr := Lib.hid hsr
          clear hsr
          have Hhha := Lib.hid hha
          clear hha
          clear hHz
          clear bd_0_22 bd_1_22 ld_22 bz_0_22 bz_1_22 lz_22 bw_0_22 bw_1_22 lw_22 bv_0_22 bv_1_22 lv_22 bx_0_22 bx_1_22 lx_22
          go_wp2_with fail
          refine (kp.out _ (he.below hk22)).mono ?_
          rintro e V23 ⟨A_p, c_p, rfl, ho_p, hb23⟩
          have hB23 := bl_trans (a := V22) (bl_refl _) hb23
          have hk23 := bl_trans hk22 hB23
          have z23 := Lib.hid hB23.size
          have m_23 := m_22.below hB23
          have n_23 := n_22.below hB23
          have bh_0_23 : V23.cell? ⟨V8.heap.size, 0, none⟩ = some (.string Hs) := cell_later hB23 bh_0_22
          have bh_1_23 : V23.cell? ⟨V8.heap.size, 1, none⟩ = some (.string Ho) := cell_later hB23 bh_1_22
          have lh_23 : V8.heap.size < V23.heap.size := World.block_lt_of_cell? _ _ bh_0_23
          have bg_0_23 : V23.cell? ⟨V9.heap.size, 0, none⟩ = some (.string Hs) := cell_later hB23 bg_0_22
          have bg_1_23 : V23.cell? ⟨V9.heap.size, 1, none⟩ = some (.string Ho) := cell_later hB23 bg_1_22
          have lg_23 : V9.heap.size < V23.heap.size := World.block_lt_of_cell? _ _ bg_0_23
          clear hk22 m_22 n_22 bh_0_22 bh_1_22 lh_22 bg_0_22 bg_1_22 lg_22
          go_wp2_with fail
          refine (kq.out _ (he.below hk23)).mono ?_
          rintro e V24 ⟨A_q, c_q, rfl, ho_q, hb24⟩
          have hB24 := bl_trans (a := V23) (bl_refl _) hb24
          have hk24 := bl_trans hk23 hB24
          have z24 := Lib.hid hB24.size
          have m_24 := m_23.below hB24
          have n_24 := n_23.below hB24
          have p_24 := ho_p.below hB24
          have bh_0_24 : V24.cell? ⟨V8.heap.size, 0, none⟩ = some (.string Hs) := cell_later hB24 bh_0_23
          have bh_1_24 : V24.cell? ⟨V8.heap.size, 1, none⟩ = some (.string Ho) := cell_later hB24 bh_1_23
          have lh_24 : V8.heap.size < V24.heap.size := World.block_lt_of_cell? _ _ bh_0_24
          have bg_0_24 : V24.cell? ⟨V9.heap.size, 0, none⟩ = some (.string Hs) := cell_later hB24 bg_0_23
          have bg_1_24 : V24.cell? ⟨V9.heap.size, 1, none⟩ = some (.string Ho) := cell_later hB24 bg_1_23
          have lg_24 : V9.heap.size < V24.heap.size := World.block_lt_of_cell? _ _ bg_0_24
          clear hk23 m_23 n_23 ho_p bh_0_23 bh_1_23 lh_23 bg_0_23 bg_1_23 lg_23
          go_wp2_with fail
          refine (qStates_same _ _ _ _ _ Kw _ (by omega) p_24.sl n_24.sl).mono ?_
          rintro e V25 ⟨rfl, hb25⟩
          have hB25 := bl_trans (a := V24) (bl_refl _) hb25
          have hk25 := bl_trans hk24 hB25
          have z25 := Lib.hid hB25.size
          have m_25 := m_24.below hB25
          have n_25 := n_24.below hB25
          have p_25 := p_24.below hB25
          have q_25 := ho_q.below hB25
          have bh_0_25 : V25.cell? ⟨V8.heap.size, 0, none⟩ = some (.string Hs) := cell_later hB25 bh_0_24
          have bh_1_25 : V25.cell? ⟨V8.heap.size, 1, none⟩ = some (.string Ho) := cell_later hB25 bh_1_24
          have lh_25 : V8.heap.size < V25.heap.size := World.block_lt_of_cell? _ _ bh_0_25
          have bg_0_25 : V25.cell? ⟨V9.heap.size, 0, none⟩ = some (.string Hs) := cell_later hB25 bg_0_24
          have bg_1_25 : V25.cell? ⟨V9.heap.size, 1, none⟩ = some (.string Ho) := cell_later hB25 bg_1_24
          have lg_25 : V9.heap.size < V25.heap.size := World.block_lt_of_cell? _ _ bg_0_25
          clear hk24 m_24 n_24 p_24 ho_q bh_0_24 bh_1_24 lh_24 bg_0_24 bg_1_24 lg_24
          go_wp2_with fail
          refine (qStates_same _ _ _ _ _ Kw _ (by omega) q_25.sl n_25.sl).mono ?_
          rintro e V26 ⟨rfl, hb26⟩
          have hB26 := bl_trans (a := V25) (bl_refl _) hb26
          have hk26 := bl_trans hk25 hB26
          have z26 := Lib.hid hB26.size
          have m_26 := m_25.below hB26
          have n_26 := n_25.below hB26
          have p_26 := p_25.below hB26
          have q_26 := q_25.below hB26
          have bh_0_26 : V26.cell? ⟨V8.heap.size, 0, none⟩ = some (.string Hs) := cell_later hB26 bh_0_25
          have bh_1_26 : V26.cell? ⟨V8.heap.size, 1, none⟩ = some (.string Ho) := cell_later hB26 bh_1_25
          have lh_26 : V8.heap.size < V26.heap.size := World.block_lt_of_cell? _ _ bh_0_26
          have bg_0_26 : V26.cell? ⟨V9.heap.size, 0, none⟩ = some (.string Hs) := cell_later hB26 bg_0_25
          have bg_1_26 : V26.cell? ⟨V9.heap.size, 1, none⟩ = some (.string Ho) := cell_later hB26 bg_1_25
          have lg_26 : V9.heap.size < V26.heap.size := World.block_lt_of_cell? _ _ bg_0_26
          clear hk25 m_25 n_25 p_25 q_25 bh_0_25 bh_1_25 lh_25 bg_0_25 bg_1_25 lg_25
          go_upto_region 29 with fail
          refine wp_below (fun V27 hb27 => ?_)
          have hB27 := bl_trans (a := V26) (bl_refl _) hb27
          have hk27 := bl_trans hk26 hB27
          have z27 := Lib.hid hB27.size
          have m_27 := m_26.below hB27
          have n_27 := n_26.below hB27
          have p_27 := p_26.below hB27
          have q_27 := q_26.below hB27
          have bh_0_27 : V27.cell? ⟨V8.heap.size, 0, none⟩ = some (.string Hs) := cell_later hB27 bh_0_26
          have bh_1_27 : V27.cell? ⟨V8.heap.size, 1, none⟩ = some (.string Ho) := cell_later hB27 bh_1_26
          have lh_27 : V8.heap.size < V27.heap.size := World.block_lt_of_cell? _ _ bh_0_27
          have bg_0_27 : V27.cell? ⟨V9.heap.size, 0, none⟩ = some (.string Hs) := cell_later hB27 bg_0_26
          have bg_1_27 : V27.cell? ⟨V9.heap.size, 1, none⟩ = some (.string Ho) := cell_later hB27 bg_1_26
          have lg_27 : V9.heap.size < V27.heap.size := World.block_lt_of_cell? _ _ bg_0_27
          clear hk26 m_26 n_26 p_26 q_26 bh_0_26 bh_1_26 lh_26 bg_0_26 bg_1_26 lg_26
          clear bh_0_27 bh_1_27 lh_27 bg_0_27 bg_1_27 lg_27 p_27 q_27
          have HN := Lib.hid n_27.sl
          have HM := Lib.hid m_27.sl
          clear n_27 m_27
          have hRel := (bl_trans (bl_trans (bl_trans (bl_trans hB23 hB24) hB25) hB26) hB27)
          clear hB1 hB2 hB3 hB4 hB5 hB6 hB7 hB8 hB9 hB10 hB11 hB12 hB13 hB14 hB15 hB16 hB17 hB18 hB21 hB22 hB23 hB24 hB25 hB26 hB27
          go_wp2
          go_loopw [302] (fun iv wr => ∃ i : Nat, i ≤ Kw.length ∧ iv = .int .i64 i ∧ Below V27.heap.size V27 wr) (fun iv _ => Kw.length - (intOf iv).toNat)
          case atStart => exact ⟨0, Nat.zero_le _, rfl, bl_refl _⟩
          case round =>
            obtain ⟨i, hi, rfl, hbr⟩ := hrel
            by_cases hlt : i < Kw.length
            · obtain ⟨bn, on, rfl, hbn, c0, c1⟩ := (HN.out.below hbr).state hlt
              obtain ⟨y, hy⟩ : ∃ y, y = nth Kw i := ⟨_, rfl⟩
              rw [← hy] at c0 c1
              have hlast : lastS Sw y = y := Hhla.out y (by rw [hy]; exact nth_mem hlt)
              have Hlast := Lib.hid hlast
              have Hy := Lib.hid hy
              clear hlast hy
              have hi1 : (i : Int) < Kw.length := by omega
              obtain ⟨wo, hwo⟩ : ∃ W, W = wr := ⟨_, rfl⟩
              subst hwo
              go_upto_region 33 with fail
              refine wp_below (fun X hX => ?_)
              have y0 : X.cell? ⟨wo.heap.size, 0, none⟩ = some (.string y.Name) := cell_later hX (by go_simp)
              have y1 : X.cell? ⟨wo.heap.size, 1, none⟩ = some (.int .i64 y.Value) := cell_later hX (by go_simp)
              have t0 : X.cell? ⟨wo.heap.size + 1, 0, none⟩ = some (.string y.Name) := cell_later hX (by go_simp)
              have t1 : X.cell? ⟨wo.heap.size + 1, 1, none⟩ = some (.int .i64 y.Value) := cell_later hX (by go_simp)
              have g0 : X.frozen? ⟨wo.heap.size + 1, 0, none⟩ = false := frozen_later hX (by simp) (by go_simp)
              have g1 : X.frozen? ⟨wo.heap.size + 1, 1, none⟩ = false := frozen_later hX (by simp) (by go_simp)
              have hbX : Below wo.heap.size wo X := bl_trans (bl_alloc (bl_alloc (bl_refl _) _) _) hX
              clear hX c0 c1
              go_wp2
              go_loopw [310] (fun jv wr => ∃ (j : Nat) (t : State), j ≤ Sw.length ∧ jv = .int .i64 j ∧ Below wo.heap.size wo wr ∧ Hid (t = lastS (Sw.take j) y) ∧ wr.cell? ⟨wo.heap.size, 0, none⟩ = some (.string y.Name) ∧ wr.cell? ⟨wo.heap.size, 1, none⟩ = some (.int .i64 y.Value) ∧ wr.cell? ⟨wo.heap.size + 1, 0, none⟩ = some (.string t.Name) ∧ wr.cell? ⟨wo.heap.size + 1, 1, none⟩ = some (.int .i64 t.Value) ∧ wr.frozen? ⟨wo.heap.size + 1, 0, none⟩ = false ∧ wr.frozen? ⟨wo.heap.size + 1, 1, none⟩ = false) (fun jv _ => Sw.length - (intOf jv).toNat)
              case atStart => exact ⟨0, y, Nat.zero_le _, rfl, hbX, rfl, y0, y1, t0, t1, g0, g1⟩
              case round =>
                clear y0 y1 t0 t1 g0 g1 hbX
                obtain ⟨j, t, hj, rfl, hbq, ht, y0, y1, t0, t1, g0, g1⟩ := hrel
                have ly : wo.heap.size < wr.heap.size := World.block_lt_of_cell? _ _ y0
                have lt : wo.heap.size + 1 < wr.heap.size := World.block_lt_of_cell? _ _ t0
                by_cases hlj : j < Sw.length
                · obtain ⟨bm, om, rfl, hbm, m0, m1⟩ := (HM.out.below (bl_trans hbr hbq)).state hlj
                  obtain ⟨s, hs⟩ : ∃ s, s = nth Sw j := ⟨_, rfl⟩
                  rw [← hs] at m0 m1
                  have hj1 : (j : Int) < Sw.length := by omega
                  have hnx : lastS (Sw.take (j + 1)) y = if sameN s y then s else lastS (Sw.take j) y := by rw [take_succ hlj, lastS_snoc, ← hs]
                  have Hnx := Lib.hid hnx
                  clear hnx hs
                  cases hsm : sameN s y
                  · have hsm' : (s.Name.toList == y.Name.toList) = false := hsm
                    have Hsm := Lib.hid hsm
                    clear hsm
                    go_wp2
                    go_roundw
                    case rel => exact ⟨j + 1, t, by omega, by go_num, bl_trans hbq (by repeat' (first | exact bl_refl _ | refine bl_alloc ?_ _)), by rw [Hid, Hnx.out, Hsm.out, ht.out]; rfl, by go_simp, by go_simp, by go_simp, by go_simp, by go_simp, by go_simp⟩
                    case measure => simp [intOf]; omega
                  · have hsm' : (s.Name.toList == y.Name.toList) = true := hsm
                    have Hsm := Lib.hid hsm
                    clear hsm
                    have ne1 : ¬ (wr.heap.size = wo.heap.size + 1) := by omega
                    have ne2 : ¬ (wo.heap.size + 1 = wr.heap.size) := by omega
                    have ne3 : ¬ (wo.heap.size = wr.heap.size) := by omega
                    have ne4 : ¬ (wr.heap.size = wo.heap.size) := by omega
                    go_wp2
                    go_roundw
                    case rel => exact ⟨j + 1, s, by omega, by go_num, by repeat' (first | exact hbq | refine bl_alloc ?_ _ | refine bl_set ?_ (by simp only []; omega) _), by rw [Hid, Hnx.out, Hsm.out]; rfl, by go_simp, by go_simp, by go_simp, by go_simp, by go_simp, by go_simp⟩
                    case measure => simp [intOf]; omega
                · have hje : j = Sw.length := by omega
                  have hty : t = y := by rw [ht.out, hje, List.take_length]; exact Hlast.out
                  clear ht
                  subst hty
                  subst hje
                  have hnj : ¬ ((Sw.length : Int) < Sw.length) := by omega
                  have hbq' := bl_trans hbr hbq
                  by_cases hip : i < 1
                  · have hdi : decide (0 < i) = false := decide_eq_false (by omega)
                    have hdj : ¬ ((0 : Int) < i) := by omega
                    clear hip hlj
                    go_upto_region 39 with fail
                    refine wp_region_grow (by kernel_rfl) (by kernel_rfl) (fun X hX => ?_)
                    have hbX : Below wr.heap.size wr X := by rw [hX]; exact bl_refl _
                    have qq0 : ∀ g : Gw X, g.val.cell? ⟨wo.heap.size, 0, none⟩ = some (.string t.Name) := Gw.cell (by rw [hX]; exact y0)
                    have qq1 : ∀ g : Gw X, g.val.cell? ⟨wo.heap.size, 1, none⟩ = some (.int .i64 t.Value) := Gw.cell (by rw [hX]; exact y1)
                    have qq2 : ∀ g : Gw X, g.val.cell? ⟨wo.heap.size + 1, 0, none⟩ = some (.string t.Name) := Gw.cell (by rw [hX]; exact t0)
                    have qq3 : ∀ g : Gw X, g.val.cell? ⟨wo.heap.size + 1, 1, none⟩ = some (.int .i64 t.Value) := Gw.cell (by rw [hX]; exact t1)
                    have HX := Lib.hid hX
                    clear hX
                    repeat (go_big_quiet_step (fail))
                    refine wpGrow_nil (fun VV hV => ?_)
                    have hbq1 := bl_trans hbX hV
                    clear hV hbX HX qq0 qq1 qq2 qq3
                    have hb6 := bl_trans hbq' hbq1
                    go_wp2
                    go_roundw
                    case rel => exact ⟨i + 1, by omega, by go_num, hb6⟩
                    case measure => simp [intOf]; omega
                  · obtain ⟨q, hq⟩ : ∃ q, i = q + 1 := ⟨i - 1, by omega⟩
                    have hql : q < Kw.length := by omega
                    have hw1 : IntKind.i64.wrap ((i : Int) - 1) = (q : Int) := by rw [IntWalk.i64_in _ (by omega)]; omega
                    have hdi : decide (0 < i) = true := decide_eq_true (by omega)
                    have hdj : (0 : Int) < i := by omega
                    have hqd : (q : Int) < Kw.length := by omega
                    clear hlj
                    obtain ⟨bx, ox, hxa, hbx, k0, k1⟩ := (HN.out.below hbq').state hql
                    injection hxa with hxa
                    injection hxa with hx1 hx2 hx3
                    subst hx1 hx2
                    have hls : stLess (nth Kw q) t = true := by rw [Hy.out]; exact srt_at Hhsr.out (by omega : q < i) hlt
                    obtain ⟨r, hr⟩ : ∃ r, r = nth Kw q := ⟨_, rfl⟩
                    rw [← hr] at k0 k1 hls
                    have hls' : Op.bytesLess r.Name.toList t.Name.toList = true := hls
                    clear hls hr hq
                    go_upto_region 39 with fail
                    refine wp_region_grow (by kernel_rfl) (by kernel_rfl) (fun X hX => ?_)
                    have hbX : Below wr.heap.size wr X := by rw [hX]; exact bl_refl _
                    have qq0 : ∀ g : Gw X, g.val.cell? ⟨wo.heap.size, 0, none⟩ = some (.string t.Name) := Gw.cell (by rw [hX]; exact y0)
                    have qq1 : ∀ g : Gw X, g.val.cell? ⟨wo.heap.size, 1, none⟩ = some (.int .i64 t.Value) := Gw.cell (by rw [hX]; exact y1)
                    have qq2 : ∀ g : Gw X, g.val.cell? ⟨wo.heap.size + 1, 0, none⟩ = some (.string t.Name) := Gw.cell (by rw [hX]; exact t0)
                    have qq3 : ∀ g : Gw X, g.val.cell? ⟨wo.heap.size + 1, 1, none⟩ = some (.int .i64 t.Value) := Gw.cell (by rw [hX]; exact t1)
                    have qq4 : ∀ g : Gw X, g.val.cell? ⟨bn, on + q * 2, none⟩ = some (.string r.Name) := Gw.cell (by rw [hX]; exact k0)
                    have qq5 : ∀ g : Gw X, g.val.cell? ⟨bn, on + q * 2 + 1, none⟩ = some (.int .i64 r.Value) := Gw.cell (by rw [hX]; exact k1)
                    have HX := Lib.hid hX
                    clear hX
                    repeat (go_big_quiet_step (fail))
                    refine wpGrow_nil (fun VV hV => ?_)
                    have hbq1 := bl_trans hbX hV
                    clear hV hbX HX qq0 qq1 qq2 qq3 qq4 qq5
                    have hb6 := bl_trans hbq' hbq1
                    go_wp2
                    go_roundw
                    case rel => exact ⟨i + 1, by omega, by go_num, hb6⟩
                    case measure => simp [intOf]; omega
            · have hni : ¬ ((i : Int) < Kw.length) := by omega
              have hRel2 := bl_trans hRel hbr
              have HN := Lib.hid (HN.out.below hbr)
              have HM := Lib.hid (HM.out.below hbr)
              clear hbr hRel
              obtain ⟨wa, hwa⟩ : ∃ W, W = wr := ⟨_, rfl⟩
              subst hwa
              go_wp2
              go_loopw [342] (fun iv wr => ∃ i : Nat, i ≤ Sw.length ∧ iv = .int .i64 i ∧ Below wa.heap.size wa wr) (fun iv _ => Sw.length - (intOf iv).toNat)
              case atStart => exact ⟨0, Nat.zero_le _, rfl, bl_refl _⟩
              case round =>
                obtain ⟨i, hi, rfl, hbr⟩ := hrel
                by_cases hlt : i < Sw.length
                · obtain ⟨bn, on, rfl, hbn, c0, c1⟩ := (HM.out.below hbr).state hlt
                  obtain ⟨y, hy⟩ : ∃ y, y = nth Sw i := ⟨_, rfl⟩
                  rw [← hy] at c0 c1
                  have hfound : Kw.any (fun x => sameN x y) = true := by obtain ⟨x, h1, h2⟩ := Hhha.out y (by rw [hy]; exact nth_mem hlt); exact List.any_eq_true.2 ⟨x, h1, sameN_iff.2 h2⟩
                  have Hfound := Lib.hid hfound
                  clear hfound hy
                  have hi1 : (i : Int) < Sw.length := by omega
                  obtain ⟨wo, hwo⟩ : ∃ W, W = wr := ⟨_, rfl⟩
                  subst hwo
                  go_upto_region 46 with fail
                  refine wp_below (fun X hX => ?_)
                  have y0 : X.cell? ⟨wo.heap.size, 0, none⟩ = some (.string y.Name) := cell_later hX (by go_simp)
                  have y1 : X.cell? ⟨wo.heap.size, 1, none⟩ = some (.int .i64 y.Value) := cell_later hX (by go_simp)
                  have hbX : Below wo.heap.size wo X := bl_trans (bl_alloc (bl_refl _) _) hX
                  clear hX c0 c1
                  go_wp2
                  go_loopw [49, 348] (fun fv jv wr => ∃ j : Nat, j ≤ Kw.length ∧ fv = .bool ((Kw.take j).any (fun x => sameN x y)) ∧ jv = .int .i64 j ∧ Below wo.heap.size wo wr ∧ wr.cell? ⟨wo.heap.size, 0, none⟩ = some (.string y.Name) ∧ wr.cell? ⟨wo.heap.size, 1, none⟩ = some (.int .i64 y.Value)) (fun _ jv _ => Kw.length - (intOf jv).toNat)
                  case atStart => exact ⟨0, Nat.zero_le _, rfl, rfl, hbX, y0, y1⟩
                  case round =>
                    clear y0 y1 hbX
                    obtain ⟨j, hj, rfl, rfl, hbq, y0, y1⟩ := hrel
                    by_cases hlj : j < Kw.length
                    · obtain ⟨bm, om, rfl, hbm, m0, m1⟩ := (HN.out.below (bl_trans hbr hbq)).state hlj
                      obtain ⟨s, hs⟩ : ∃ s, s = nth Kw j := ⟨_, rfl⟩
                      rw [← hs] at m0 m1
                      have hj1 : (j : Int) < Kw.length := by omega
                      have ly : wo.heap.size < wr.heap.size := World.block_lt_of_cell? _ _ y0
                      have hnx : (Kw.take (j + 1)).any (fun x => sameN x y) = ((Kw.take j).any (fun x => sameN x y) || sameN s y) := by rw [take_succ hlj, List.any_append, ← hs]; simp
                      have Hnx := Lib.hid hnx
                      clear hnx hs
                      cases hfd : (Kw.take j).any (fun x => sameN x y)
                      · cases hsm : sameN s y
                        · have hsm' : (s.Name.toList == y.Name.toList) = false := hsm
                          have Hsm := Lib.hid hsm
                          have Hfd := Lib.hid hfd
                          clear hsm hfd
                          go_wp2
                          go_roundw
                          case rel => exact ⟨j + 1, by omega, by rw [Hnx.out, Hfd.out, Hsm.out]; rfl, by go_num, bl_trans hbq (by repeat' (first | exact bl_refl _ | refine bl_alloc ?_ _)), by go_simp, by go_simp⟩
                          case measure => simp [intOf]; omega
                        · have hsm' : (s.Name.toList == y.Name.toList) = true := hsm
                          have Hsm := Lib.hid hsm
                          have Hfd := Lib.hid hfd
                          clear hsm hfd
                          go_wp2
                          go_roundw
                          case rel => exact ⟨j + 1, by omega, by rw [Hnx.out, Hfd.out, Hsm.out]; rfl, by go_num, bl_trans hbq (by repeat' (first | exact bl_refl _ | refine bl_alloc ?_ _)), by go_simp, by go_simp⟩
                          case measure => simp [intOf]; omega
                      · have Hfd := Lib.hid hfd
                        clear hfd
                        go_wp2
                        go_roundw
                        case rel => exact ⟨j + 1, by omega, by rw [Hnx.out, Hfd.out]; rfl, by go_num, bl_trans hbq (by repeat' (first | exact bl_refl _ | refine bl_alloc ?_ _)), by go_simp, by go_simp⟩
                        case measure => simp [intOf]; omega
                    · have hje : j = Kw.length := by omega
                      have hfd : (Kw.take j).any (fun x => sameN x y) = true := by rw [hje, List.take_length]; exact Hfound.out
                      rw [hfd]
                      have Hfd := Lib.hid hfd
                      clear hfd
                      subst hje
                      clear hlj
                      have hnj : ¬ ((Kw.length : Int) < Kw.length) := by omega
                      have hb6 := bl_trans hbr hbq
                      go_wp2
                      go_roundw
                      case rel => exact ⟨i + 1, by omega, by go_num, hb6⟩
                      case measure => simp [intOf]; omega
                · have hni : ¬ ((i : Int) < Sw.length) := by omega
                  have hb7 := bl_trans hRel2 hbr
                  go_wp2_with fail
                  go_meet
                  exact hb7
      case rest => as_aux_lemma =>
        obtain ⟨V28, hVV⟩ : ∃ V, V = wc := ⟨_, rfl⟩
        have hb28 := hcut
        clear hcut
        subst hVV
        have hB28 := bl_trans (a := V22) (bl_refl _) hb28
        have hk28 := bl_trans hk22 hB28
        have z28 := Lib.hid hB28.size
        have m_28 := m_22.below hB28
        have n_28 := n_22.below hB28
        have bd_0_28 : V28.cell? ⟨V1.heap.size, 0, none⟩ = some (.string d.Safe) := cell_later hB28 bd_0_22
        have bd_1_28 : V28.cell? ⟨V1.heap.size, 1, none⟩ = some (.string d.Open) := cell_later hB28 bd_1_22
        have ld_28 : V1.heap.size < V28.heap.size := World.block_lt_of_cell? _ _ bd_0_28
        have bz_0_28 : V28.cell? ⟨V1.heap.size + 1, 0, none⟩ = some (.string z.Name) := cell_later hB28 bz_0_22
        have bz_1_28 : V28.cell? ⟨V1.heap.size + 1, 1, none⟩ = some (.int .i64 z.Value) := cell_later hB28 bz_1_22
        have lz_28 : V1.heap.size + 1 < V28.heap.size := World.block_lt_of_cell? _ _ bz_0_28
        have bw_0_28 : V28.cell? ⟨V2.heap.size, 0, none⟩ = some (.string Ws) := cell_later hB28 bw_0_22
        have bw_1_28 : V28.cell? ⟨V2.heap.size, 1, none⟩ = some (.string Wo) := cell_later hB28 bw_1_22
        have lw_28 : V2.heap.size < V28.heap.size := World.block_lt_of_cell? _ _ bw_0_28
        have bv_0_28 : V28.cell? ⟨V3.heap.size, 0, none⟩ = some (.string Ws) := cell_later hB28 bv_0_22
        have bv_1_28 : V28.cell? ⟨V3.heap.size, 1, none⟩ = some (.string Wo) := cell_later hB28 bv_1_22
        have lv_28 : V3.heap.size < V28.heap.size := World.block_lt_of_cell? _ _ bv_0_28
        have bh_0_28 : V28.cell? ⟨V8.heap.size, 0, none⟩ = some (.string Hs) := cell_later hB28 bh_0_22
        have bh_1_28 : V28.cell? ⟨V8.heap.size, 1, none⟩ = some (.string Ho) := cell_later hB28 bh_1_22
        have lh_28 : V8.heap.size < V28.heap.size := World.block_lt_of_cell? _ _ bh_0_28
        have bg_0_28 : V28.cell? ⟨V9.heap.size, 0, none⟩ = some (.string Hs) := cell_later hB28 bg_0_22
        have bg_1_28 : V28.cell? ⟨V9.heap.size, 1, none⟩ = some (.string Ho) := cell_later hB28 bg_1_22
        have lg_28 : V9.heap.size < V28.heap.size := World.block_lt_of_cell? _ _ bg_0_28
        have bx_0_28 : V28.cell? ⟨V10.heap.size, 0, none⟩ = some (.string x.Name) := cell_later hB28 bx_0_22
        have bx_1_28 : V28.cell? ⟨V10.heap.size, 1, none⟩ = some (.int .i64 x.Value) := cell_later hB28 bx_1_22
        have lx_28 : V10.heap.size < V28.heap.size := World.block_lt_of_cell? _ _ bx_0_28
        clear hk22 m_22 n_22 bd_0_22 bd_1_22 ld_22 bz_0_22 bz_1_22 lz_22 bw_0_22 bw_1_22 lw_22 bv_0_22 bv_1_22 lv_22 bh_0_22 bh_1_22 lh_22 bg_0_22 bg_1_22 lg_22 bx_0_22 bx_1_22 lx_22
        clear bd_0_28 bd_1_28 ld_28 bz_0_28 bz_1_28 lz_28 bw_0_28 bw_1_28 lw_28 bv_0_28 bv_1_28 lv_28 bh_0_28 bh_1_28 lh_28 bg_0_28 bg_1_28 lg_28 m_28 n_28
        cases sv
        · skip
          go_wp2
          go_ret
          exact ⟨rfl, hk28⟩
        · obtain ⟨hl1, hl2⟩ := Hhlf.out rfl
          have kB := Lib.hid (show ∀ (W : World) (_ : Env W), Calls Tryz.prog 17 #[.string Tl] W fun e w' => e = .returned (.tuple #[.int .i64 nn, .agg #[.string x.Name, .int .i64 x.Value], .bool true]) ∧ Below W.heap.size W w' from fun W he => by have h := implParseStateLine_any Tl W (by omega) he; rw [hl1] at h; exact h)
          have Hhl1 := Lib.hid hl1
          clear hl1
          have Hhl2 := Lib.hid hl2
          clear hl2
          go_wp2_with fail
          refine (kB.out _ (he.below hk28)).mono ?_
          rintro e V29 ⟨rfl, hb29⟩
          have hB29 := bl_trans (a := V28) (bl_refl _) hb29
          have hk29 := bl_trans hk28 hB29
          have z29 := Lib.hid hB29.size
          have bx_0_29 : V29.cell? ⟨V10.heap.size, 0, none⟩ = some (.string x.Name) := cell_later hB29 bx_0_28
          have bx_1_29 : V29.cell? ⟨V10.heap.size, 1, none⟩ = some (.int .i64 x.Value) := cell_later hB29 bx_1_28
          have lx_29 : V10.heap.size < V29.heap.size := World.block_lt_of_cell? _ _ bx_0_29
          clear hk28 bx_0_28 bx_1_28 lx_28
          go_wp2
          go_ret
          exact ⟨rfl, (bl_trans hk29 (by repeat' (first | exact bl_refl _ | refine bl_alloc ?_ _ | refine bl_drew ?_ | refine bl_drewN ?_ _ | refine bl_set ?_ ?_ _ | (simp; done) | (simp; omega))))⟩
instance : Ok Byt := ⟨fun x => 0 ≤ x.v ∧ x.v ≤ 255⟩
theorem opens_u8 {P : Program} {t : TypeId} (ht : P.underlying t = some (.int .u8)) : Opens P t Byt := fun h => by
  obtain ⟨n, rfl, _, hw⟩ := DataW.trod_int ht h
  exact ⟨⟨n⟩, rfl, by simpa [Ok.ok, Lit.wf, IntKind.min, IntKind.max, IntKind.signed, IntKind.bits] using hw⟩

open Go.WideShapes Go.ChangeShapes Go.ChangeAt
theorem own_ : ownKnob Tryz.prog.godebug = none := by kernel_rfl
theorem laid_ : laidOutB Tryz.prog = true := by kernel_rfl
theorem of_change_and_shaped {H : Type} {enc : TypeId × Value → H} {a : Assume} {C : Checked} {os : Os} {f : FuncId} {fn : Func} {s : ChangeSpec} {conds : List PathCond} {apart fresh handsOn again : Bool} {X : World → Array Value → Prop}
    (hX : ∀ (w w' : World) (args : Array Value), w.heap = w'.heap → X w args → X w' args)
    (own : ownKnob C.prog.godebug = none) (started : os.Started) (noInit : C.prog.inits.idxOf? f = none) (hfn : C.prog.funcs[f]? = some fn)
    (witness : ∃ (w : World) (tape : Tape) (i : Input), w.os = os ∧ (w.forCall tape i).Shaped C.prog ∧ i.vars = [] ∧ Input.okWide C.prog (w.forCall tape i) .any w.heap.size f i ∧
      ((s.pre enc C.prog fn conds apart (w.forCall tape i).memory i.args ∧ X (w.forCall tape i).memory i.args) ∧ sizedMet enc C.prog fn (OpenSpec.ofChange s) apart (w.forCall tape i).memory i.args) ∧ a.holds C.prog (lone (Frame.enter C.prog f i.args .normal) [] (w.forCall tape i)))
    (contract : ∀ (W : World) (base : Nat) (args : Array Value) (ds gs : List (DataW H)) (before : List MemPlace),
      (∀ (j : Nat) t v, fn.params[j]? = some t → args[j]? = some v → Value.okWide C.prog W .any base t v) →
      DataW.Whole enc C.prog fn.params.toList s.vars apart W args.toList ds gs before → X W args → W.ShapedOpen C.prog →
      Calls C.prog f args W fun e W' => ∃ v, e = .returned v ∧ s.post enc C.prog fn apart fresh handsOn again W args v W') :
    ReturnsInHanded a C os f .any (fun w args => (s.pre enc C.prog fn conds apart w args ∧ X w args) ∧ sizedMet enc C.prog fn (OpenSpec.ofChange s) apart w args) (s.post enc C.prog fn apart fresh handsOn again) := by
  refine returnsInHanded_of_calls own started noInit witness ?_
  intro w tape i _ hsh _ hok hpre hholds
  obtain ⟨_, _, _, fn', hfn', _, _, _, _, hval⟩ := hok
  have e : fn' = fn := Option.some.inj (hfn'.symm.trans hfn)
  subst e
  obtain ⟨⟨⟨ds, gs, before, hw, _⟩, hx⟩, _⟩ := hpre
  have hw' := DataW.Whole.of_heap (w' := w.forCall tape i) (by rfl) hw
  refine (contract (w.forCall tape i) w.heap.size i.args ds gs before hval hw' (hX _ _ _ (by rfl) hx) hsh).mono fun e W' ⟨v, he, hp⟩ => ?_
  subst he
  exact ChangeSpec.post_blind hp
set_option maxRecDepth 100000 in
theorem contract_ (H : Type) (enc : TypeId × Value → H) (W : World) (base : Nat) (args : Array Value) (ds gs : List (DataW H)) (before : List MemPlace)
    (hval : ∀ (j : Nat) t v, Tryz.f3.params[j]? = some t → args[j]? = some v → Value.okWide Tryz.prog W .any base t v)
    (hW : DataW.Whole enc Tryz.prog Tryz.f3.params.toList Rows.fnDiariesSpec.vars false W args.toList ds gs before) (hL : laidMetH Tryz.prog Rows.fnDiariesRow.laid W) (hS : W.ShapedOpen Tryz.prog) :
    Calls Tryz.prog 3 args W fun e W' => ∃ v, e = .returned v ∧ Rows.fnDiariesSpec.post enc Tryz.prog Tryz.f3 false true false false W args v W' := by
  have hW' := hW
  obtain ⟨p, q, hA0, hV, rfl, hfz, hnd⟩ := hW
  have hA : DataW.TrodAll enc Tryz.prog W 0 (fun _ => true) true Tryz.f3.params.toList args.toList ds p := hA0
  rw [Tryz.params3] at hA hval
  obtain ⟨v0, vs0, d0, ds0, p0, q0, hargs, rfl, rfl, h0, r0⟩ := trodAll_cons hA
  obtain ⟨v1, vs1, d1, ds1, p1, q1, rfl, rfl, rfl, h1, r1⟩ := trodAll_cons r0
  obtain ⟨rfl, rfl, rfl⟩ := trodAll_nil r1
  obtain rfl : args = #[v0, v1] := by cases args; simp_all
  obtain ⟨rfl, rfl⟩ := trodVars_none hV
  obtain ⟨A0, n0, c0, rfl⟩ := okWide_slice Tryz.underlying22 (hval 0 _ v0 rfl rfl)
  obtain ⟨fuel0, h0⟩ := h0
  obtain ⟨x0, ⟨A0', c0', e0, hs0, hm0⟩, ho0⟩ := opens_slice Tryz.underlying22 (by kernel_rfl) ((opens_u8 Tryz.underlying5)) h0
  obtain ⟨rfl, rfl, rfl⟩ : A0 = A0' ∧ n0 = x0.length ∧ c0 = c0' := by simpa [Value.cells] using e0
  have hm0 : (x0.length : Int) ≤ 9223372036854775807 := by unfold maxLen at hm0; omega
  obtain ⟨A1, n1, c1, rfl⟩ := okWide_slice Tryz.underlying22 (hval 1 _ v1 rfl rfl)
  obtain ⟨fuel1, h1⟩ := h1
  obtain ⟨x1, ⟨A1', c1', e1, hs1, hm1⟩, ho1⟩ := opens_slice Tryz.underlying22 (by kernel_rfl) ((opens_u8 Tryz.underlying5)) h1
  obtain ⟨rfl, rfl, rfl⟩ : A1 = A1' ∧ n1 = x1.length ∧ c1 = c1' := by simpa [Value.cells] using e1
  have hm1 : (x1.length : Int) ≤ 9223372036854775807 := by unfold maxLen at hm1; omega
  refine (walk A0 _ c0 x0 A1 _ c1 x1 W (env_of hL hS) ⟨hs0, hm0, ho0⟩ ⟨hs1, hm1, ho1⟩).mono fun e W' ⟨he, hb⟩ => ?_
  exact ⟨_, he, post_law laid_ Tryz.underlying4 rfl rfl (by kernel_rfl) ⟨rfl, rfl, rfl⟩ hW' hb⟩

set_option maxRecDepth 100000 in
theorem lifted_ (os : Os) (started : os.Started) (H : Type) (enc : TypeId × Value → H) :
    ReturnsInHanded {} Tryz.checked os 3 .any (fun w args => (Rows.fnDiariesSpec.pre enc Tryz.prog Tryz.f3 [] false w args ∧ laidMetH Tryz.prog Rows.fnDiariesRow.laid w) ∧ sizedMet enc Tryz.prog Tryz.f3 (OpenSpec.ofChange Rows.fnDiariesSpec) false w args) (Rows.fnDiariesSpec.post enc Tryz.prog Tryz.f3 false true false false) := by
  refine of_change_and_shaped (C := Tryz.checked) (X := fun w _ => laidMetH Tryz.prog Rows.fnDiariesRow.laid w) (fun _ _ _ hh h => h.of_heap hh) own_ started (by kernel_rfl) Tryz.func3
    (ChangeSpec.witness_shaped (enc := enc) (C := Tryz.checked) (os := os) (X := fun w _ => laidMetH Tryz.prog Rows.fnDiariesRow.laid w) false (World.laidAll Tryz.prog os Rows.fnDiariesRow.laid) #[.slice none 0 0, .slice none 0 0] 8 (World.laidAll_os _ _ _)
      (World.shaped_of_ZipB (by kernel_rfl) (by kernel_rfl)) (by kernel_rfl) (by kernel_rfl) (by kernel_rfl)
      (by rw [MakeChecks.laidMetH_plain _ _ _ (by kernel_rfl)]; exact laidMet_laidAll _ (by kernel_rfl) (by kernel_rfl))) ?_
  intro W base args ds gs before hval0 hW hL hS
  exact contract_ H enc W base args ds gs before hval0 hW hL hS

theorem said : Rows.FnDiariesSaid :=
  OpenClaim.holds_of_wide 3 Tryz.f3 rfl rfl rfl rfl rfl rfl rfl ⟨rfl, rfl, rfl, rfl, rfl⟩ rfl rfl rfl rfl rfl (by kernel_rfl) Tryz.func3 (by kernel_rfl)
    (of_decide_eq_true (by kernel_rfl)) (by unfold Func.isWrapper; first | (rw [if_pos (by decide +kernel)]; kernel_rfl) | (rw [if_neg (by decide +kernel)]; exact ⟨rfl, rfl⟩))
    (fun os started H enc _ => lifted_ os started H enc)
/-- No parameter wants a stand-in. -/
theorem plain (f : FuncId) (fn : Func) (hf : Tryz.pinned.checked.prog.funcNamed "loop.example/g01020/laws.FnDiaries" = some f) (hfn : Tryz.pinned.checked.prog.funcs[f]? = some fn) :
    true = Tryz.pinned.checked.prog.looks [] ∧ ∀ (j : Nat) t, fn.params[j]? = some t → Tryz.pinned.checked.prog.wantsStandIn t = false := by
  obtain rfl : f = 3 := Option.some.inj ((show Tryz.prog.funcNamed "loop.example/g01020/laws.FnDiaries" = some 3 by kernel_rfl).symm.trans hf) |>.symm
  obtain rfl : fn = Tryz.f3 := (Option.some.inj (Tryz.func3.symm.trans hfn)).symm
  refine ⟨by kernel_rfl, fun j t ht => ?_⟩
  have hall : (Tryz.f3.params.toList.all fun u => !Tryz.prog.wantsStandIn u) = true := by kernel_rfl
  have hm : t ∈ Tryz.f3.params.toList := by simpa using Array.mem_of_getElem? ht
  exact (show Tryz.prog.wantsStandIn t = false by simpa using List.all_eq_true.1 hall t hm)
theorem proved : Rows.FnDiariesCardSaid :=
  Claim7.holds_tied_plain_at .later [] _ _ _ _ said (fun _ h => by cases h) (by kernel_rfl) (fun _ h => by cases h) fnDiaries_row_tie rfl ⟨rfl, rfl⟩ (by kernel_rfl) rfl plain (by kernel_rfl)

end Go.Proofs.YtenlbeghjabpkaaGreatDoor.lawDiaries
