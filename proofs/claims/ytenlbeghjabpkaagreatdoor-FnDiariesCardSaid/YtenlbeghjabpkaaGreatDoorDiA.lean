/-
  Several texts in one. No conditions.
-/
import Derived.Test.YtenlbeghjabpkaaGreatDoorCurT
import Derived.Test.YtenlbeghjabpkaaGreatDoorCurS
import Derived.Test.YtenlbeghjabpkaaGreatDoorJnWs
import Derived.Deep.RegionHeld3
import Derived.Deep.CutRange
import Derived.Test.YtenlbeghjabpkaaGreatDoorMem3
import Derived.Test.YtenlbeghjabpkaaGreatDoorDiary
import Derived.Test.YtenlbeghjabpkaaGreatDoorJnC
import Derived.Test.YtenlbeghjabpkaaGreatDoorState
import Derived.Test.YtenlbeghjabpkaaGreatDoorMem7
import Derived.Deep.Cut
import Derived.Test.YtenlbeghjabpkaaGreatDoorStateA0
import Derived.Test.YtenlbeghjabpkaaGreatDoorJnF0
import Derived.Test.YtenlbeghjabpkaaGreatDoorJnF
import Derived.Test.YtenlbeghjabpkaaGreatDoorJnG
namespace Go.Proofs.YtenlbeghjabpkaaGreatDoor
open Go.RowKit

theorem haveFirst {p q : Prop} (h : p) (f : p → q) : q := f h
theorem wsF_size {d : Diary} {x : State} (h : (wsF d x).2 = true) : (wsF d x).1.Safe.size + (wsF d x).1.Open.size ≤ d.Safe.size + d.Open.size + 21 := by
  cases hc : (openB d.Safe d.Open && stateB x && decide ((statesB d.Safe d.Open).length < 40)) with
  | false => rw [wsF_no hc] at h; cases h
  | true =>
    rw [wsF_yes hc]
    simp only [Bool.and_eq_true, decide_eq_true_eq] at hc
    have hok : okL ((statesB d.Safe d.Open).length : Int) x = true := by unfold okL; rw [hc.1.2, inB_yes (by omega) (by omega)]; rfl
    have := line_len hok
    simp only [ByteArray.size_append]
    omega
/-- a diary as it is drawn -/
def RetDiary (w : World) (g : Nat) (N : Int) (e : Ending) (w' : World) : Prop :=
  ∃ d : Diary, e = .returned (.agg #[.string d.Safe, .string d.Open]) ∧ d.Safe.size + d.Open.size ≤ 1200 ∧ Cur w' g N ∧ OnlyF [g] w w'
set_option maxRecDepth 100000 in
set_option maxHeartbeats 16000000 in
theorem diary_any (g : Nat) (N : Int) (w : World) (hc : Cur w g N) (hN : N ≤ 800000000) :
    Calls Tryz.prog 23 #[.pointer (some ⟨g, 0, none⟩)] w (RetDiary w g (N + 3000)) := by
  have lg0 := hc.lt
  go_enter Tryz.func23, Tryz.ntmps23
  have ne_m_r : ¬ (w.heap.size + 1 = w.heap.size) := by omega
  have ne_r_m : ¬ (w.heap.size = w.heap.size + 1) := by omega
  go_wp2_with fail
  refine (pick_any g _ 8 _ (hc.below (by repeat' (first | exact bl_refl _ | refine bl_alloc ?_ _ | refine bl_drew ?_ | refine bl_set ?_ (by simp; try omega) _))) (by omega) (by omega)).mono ?_
  rintro e V1 ⟨p, rfl, hp, hc1, hf1⟩
  have r0 : V1.cell? ⟨w.heap.size, 0, none⟩ = some (.string ⟨#[]⟩) := hf1.keeps (by go_simp) (by simp only [List.mem_singleton]; omega)
  have r1 : V1.cell? ⟨w.heap.size, 1, none⟩ = some (.string ⟨#[]⟩) := hf1.keeps (by go_simp) (by simp only [List.mem_singleton]; omega)
  have fr0 : V1.frozen? ⟨w.heap.size, 0, none⟩ = false := (hf1.frozen (by simp; try omega) (by simp only [List.mem_singleton]; omega)).trans (by go_simp)
  have fr1 : V1.frozen? ⟨w.heap.size, 1, none⟩ = false := (hf1.frozen (by simp; try omega) (by simp only [List.mem_singleton]; omega)).trans (by go_simp)
  have lr1 : w.heap.size < V1.heap.size := World.block_lt_of_cell? _ _ r0
  have m0 : V1.cell? ⟨w.heap.size + 1, 0, none⟩ = some (.string ⟨#[]⟩) := hf1.keeps (by go_simp) (by simp only [List.mem_singleton]; omega)
  have m1 : V1.cell? ⟨w.heap.size + 1, 1, none⟩ = some (.string ⟨#[]⟩) := hf1.keeps (by go_simp) (by simp only [List.mem_singleton]; omega)
  have fm0 : V1.frozen? ⟨w.heap.size + 1, 0, none⟩ = false := (hf1.frozen (by simp; try omega) (by simp only [List.mem_singleton]; omega)).trans (by go_simp)
  have fm1 : V1.frozen? ⟨w.heap.size + 1, 1, none⟩ = false := (hf1.frozen (by simp; try omega) (by simp only [List.mem_singleton]; omega)).trans (by go_simp)
  have lm1 : w.heap.size + 1 < V1.heap.size := World.block_lt_of_cell? _ _ m0
  have lg1 : g < V1.heap.size := hc1.lt
  have hF1 : OnlyF [g] w V1 := (OnlyF.below (a := w) (by repeat' (first | exact bl_refl _ | refine bl_alloc ?_ _ | refine bl_drew ?_ | refine bl_set ?_ (by simp; try omega) _))).trans hf1
  have hp8 : p < 8 := hp.2 (by omega)
  have hp0 := hp.1
  clear hp
  go_wp2_with fail
  refine (one_any g _ 12 _ (hc1.below (by repeat' (first | exact bl_refl _ | refine bl_alloc ?_ _ | refine bl_drew ?_ | refine bl_set ?_ (by simp; try omega) _))) (by omega) (by omega)).mono ?_
  rintro e V2 ⟨b, rfl, hc2, hf2⟩
  replace r0 : V2.cell? ⟨w.heap.size, 0, none⟩ = some (.string ⟨#[]⟩) := hf2.keeps (by go_simp) (by simp only [List.mem_singleton]; omega)
  replace r1 : V2.cell? ⟨w.heap.size, 1, none⟩ = some (.string ⟨#[]⟩) := hf2.keeps (by go_simp) (by simp only [List.mem_singleton]; omega)
  replace fr0 : V2.frozen? ⟨w.heap.size, 0, none⟩ = false := (hf2.frozen (by simp; try omega) (by simp only [List.mem_singleton]; omega)).trans (by go_simp)
  replace fr1 : V2.frozen? ⟨w.heap.size, 1, none⟩ = false := (hf2.frozen (by simp; try omega) (by simp only [List.mem_singleton]; omega)).trans (by go_simp)
  have lr2 : w.heap.size < V2.heap.size := World.block_lt_of_cell? _ _ r0
  replace m0 : V2.cell? ⟨w.heap.size + 1, 0, none⟩ = some (.string ⟨#[]⟩) := hf2.keeps (by go_simp) (by simp only [List.mem_singleton]; omega)
  replace m1 : V2.cell? ⟨w.heap.size + 1, 1, none⟩ = some (.string ⟨#[]⟩) := hf2.keeps (by go_simp) (by simp only [List.mem_singleton]; omega)
  replace fm0 : V2.frozen? ⟨w.heap.size + 1, 0, none⟩ = false := (hf2.frozen (by simp; try omega) (by simp only [List.mem_singleton]; omega)).trans (by go_simp)
  replace fm1 : V2.frozen? ⟨w.heap.size + 1, 1, none⟩ = false := (hf2.frozen (by simp; try omega) (by simp only [List.mem_singleton]; omega)).trans (by go_simp)
  have lm2 : w.heap.size + 1 < V2.heap.size := World.block_lt_of_cell? _ _ m0
  have lg2 : g < V2.heap.size := hc2.lt
  have hF2 : OnlyF [g] w V2 := hF1.trans ((OnlyF.below (a := V1) (by repeat' (first | exact bl_refl _ | refine bl_alloc ?_ _ | refine bl_drew ?_ | refine bl_set ?_ (by simp; try omega) _))).trans hf2)
  obtain ⟨n, hn43, hnb⟩ : ∃ n : Nat, n ≤ 43 ∧ (b = true ∧ n = 43 ∨ b = false ∧ p = (n : Int)) := by
    cases b with
    | true => exact ⟨43, Nat.le_refl _, .inl ⟨rfl, rfl⟩⟩
    | false => exact ⟨p.toNat, by omega, .inr ⟨rfl, by omega⟩⟩
  rcases hnb with ⟨rfl, hn⟩ | ⟨rfl, rfl⟩
  · have hn43 : 43 ≤ 43 := Nat.le_refl _
    go_wp2
    go_loopw [5] (fun kv wr => ∃ (k : Nat) (s o : ByteArray), k ≤ 43 ∧ kv = .int .i64 k ∧ s.size + o.size ≤ 21 * k ∧ wr.cell? ⟨w.heap.size, 0, none⟩ = some (.string ⟨#[]⟩) ∧ wr.cell? ⟨w.heap.size, 1, none⟩ = some (.string ⟨#[]⟩) ∧ wr.frozen? ⟨w.heap.size, 0, none⟩ = false ∧ wr.frozen? ⟨w.heap.size, 1, none⟩ = false ∧ wr.cell? ⟨w.heap.size + 1, 0, none⟩ = some (.string s) ∧ wr.cell? ⟨w.heap.size + 1, 1, none⟩ = some (.string o) ∧ wr.frozen? ⟨w.heap.size + 1, 0, none⟩ = false ∧ wr.frozen? ⟨w.heap.size + 1, 1, none⟩ = false ∧ Cur wr g (N + 4 + 30 * (k : Int)) ∧ OnlyF [g] w wr) (fun kv _ => 43 - (intOf kv).toNat)
    case atStart => exact ⟨0, ⟨#[]⟩, ⟨#[]⟩, Nat.zero_le _, rfl, by decide, r0, r1, fr0, fr1, m0, m1, fm0, fm1, hc2.mono (by omega), hF2⟩
    case round =>
      obtain ⟨k, s, o, hk, rfl, hso, r0, r1, fr0, fr1, m0, m1, fm0, fm1, hcr, hfr⟩ := hrel
      have lr : w.heap.size < wr.heap.size := World.block_lt_of_cell? _ _ r0
      have lm : w.heap.size + 1 < wr.heap.size := World.block_lt_of_cell? _ _ m0
      by_cases hlt : k < 43
      · have hkd : decide ((k : Int) < 43) = true := by simp; omega
        go_upto_region 8 with fail
        go_cut [6, 7] from 13 to 34 (fun s6 s7 wx => ∃ (x : State) (b6 : Nat), s6 = .pointer (some ⟨b6, 0, none⟩) ∧ s7 = .bool (wsF ⟨s, o⟩ x).2 ∧ w.heap.size + 2 ≤ b6 ∧ wx.cell? ⟨b6, 0, none⟩ = some (.string (wsF ⟨s, o⟩ x).1.Safe) ∧ wx.cell? ⟨b6, 1, none⟩ = some (.string (wsF ⟨s, o⟩ x).1.Open) ∧ wx.cell? ⟨w.heap.size, 0, none⟩ = some (.string ⟨#[]⟩) ∧ wx.cell? ⟨w.heap.size, 1, none⟩ = some (.string ⟨#[]⟩) ∧ wx.frozen? ⟨w.heap.size, 0, none⟩ = false ∧ wx.frozen? ⟨w.heap.size, 1, none⟩ = false ∧ wx.cell? ⟨w.heap.size + 1, 0, none⟩ = some (.string s) ∧ wx.cell? ⟨w.heap.size + 1, 1, none⟩ = some (.string o) ∧ wx.frozen? ⟨w.heap.size + 1, 0, none⟩ = false ∧ wx.frozen? ⟨w.heap.size + 1, 1, none⟩ = false ∧ Cur wx g (N + 24 + 30 * (k : Int)) ∧ OnlyF [g] w wx)
        case first =>
          go_region_held3 (fun w' => w'.cell? ⟨w.heap.size + 1, 0, none⟩ = some (.string s) ∧ w'.cell? ⟨w.heap.size + 1, 1, none⟩ = some (.string o)) (first | exact ⟨m0, m1⟩ | (refine ⟨?_, ?_⟩ <;> (go_simp; done)) | (refine ⟨?_, ?_⟩ <;> (rw [World.cell?_setCell_other _ _ _ _ (by intro e; injection e with e; omega), World.cell?_setCell_other _ _ _ _ (by intro e; injection e with e; omega)]; first | exact m0 | exact m1)) | go_keep) (first | (go_at_call 24; refine (curState_any g _ _ (hcr.below (by repeat' (first | exact bl_refl _ | refine bl_alloc ?_ _ | refine bl_drew ?_ | refine bl_set ?_ (by simp; try omega) _))) (by omega)).mono ?_; rintro e V3 ⟨x, rfl, hx, hv, hc3, hf3⟩; have r0 : V3.cell? ⟨w.heap.size, 0, none⟩ = some (.string ⟨#[]⟩) := hf3.keeps (by go_simp) (by simp only [List.mem_singleton]; omega); have r1 : V3.cell? ⟨w.heap.size, 1, none⟩ = some (.string ⟨#[]⟩) := hf3.keeps (by go_simp) (by simp only [List.mem_singleton]; omega); have m0 : V3.cell? ⟨w.heap.size + 1, 0, none⟩ = some (.string s) := hf3.keeps (by go_simp) (by simp only [List.mem_singleton]; omega); have m1 : V3.cell? ⟨w.heap.size + 1, 1, none⟩ = some (.string o) := hf3.keeps (by go_simp) (by simp only [List.mem_singleton]; omega); have fr0 : V3.frozen? ⟨w.heap.size, 0, none⟩ = false := (hf3.frozen (by simp; try omega) (by simp only [List.mem_singleton]; omega)).trans (by go_simp); have fr1 : V3.frozen? ⟨w.heap.size, 1, none⟩ = false := (hf3.frozen (by simp; try omega) (by simp only [List.mem_singleton]; omega)).trans (by go_simp); have fm0 : V3.frozen? ⟨w.heap.size + 1, 0, none⟩ = false := (hf3.frozen (by simp; try omega) (by simp only [List.mem_singleton]; omega)).trans (by go_simp); have fm1 : V3.frozen? ⟨w.heap.size + 1, 1, none⟩ = false := (hf3.frozen (by simp; try omega) (by simp only [List.mem_singleton]; omega)).trans (by go_simp); have lrV3 : w.heap.size < V3.heap.size := World.block_lt_of_cell? _ _ r0; have lmV3 : w.heap.size + 1 < V3.heap.size := World.block_lt_of_cell? _ _ m0; have hF3 : OnlyF [g] w V3 := hfr.trans ((OnlyF.below (by repeat' (first | exact bl_refl _ | refine bl_alloc ?_ _ | refine bl_drew ?_ | refine bl_set ?_ (by simp; try omega) _))).trans hf3); have lV3 : wr.heap.size ≤ V3.heap.size := (by have hz := hf3.size; (try simp at hz); omega); (first | (refine haveFirst (p := V3.cell? ⟨wr.heap.size, 0, none⟩ = some (.string ⟨#[]⟩)) ?_ (fun z0 => ?_); (focus (refine hf3.keeps ?_ ?_; (focus (go_simp; done)); (focus (simp only [List.mem_singleton]; omega)); done)); refine haveFirst (p := V3.frozen? ⟨wr.heap.size, 0, none⟩ = false) ?_ (fun fz0 => ?_); (focus (refine (hf3.frozen ?_ ?_).trans ?_; (focus (simp; done)); (focus (simp only [List.mem_singleton]; omega)); (focus (go_simp; done)); done)); refine haveFirst (p := V3.cell? ⟨wr.heap.size, 1, none⟩ = some (.string ⟨#[]⟩)) ?_ (fun z1 => ?_); (focus (refine hf3.keeps ?_ ?_; (focus (go_simp; done)); (focus (simp only [List.mem_singleton]; omega)); done)); refine haveFirst (p := V3.frozen? ⟨wr.heap.size, 1, none⟩ = false) ?_ (fun fz1 => ?_); (focus (refine (hf3.frozen ?_ ?_).trans ?_; (focus (simp; done)); (focus (simp only [List.mem_singleton]; omega)); (focus (go_simp; done)); done)); refine haveFirst (p := wr.heap.size < V3.heap.size) (World.block_lt_of_cell? _ _ z0) (fun lz => ?_)) | skip)) | (go_at_call 6; refine (specWriteState_any ⟨s, o⟩ x _ (by simp only []; omega) (by unfold maxLen; omega)).mono ?_; rintro e V4 ⟨rfl, hb4⟩; have hE4 : Below V3.heap.size V3 V4 := bl_trans (by repeat' (first | exact bl_refl _ | refine bl_alloc ?_ _ | refine bl_drew ?_ | refine bl_set ?_ (by simp; try omega) _)) hb4; have hF4 : OnlyF [g] w V4 := hF3.trans (OnlyF.below hE4); have hc4 : Cur V4 g (N + 24 + 30 * (k : Int)) := (hc3.below hE4).mono (by omega); have r0 : V4.cell? ⟨w.heap.size, 0, none⟩ = some (.string ⟨#[]⟩) := cell_later hb4 (by go_simp); have r1 : V4.cell? ⟨w.heap.size, 1, none⟩ = some (.string ⟨#[]⟩) := cell_later hb4 (by go_simp); have m0 : V4.cell? ⟨w.heap.size + 1, 0, none⟩ = some (.string s) := cell_later hb4 (by go_simp); have m1 : V4.cell? ⟨w.heap.size + 1, 1, none⟩ = some (.string o) := cell_later hb4 (by go_simp); have fr0 : V4.frozen? ⟨w.heap.size, 0, none⟩ = false := frozen_later hb4 (by simp; try omega) (by go_simp); have fr1 : V4.frozen? ⟨w.heap.size, 1, none⟩ = false := frozen_later hb4 (by simp; try omega) (by go_simp); have fm0 : V4.frozen? ⟨w.heap.size + 1, 0, none⟩ = false := frozen_later hb4 (by simp; try omega) (by go_simp); have fm1 : V4.frozen? ⟨w.heap.size + 1, 1, none⟩ = false := frozen_later hb4 (by simp; try omega) (by go_simp); have lrV4 : w.heap.size < V4.heap.size := World.block_lt_of_cell? _ _ r0; have lmV4 : w.heap.size + 1 < V4.heap.size := World.block_lt_of_cell? _ _ m0; (first | (refine haveFirst (p := V4.cell? ⟨V3.heap.size, 0, none⟩ = some (.string ⟨#[]⟩)) ?_ (fun z0 => ?_); (focus (refine cell_later hb4 ?_; go_simp; done)); refine haveFirst (p := V4.frozen? ⟨V3.heap.size, 0, none⟩ = false) ?_ (fun fz0 => ?_); (focus (refine frozen_later hb4 ?_ ?_; (focus (simp; done)); (focus (go_simp; done)); done)); refine haveFirst (p := V4.cell? ⟨V3.heap.size, 1, none⟩ = some (.string ⟨#[]⟩)) ?_ (fun z1 => ?_); (focus (refine cell_later hb4 ?_; go_simp; done)); refine haveFirst (p := V4.frozen? ⟨V3.heap.size, 1, none⟩ = false) ?_ (fun fz1 => ?_); (focus (refine frozen_later hb4 ?_ ?_; (focus (simp; done)); (focus (go_simp; done)); done)); refine haveFirst (p := V3.heap.size < V4.heap.size) (World.block_lt_of_cell? _ _ z0) (fun lz => ?_)) | (refine haveFirst (p := V4.cell? ⟨wr.heap.size, 0, none⟩ = some (.string ⟨#[]⟩)) ?_ (fun z0 => ?_); (focus (refine cell_later hb4 ?_; go_simp; done)); refine haveFirst (p := V4.frozen? ⟨wr.heap.size, 0, none⟩ = false) ?_ (fun fz0 => ?_); (focus (refine frozen_later hb4 ?_ ?_; (focus (simp; omega)); (focus (go_simp; done)); done)); refine haveFirst (p := V4.cell? ⟨wr.heap.size, 1, none⟩ = some (.string ⟨#[]⟩)) ?_ (fun z1 => ?_); (focus (refine cell_later hb4 ?_; go_simp; done)); refine haveFirst (p := V4.frozen? ⟨wr.heap.size, 1, none⟩ = false) ?_ (fun fz1 => ?_); (focus (refine frozen_later hb4 ?_ ?_; (focus (simp; omega)); (focus (go_simp; done)); done)); refine haveFirst (p := wr.heap.size < V4.heap.size) (World.block_lt_of_cell? _ _ z0) (fun lz => ?_)) | skip)))
          all_goals (go_wp2_with fail; go_meet)
          all_goals (refine ⟨x, _, rfl, rfl, by omega, (by go_simp), (by go_simp), (by go_simp), (by go_simp), (by go_simp), (by go_simp), (by go_simp), (by go_simp), (by go_simp), (by go_simp), ?_, ?_⟩)
          all_goals (first | (focus (repeat' (first | exact hc4 | refine Cur.set ?_ (by omega) _ _ | refine Cur.alloc ?_ _)); done) | (focus (repeat' (first | exact hF4 | refine OnlyF.setN ?_ (by omega) _ _ | refine OnlyF.alloc ?_ _)); done))
        case rest =>
          obtain ⟨x, b6, rfl, rfl, hb6, d0, d1, r0, r1, fr0, fr1, m0, m1, fm0, fm1, hcc, hfc⟩ := hcut
          have lr : w.heap.size < wc.heap.size := World.block_lt_of_cell? _ _ r0
          have lm : w.heap.size + 1 < wc.heap.size := World.block_lt_of_cell? _ _ m0
          have lb : b6 < wc.heap.size := World.block_lt_of_cell? _ _ d0
          have hsz := wsF_size (d := ⟨s, o⟩) (x := x)
          obtain ⟨ww, hww⟩ : ∃ ww, ww = wsF ⟨s, o⟩ x := ⟨_, rfl⟩
          rw [← hww] at d0 d1 hsz
          have hww2 : (wsF ⟨s, o⟩ x).2 = ww.2 := by rw [hww]
          rw [hww2]
          clear hww hww2
          obtain ⟨⟨ds, dp⟩, db⟩ := ww
          simp only [] at d0 d1 hsz
          have n1 : ¬ (b6 = w.heap.size) := by omega
          have n2 : ¬ (b6 = w.heap.size + 1) := by omega
          cases db
          · have hs5 : s.size + o.size ≤ 21 * (k + 1) := by omega
            go_wp2_with fail
            refine (one_any g _ 5 _ hcc (by omega) (by omega)).mono ?_
            rintro e V5 ⟨b, rfl, hc5, hf5⟩
            replace r0 : V5.cell? ⟨w.heap.size, 0, none⟩ = some (.string ⟨#[]⟩) := hf5.keeps (by go_simp) (by simp only [List.mem_singleton]; omega)
            replace r1 : V5.cell? ⟨w.heap.size, 1, none⟩ = some (.string ⟨#[]⟩) := hf5.keeps (by go_simp) (by simp only [List.mem_singleton]; omega)
            replace m0 : V5.cell? ⟨w.heap.size + 1, 0, none⟩ = some (.string s) := hf5.keeps (by go_simp) (by simp only [List.mem_singleton]; omega)
            replace m1 : V5.cell? ⟨w.heap.size + 1, 1, none⟩ = some (.string o) := hf5.keeps (by go_simp) (by simp only [List.mem_singleton]; omega)
            replace fr0 : V5.frozen? ⟨w.heap.size, 0, none⟩ = false := (hf5.frozen (by simp; try omega) (by simp only [List.mem_singleton]; omega)).trans (by go_simp)
            replace fr1 : V5.frozen? ⟨w.heap.size, 1, none⟩ = false := (hf5.frozen (by simp; try omega) (by simp only [List.mem_singleton]; omega)).trans (by go_simp)
            replace fm0 : V5.frozen? ⟨w.heap.size + 1, 0, none⟩ = false := (hf5.frozen (by simp; try omega) (by simp only [List.mem_singleton]; omega)).trans (by go_simp)
            replace fm1 : V5.frozen? ⟨w.heap.size + 1, 1, none⟩ = false := (hf5.frozen (by simp; try omega) (by simp only [List.mem_singleton]; omega)).trans (by go_simp)
            have lr5 : w.heap.size < V5.heap.size := World.block_lt_of_cell? _ _ r0
            have lm5 : w.heap.size + 1 < V5.heap.size := World.block_lt_of_cell? _ _ m0
            have hF5 : OnlyF [g] w V5 := OnlyF.trans (by repeat' (first | exact hfc | refine OnlyF.setN ?_ (by omega) _ _)) hf5
            have a1 : ¬ (9223372036854775807 < s.size + o.size) := by omega
            cases b
            all_goals
              go_wp2
              go_roundw
              case measure => simp [intOf]; omega
              case rel =>
                first | exact ⟨k + 1, s, o, by omega, by go_num, by omega, r0, r1, fr0, fr1, m0, m1, fm0, fm1, hc5.mono (by omega), hF5⟩ | (refine ⟨k + 1, s ++ o, ⟨#[]⟩, by omega, by go_num, by rw [ByteArray.size_append]; exact (by omega : _ ≤ _), (by go_simp), (by go_simp), (by go_simp), (by go_simp), (by go_simp), (by go_simp), (by go_simp), (by go_simp), ?_, ?_⟩; (repeat' (first | exact hc5.mono (by omega) | refine Cur.set ?_ (by omega) _ _)); (repeat' (first | exact hF5 | refine OnlyF.setN ?_ (by omega) _ _)))
          · have hs5 : ds.size + dp.size ≤ 21 * (k + 1) := by have := hsz rfl; omega
            go_wp2_with fail
            refine (one_any g _ 5 _ (hcc.set (by omega) _ _ |>.set (by omega) _ _) (by omega) (by omega)).mono ?_
            rintro e V5 ⟨b, rfl, hc5, hf5⟩
            replace r0 : V5.cell? ⟨w.heap.size, 0, none⟩ = some (.string ⟨#[]⟩) := hf5.keeps (by go_simp) (by simp only [List.mem_singleton]; omega)
            replace r1 : V5.cell? ⟨w.heap.size, 1, none⟩ = some (.string ⟨#[]⟩) := hf5.keeps (by go_simp) (by simp only [List.mem_singleton]; omega)
            replace m0 : V5.cell? ⟨w.heap.size + 1, 0, none⟩ = some (.string ds) := hf5.keeps (by go_simp) (by simp only [List.mem_singleton]; omega)
            replace m1 : V5.cell? ⟨w.heap.size + 1, 1, none⟩ = some (.string dp) := hf5.keeps (by go_simp) (by simp only [List.mem_singleton]; omega)
            replace fr0 : V5.frozen? ⟨w.heap.size, 0, none⟩ = false := (hf5.frozen (by simp; try omega) (by simp only [List.mem_singleton]; omega)).trans (by go_simp)
            replace fr1 : V5.frozen? ⟨w.heap.size, 1, none⟩ = false := (hf5.frozen (by simp; try omega) (by simp only [List.mem_singleton]; omega)).trans (by go_simp)
            replace fm0 : V5.frozen? ⟨w.heap.size + 1, 0, none⟩ = false := (hf5.frozen (by simp; try omega) (by simp only [List.mem_singleton]; omega)).trans (by go_simp)
            replace fm1 : V5.frozen? ⟨w.heap.size + 1, 1, none⟩ = false := (hf5.frozen (by simp; try omega) (by simp only [List.mem_singleton]; omega)).trans (by go_simp)
            have lr5 : w.heap.size < V5.heap.size := World.block_lt_of_cell? _ _ r0
            have lm5 : w.heap.size + 1 < V5.heap.size := World.block_lt_of_cell? _ _ m0
            have hF5 : OnlyF [g] w V5 := OnlyF.trans (by repeat' (first | exact hfc | refine OnlyF.setN ?_ (by omega) _ _)) hf5
            have a1 : ¬ (9223372036854775807 < ds.size + dp.size) := by omega
            cases b
            all_goals
              go_wp2
              go_roundw
              case measure => simp [intOf]; omega
              case rel =>
                first | exact ⟨k + 1, ds, dp, by omega, by go_num, by omega, r0, r1, fr0, fr1, m0, m1, fm0, fm1, hc5.mono (by omega), hF5⟩ | (refine ⟨k + 1, ds ++ dp, ⟨#[]⟩, by omega, by go_num, by rw [ByteArray.size_append]; exact (by omega : _ ≤ _), (by go_simp), (by go_simp), (by go_simp), (by go_simp), (by go_simp), (by go_simp), (by go_simp), (by go_simp), ?_, ?_⟩; (repeat' (first | exact hc5.mono (by omega) | refine Cur.set ?_ (by omega) _ _)); (repeat' (first | exact hF5 | refine OnlyF.setN ?_ (by omega) _ _)))
      · have hkd : decide ((k : Int) < 43) = false := by simp; omega
        go_wp2_with fail
        refine (pick_any g _ 24 _ (hcr.below (by repeat' (first | exact bl_refl _ | refine bl_alloc ?_ _ | refine bl_drew ?_ | refine bl_set ?_ (by simp; try omega) _))) (by omega) (by omega)).mono ?_
        rintro e V6 ⟨q, rfl, hq, hc6, hf6⟩
        replace r0 : V6.cell? ⟨w.heap.size, 0, none⟩ = some (.string ⟨#[]⟩) := hf6.keeps (by go_simp) (by simp only [List.mem_singleton]; omega)
        replace r1 : V6.cell? ⟨w.heap.size, 1, none⟩ = some (.string ⟨#[]⟩) := hf6.keeps (by go_simp) (by simp only [List.mem_singleton]; omega)
        replace fr0 : V6.frozen? ⟨w.heap.size, 0, none⟩ = false := (hf6.frozen (by simp; try omega) (by simp only [List.mem_singleton]; omega)).trans (by go_simp)
        replace fr1 : V6.frozen? ⟨w.heap.size, 1, none⟩ = false := (hf6.frozen (by simp; try omega) (by simp only [List.mem_singleton]; omega)).trans (by go_simp)
        have lr6 : w.heap.size < V6.heap.size := World.block_lt_of_cell? _ _ r0
        replace m0 : V6.cell? ⟨w.heap.size + 1, 0, none⟩ = some (.string s) := hf6.keeps (by go_simp) (by simp only [List.mem_singleton]; omega)
        replace m1 : V6.cell? ⟨w.heap.size + 1, 1, none⟩ = some (.string o) := hf6.keeps (by go_simp) (by simp only [List.mem_singleton]; omega)
        replace fm0 : V6.frozen? ⟨w.heap.size + 1, 0, none⟩ = false := (hf6.frozen (by simp; try omega) (by simp only [List.mem_singleton]; omega)).trans (by go_simp)
        replace fm1 : V6.frozen? ⟨w.heap.size + 1, 1, none⟩ = false := (hf6.frozen (by simp; try omega) (by simp only [List.mem_singleton]; omega)).trans (by go_simp)
        have lm6 : w.heap.size + 1 < V6.heap.size := World.block_lt_of_cell? _ _ m0
        have lg6 : g < V6.heap.size := hc6.lt
        have hF6 : OnlyF [g] w V6 := hfr.trans ((OnlyF.below (a := wr) (by repeat' (first | exact bl_refl _ | refine bl_alloc ?_ _ | refine bl_drew ?_ | refine bl_set ?_ (by simp; try omega) _))).trans hf6)
        have hq0 := hq.1
        clear hq
        by_cases hq1 : q = 0
        · subst hq1
          go_wp2_with fail
          refine (spoilt_any g _ o ⟨#[61, 112, 49, 57, 10]⟩ _ (hc6.below (by repeat' (first | exact bl_refl _ | refine bl_alloc ?_ _ | refine bl_drew ?_ | refine bl_set ?_ (by simp; try omega) _))) (by omega) (by omega) (by decide) (by decide)).mono ?_
          rintro e V7 ⟨t, rfl, ht, hc7, hf7⟩
          replace r0 : V7.cell? ⟨w.heap.size, 0, none⟩ = some (.string ⟨#[]⟩) := hf7.keeps (by go_simp) (by simp only [List.mem_singleton]; omega)
          replace r1 : V7.cell? ⟨w.heap.size, 1, none⟩ = some (.string ⟨#[]⟩) := hf7.keeps (by go_simp) (by simp only [List.mem_singleton]; omega)
          replace fr0 : V7.frozen? ⟨w.heap.size, 0, none⟩ = false := (hf7.frozen (by simp; try omega) (by simp only [List.mem_singleton]; omega)).trans (by go_simp)
          replace fr1 : V7.frozen? ⟨w.heap.size, 1, none⟩ = false := (hf7.frozen (by simp; try omega) (by simp only [List.mem_singleton]; omega)).trans (by go_simp)
          have lr7 : w.heap.size < V7.heap.size := World.block_lt_of_cell? _ _ r0
          replace m0 : V7.cell? ⟨w.heap.size + 1, 0, none⟩ = some (.string s) := hf7.keeps (by go_simp) (by simp only [List.mem_singleton]; omega)
          replace m1 : V7.cell? ⟨w.heap.size + 1, 1, none⟩ = some (.string o) := hf7.keeps (by go_simp) (by simp only [List.mem_singleton]; omega)
          replace fm0 : V7.frozen? ⟨w.heap.size + 1, 0, none⟩ = false := (hf7.frozen (by simp; try omega) (by simp only [List.mem_singleton]; omega)).trans (by go_simp)
          replace fm1 : V7.frozen? ⟨w.heap.size + 1, 1, none⟩ = false := (hf7.frozen (by simp; try omega) (by simp only [List.mem_singleton]; omega)).trans (by go_simp)
          have lm7 : w.heap.size + 1 < V7.heap.size := World.block_lt_of_cell? _ _ m0
          have lg7 : g < V7.heap.size := hc7.lt
          have hF7 : OnlyF [g] w V7 := hF6.trans ((OnlyF.below (a := V6) (by repeat' (first | exact bl_refl _ | refine bl_alloc ?_ _ | refine bl_drew ?_ | refine bl_set ?_ (by simp; try omega) _))).trans hf7)
          go_wp2
          refine bodyPost_ret (v := .agg #[.string s, .string t]) (by simp [results, Tryz.results23, go_sem, r0, r1]; try rfl) rfl ?_
          refine ⟨⟨s, t⟩, rfl, (by simp only []; omega), ?_, ?_⟩
          · repeat' (first | exact hc7.mono (by omega) | refine Cur.set ?_ (by omega) _ _)
          · repeat' (first | exact hF7 | refine OnlyF.setN ?_ (by omega) _ _)
        by_cases hq2 : q = 1
        · subst hq2
          go_wp2_with fail
          refine (spoilt_any g _ s ⟨#[61, 112, 49, 57, 10]⟩ _ (hc6.below (by repeat' (first | exact bl_refl _ | refine bl_alloc ?_ _ | refine bl_drew ?_ | refine bl_set ?_ (by simp; try omega) _))) (by omega) (by omega) (by decide) (by decide)).mono ?_
          rintro e V7 ⟨t, rfl, ht, hc7, hf7⟩
          replace r0 : V7.cell? ⟨w.heap.size, 0, none⟩ = some (.string ⟨#[]⟩) := hf7.keeps (by go_simp) (by simp only [List.mem_singleton]; omega)
          replace r1 : V7.cell? ⟨w.heap.size, 1, none⟩ = some (.string ⟨#[]⟩) := hf7.keeps (by go_simp) (by simp only [List.mem_singleton]; omega)
          replace fr0 : V7.frozen? ⟨w.heap.size, 0, none⟩ = false := (hf7.frozen (by simp; try omega) (by simp only [List.mem_singleton]; omega)).trans (by go_simp)
          replace fr1 : V7.frozen? ⟨w.heap.size, 1, none⟩ = false := (hf7.frozen (by simp; try omega) (by simp only [List.mem_singleton]; omega)).trans (by go_simp)
          have lr7 : w.heap.size < V7.heap.size := World.block_lt_of_cell? _ _ r0
          replace m0 : V7.cell? ⟨w.heap.size + 1, 0, none⟩ = some (.string s) := hf7.keeps (by go_simp) (by simp only [List.mem_singleton]; omega)
          replace m1 : V7.cell? ⟨w.heap.size + 1, 1, none⟩ = some (.string o) := hf7.keeps (by go_simp) (by simp only [List.mem_singleton]; omega)
          replace fm0 : V7.frozen? ⟨w.heap.size + 1, 0, none⟩ = false := (hf7.frozen (by simp; try omega) (by simp only [List.mem_singleton]; omega)).trans (by go_simp)
          replace fm1 : V7.frozen? ⟨w.heap.size + 1, 1, none⟩ = false := (hf7.frozen (by simp; try omega) (by simp only [List.mem_singleton]; omega)).trans (by go_simp)
          have lm7 : w.heap.size + 1 < V7.heap.size := World.block_lt_of_cell? _ _ m0
          have lg7 : g < V7.heap.size := hc7.lt
          have hF7 : OnlyF [g] w V7 := hF6.trans ((OnlyF.below (a := V6) (by repeat' (first | exact bl_refl _ | refine bl_alloc ?_ _ | refine bl_drew ?_ | refine bl_set ?_ (by simp; try omega) _))).trans hf7)
          go_wp2
          refine bodyPost_ret (v := .agg #[.string t, .string o]) (by simp [results, Tryz.results23, go_sem, r0, r1]; try rfl) rfl ?_
          refine ⟨⟨t, o⟩, rfl, (by simp only []; omega), ?_, ?_⟩
          · repeat' (first | exact hc7.mono (by omega) | refine Cur.set ?_ (by omega) _ _)
          · repeat' (first | exact hF7 | refine OnlyF.setN ?_ (by omega) _ _)
        go_wp2
        refine bodyPost_ret (v := .agg #[.string s, .string o]) (by simp [results, Tryz.results23, go_sem, r0, r1]; try rfl) rfl ?_
        refine ⟨⟨s, o⟩, rfl, (by simp only []; omega), ?_, ?_⟩
        · repeat' (first | exact hc6.mono (by omega) | refine Cur.set ?_ (by omega) _ _)
        · repeat' (first | exact hF6 | refine OnlyF.setN ?_ (by omega) _ _)
  · skip
    go_wp2
    go_loopw [5] (fun kv wr => ∃ (k : Nat) (s o : ByteArray), k ≤ n ∧ kv = .int .i64 k ∧ s.size + o.size ≤ 21 * k ∧ wr.cell? ⟨w.heap.size, 0, none⟩ = some (.string ⟨#[]⟩) ∧ wr.cell? ⟨w.heap.size, 1, none⟩ = some (.string ⟨#[]⟩) ∧ wr.frozen? ⟨w.heap.size, 0, none⟩ = false ∧ wr.frozen? ⟨w.heap.size, 1, none⟩ = false ∧ wr.cell? ⟨w.heap.size + 1, 0, none⟩ = some (.string s) ∧ wr.cell? ⟨w.heap.size + 1, 1, none⟩ = some (.string o) ∧ wr.frozen? ⟨w.heap.size + 1, 0, none⟩ = false ∧ wr.frozen? ⟨w.heap.size + 1, 1, none⟩ = false ∧ Cur wr g (N + 4 + 30 * (k : Int)) ∧ OnlyF [g] w wr) (fun kv _ => n - (intOf kv).toNat)
    case atStart => exact ⟨0, ⟨#[]⟩, ⟨#[]⟩, Nat.zero_le _, rfl, by decide, r0, r1, fr0, fr1, m0, m1, fm0, fm1, hc2.mono (by omega), hF2⟩
    case round =>
      obtain ⟨k, s, o, hk, rfl, hso, r0, r1, fr0, fr1, m0, m1, fm0, fm1, hcr, hfr⟩ := hrel
      have lr : w.heap.size < wr.heap.size := World.block_lt_of_cell? _ _ r0
      have lm : w.heap.size + 1 < wr.heap.size := World.block_lt_of_cell? _ _ m0
      by_cases hlt : k < n
      · have hkd : decide ((k : Int) < n) = true := by simp; omega
        go_upto_region 8 with fail
        go_cut [6, 7] from 13 to 34 (fun s6 s7 wx => ∃ (x : State) (b6 : Nat), s6 = .pointer (some ⟨b6, 0, none⟩) ∧ s7 = .bool (wsF ⟨s, o⟩ x).2 ∧ w.heap.size + 2 ≤ b6 ∧ wx.cell? ⟨b6, 0, none⟩ = some (.string (wsF ⟨s, o⟩ x).1.Safe) ∧ wx.cell? ⟨b6, 1, none⟩ = some (.string (wsF ⟨s, o⟩ x).1.Open) ∧ wx.cell? ⟨w.heap.size, 0, none⟩ = some (.string ⟨#[]⟩) ∧ wx.cell? ⟨w.heap.size, 1, none⟩ = some (.string ⟨#[]⟩) ∧ wx.frozen? ⟨w.heap.size, 0, none⟩ = false ∧ wx.frozen? ⟨w.heap.size, 1, none⟩ = false ∧ wx.cell? ⟨w.heap.size + 1, 0, none⟩ = some (.string s) ∧ wx.cell? ⟨w.heap.size + 1, 1, none⟩ = some (.string o) ∧ wx.frozen? ⟨w.heap.size + 1, 0, none⟩ = false ∧ wx.frozen? ⟨w.heap.size + 1, 1, none⟩ = false ∧ Cur wx g (N + 24 + 30 * (k : Int)) ∧ OnlyF [g] w wx)
        case first =>
          go_region_held3 (fun w' => w'.cell? ⟨w.heap.size + 1, 0, none⟩ = some (.string s) ∧ w'.cell? ⟨w.heap.size + 1, 1, none⟩ = some (.string o)) (first | exact ⟨m0, m1⟩ | (refine ⟨?_, ?_⟩ <;> (go_simp; done)) | (refine ⟨?_, ?_⟩ <;> (rw [World.cell?_setCell_other _ _ _ _ (by intro e; injection e with e; omega), World.cell?_setCell_other _ _ _ _ (by intro e; injection e with e; omega)]; first | exact m0 | exact m1)) | go_keep) (first | (go_at_call 24; refine (curState_any g _ _ (hcr.below (by repeat' (first | exact bl_refl _ | refine bl_alloc ?_ _ | refine bl_drew ?_ | refine bl_set ?_ (by simp; try omega) _))) (by omega)).mono ?_; rintro e V3 ⟨x, rfl, hx, hv, hc3, hf3⟩; have r0 : V3.cell? ⟨w.heap.size, 0, none⟩ = some (.string ⟨#[]⟩) := hf3.keeps (by go_simp) (by simp only [List.mem_singleton]; omega); have r1 : V3.cell? ⟨w.heap.size, 1, none⟩ = some (.string ⟨#[]⟩) := hf3.keeps (by go_simp) (by simp only [List.mem_singleton]; omega); have m0 : V3.cell? ⟨w.heap.size + 1, 0, none⟩ = some (.string s) := hf3.keeps (by go_simp) (by simp only [List.mem_singleton]; omega); have m1 : V3.cell? ⟨w.heap.size + 1, 1, none⟩ = some (.string o) := hf3.keeps (by go_simp) (by simp only [List.mem_singleton]; omega); have fr0 : V3.frozen? ⟨w.heap.size, 0, none⟩ = false := (hf3.frozen (by simp; try omega) (by simp only [List.mem_singleton]; omega)).trans (by go_simp); have fr1 : V3.frozen? ⟨w.heap.size, 1, none⟩ = false := (hf3.frozen (by simp; try omega) (by simp only [List.mem_singleton]; omega)).trans (by go_simp); have fm0 : V3.frozen? ⟨w.heap.size + 1, 0, none⟩ = false := (hf3.frozen (by simp; try omega) (by simp only [List.mem_singleton]; omega)).trans (by go_simp); have fm1 : V3.frozen? ⟨w.heap.size + 1, 1, none⟩ = false := (hf3.frozen (by simp; try omega) (by simp only [List.mem_singleton]; omega)).trans (by go_simp); have lrV3 : w.heap.size < V3.heap.size := World.block_lt_of_cell? _ _ r0; have lmV3 : w.heap.size + 1 < V3.heap.size := World.block_lt_of_cell? _ _ m0; have hF3 : OnlyF [g] w V3 := hfr.trans ((OnlyF.below (by repeat' (first | exact bl_refl _ | refine bl_alloc ?_ _ | refine bl_drew ?_ | refine bl_set ?_ (by simp; try omega) _))).trans hf3); have lV3 : wr.heap.size ≤ V3.heap.size := (by have hz := hf3.size; (try simp at hz); omega); (first | (refine haveFirst (p := V3.cell? ⟨wr.heap.size, 0, none⟩ = some (.string ⟨#[]⟩)) ?_ (fun z0 => ?_); (focus (refine hf3.keeps ?_ ?_; (focus (go_simp; done)); (focus (simp only [List.mem_singleton]; omega)); done)); refine haveFirst (p := V3.frozen? ⟨wr.heap.size, 0, none⟩ = false) ?_ (fun fz0 => ?_); (focus (refine (hf3.frozen ?_ ?_).trans ?_; (focus (simp; done)); (focus (simp only [List.mem_singleton]; omega)); (focus (go_simp; done)); done)); refine haveFirst (p := V3.cell? ⟨wr.heap.size, 1, none⟩ = some (.string ⟨#[]⟩)) ?_ (fun z1 => ?_); (focus (refine hf3.keeps ?_ ?_; (focus (go_simp; done)); (focus (simp only [List.mem_singleton]; omega)); done)); refine haveFirst (p := V3.frozen? ⟨wr.heap.size, 1, none⟩ = false) ?_ (fun fz1 => ?_); (focus (refine (hf3.frozen ?_ ?_).trans ?_; (focus (simp; done)); (focus (simp only [List.mem_singleton]; omega)); (focus (go_simp; done)); done)); refine haveFirst (p := wr.heap.size < V3.heap.size) (World.block_lt_of_cell? _ _ z0) (fun lz => ?_)) | skip)) | (go_at_call 6; refine (specWriteState_any ⟨s, o⟩ x _ (by simp only []; omega) (by unfold maxLen; omega)).mono ?_; rintro e V4 ⟨rfl, hb4⟩; have hE4 : Below V3.heap.size V3 V4 := bl_trans (by repeat' (first | exact bl_refl _ | refine bl_alloc ?_ _ | refine bl_drew ?_ | refine bl_set ?_ (by simp; try omega) _)) hb4; have hF4 : OnlyF [g] w V4 := hF3.trans (OnlyF.below hE4); have hc4 : Cur V4 g (N + 24 + 30 * (k : Int)) := (hc3.below hE4).mono (by omega); have r0 : V4.cell? ⟨w.heap.size, 0, none⟩ = some (.string ⟨#[]⟩) := cell_later hb4 (by go_simp); have r1 : V4.cell? ⟨w.heap.size, 1, none⟩ = some (.string ⟨#[]⟩) := cell_later hb4 (by go_simp); have m0 : V4.cell? ⟨w.heap.size + 1, 0, none⟩ = some (.string s) := cell_later hb4 (by go_simp); have m1 : V4.cell? ⟨w.heap.size + 1, 1, none⟩ = some (.string o) := cell_later hb4 (by go_simp); have fr0 : V4.frozen? ⟨w.heap.size, 0, none⟩ = false := frozen_later hb4 (by simp; try omega) (by go_simp); have fr1 : V4.frozen? ⟨w.heap.size, 1, none⟩ = false := frozen_later hb4 (by simp; try omega) (by go_simp); have fm0 : V4.frozen? ⟨w.heap.size + 1, 0, none⟩ = false := frozen_later hb4 (by simp; try omega) (by go_simp); have fm1 : V4.frozen? ⟨w.heap.size + 1, 1, none⟩ = false := frozen_later hb4 (by simp; try omega) (by go_simp); have lrV4 : w.heap.size < V4.heap.size := World.block_lt_of_cell? _ _ r0; have lmV4 : w.heap.size + 1 < V4.heap.size := World.block_lt_of_cell? _ _ m0; (first | (refine haveFirst (p := V4.cell? ⟨V3.heap.size, 0, none⟩ = some (.string ⟨#[]⟩)) ?_ (fun z0 => ?_); (focus (refine cell_later hb4 ?_; go_simp; done)); refine haveFirst (p := V4.frozen? ⟨V3.heap.size, 0, none⟩ = false) ?_ (fun fz0 => ?_); (focus (refine frozen_later hb4 ?_ ?_; (focus (simp; done)); (focus (go_simp; done)); done)); refine haveFirst (p := V4.cell? ⟨V3.heap.size, 1, none⟩ = some (.string ⟨#[]⟩)) ?_ (fun z1 => ?_); (focus (refine cell_later hb4 ?_; go_simp; done)); refine haveFirst (p := V4.frozen? ⟨V3.heap.size, 1, none⟩ = false) ?_ (fun fz1 => ?_); (focus (refine frozen_later hb4 ?_ ?_; (focus (simp; done)); (focus (go_simp; done)); done)); refine haveFirst (p := V3.heap.size < V4.heap.size) (World.block_lt_of_cell? _ _ z0) (fun lz => ?_)) | (refine haveFirst (p := V4.cell? ⟨wr.heap.size, 0, none⟩ = some (.string ⟨#[]⟩)) ?_ (fun z0 => ?_); (focus (refine cell_later hb4 ?_; go_simp; done)); refine haveFirst (p := V4.frozen? ⟨wr.heap.size, 0, none⟩ = false) ?_ (fun fz0 => ?_); (focus (refine frozen_later hb4 ?_ ?_; (focus (simp; omega)); (focus (go_simp; done)); done)); refine haveFirst (p := V4.cell? ⟨wr.heap.size, 1, none⟩ = some (.string ⟨#[]⟩)) ?_ (fun z1 => ?_); (focus (refine cell_later hb4 ?_; go_simp; done)); refine haveFirst (p := V4.frozen? ⟨wr.heap.size, 1, none⟩ = false) ?_ (fun fz1 => ?_); (focus (refine frozen_later hb4 ?_ ?_; (focus (simp; omega)); (focus (go_simp; done)); done)); refine haveFirst (p := wr.heap.size < V4.heap.size) (World.block_lt_of_cell? _ _ z0) (fun lz => ?_)) | skip)))
          all_goals (go_wp2_with fail; go_meet)
          all_goals (refine ⟨x, _, rfl, rfl, by omega, (by go_simp), (by go_simp), (by go_simp), (by go_simp), (by go_simp), (by go_simp), (by go_simp), (by go_simp), (by go_simp), (by go_simp), ?_, ?_⟩)
          all_goals (first | (focus (repeat' (first | exact hc4 | refine Cur.set ?_ (by omega) _ _ | refine Cur.alloc ?_ _)); done) | (focus (repeat' (first | exact hF4 | refine OnlyF.setN ?_ (by omega) _ _ | refine OnlyF.alloc ?_ _)); done))
        case rest =>
          obtain ⟨x, b6, rfl, rfl, hb6, d0, d1, r0, r1, fr0, fr1, m0, m1, fm0, fm1, hcc, hfc⟩ := hcut
          have lr : w.heap.size < wc.heap.size := World.block_lt_of_cell? _ _ r0
          have lm : w.heap.size + 1 < wc.heap.size := World.block_lt_of_cell? _ _ m0
          have lb : b6 < wc.heap.size := World.block_lt_of_cell? _ _ d0
          have hsz := wsF_size (d := ⟨s, o⟩) (x := x)
          obtain ⟨ww, hww⟩ : ∃ ww, ww = wsF ⟨s, o⟩ x := ⟨_, rfl⟩
          rw [← hww] at d0 d1 hsz
          have hww2 : (wsF ⟨s, o⟩ x).2 = ww.2 := by rw [hww]
          rw [hww2]
          clear hww hww2
          obtain ⟨⟨ds, dp⟩, db⟩ := ww
          simp only [] at d0 d1 hsz
          have n1 : ¬ (b6 = w.heap.size) := by omega
          have n2 : ¬ (b6 = w.heap.size + 1) := by omega
          cases db
          · have hs5 : s.size + o.size ≤ 21 * (k + 1) := by omega
            go_wp2_with fail
            refine (one_any g _ 5 _ hcc (by omega) (by omega)).mono ?_
            rintro e V5 ⟨b, rfl, hc5, hf5⟩
            replace r0 : V5.cell? ⟨w.heap.size, 0, none⟩ = some (.string ⟨#[]⟩) := hf5.keeps (by go_simp) (by simp only [List.mem_singleton]; omega)
            replace r1 : V5.cell? ⟨w.heap.size, 1, none⟩ = some (.string ⟨#[]⟩) := hf5.keeps (by go_simp) (by simp only [List.mem_singleton]; omega)
            replace m0 : V5.cell? ⟨w.heap.size + 1, 0, none⟩ = some (.string s) := hf5.keeps (by go_simp) (by simp only [List.mem_singleton]; omega)
            replace m1 : V5.cell? ⟨w.heap.size + 1, 1, none⟩ = some (.string o) := hf5.keeps (by go_simp) (by simp only [List.mem_singleton]; omega)
            replace fr0 : V5.frozen? ⟨w.heap.size, 0, none⟩ = false := (hf5.frozen (by simp; try omega) (by simp only [List.mem_singleton]; omega)).trans (by go_simp)
            replace fr1 : V5.frozen? ⟨w.heap.size, 1, none⟩ = false := (hf5.frozen (by simp; try omega) (by simp only [List.mem_singleton]; omega)).trans (by go_simp)
            replace fm0 : V5.frozen? ⟨w.heap.size + 1, 0, none⟩ = false := (hf5.frozen (by simp; try omega) (by simp only [List.mem_singleton]; omega)).trans (by go_simp)
            replace fm1 : V5.frozen? ⟨w.heap.size + 1, 1, none⟩ = false := (hf5.frozen (by simp; try omega) (by simp only [List.mem_singleton]; omega)).trans (by go_simp)
            have lr5 : w.heap.size < V5.heap.size := World.block_lt_of_cell? _ _ r0
            have lm5 : w.heap.size + 1 < V5.heap.size := World.block_lt_of_cell? _ _ m0
            have hF5 : OnlyF [g] w V5 := OnlyF.trans (by repeat' (first | exact hfc | refine OnlyF.setN ?_ (by omega) _ _)) hf5
            have a1 : ¬ (9223372036854775807 < s.size + o.size) := by omega
            cases b
            all_goals
              go_wp2
              go_roundw
              case measure => simp [intOf]; omega
              case rel =>
                first | exact ⟨k + 1, s, o, by omega, by go_num, by omega, r0, r1, fr0, fr1, m0, m1, fm0, fm1, hc5.mono (by omega), hF5⟩ | (refine ⟨k + 1, s ++ o, ⟨#[]⟩, by omega, by go_num, by rw [ByteArray.size_append]; exact (by omega : _ ≤ _), (by go_simp), (by go_simp), (by go_simp), (by go_simp), (by go_simp), (by go_simp), (by go_simp), (by go_simp), ?_, ?_⟩; (repeat' (first | exact hc5.mono (by omega) | refine Cur.set ?_ (by omega) _ _)); (repeat' (first | exact hF5 | refine OnlyF.setN ?_ (by omega) _ _)))
          · have hs5 : ds.size + dp.size ≤ 21 * (k + 1) := by have := hsz rfl; omega
            go_wp2_with fail
            refine (one_any g _ 5 _ (hcc.set (by omega) _ _ |>.set (by omega) _ _) (by omega) (by omega)).mono ?_
            rintro e V5 ⟨b, rfl, hc5, hf5⟩
            replace r0 : V5.cell? ⟨w.heap.size, 0, none⟩ = some (.string ⟨#[]⟩) := hf5.keeps (by go_simp) (by simp only [List.mem_singleton]; omega)
            replace r1 : V5.cell? ⟨w.heap.size, 1, none⟩ = some (.string ⟨#[]⟩) := hf5.keeps (by go_simp) (by simp only [List.mem_singleton]; omega)
            replace m0 : V5.cell? ⟨w.heap.size + 1, 0, none⟩ = some (.string ds) := hf5.keeps (by go_simp) (by simp only [List.mem_singleton]; omega)
            replace m1 : V5.cell? ⟨w.heap.size + 1, 1, none⟩ = some (.string dp) := hf5.keeps (by go_simp) (by simp only [List.mem_singleton]; omega)
            replace fr0 : V5.frozen? ⟨w.heap.size, 0, none⟩ = false := (hf5.frozen (by simp; try omega) (by simp only [List.mem_singleton]; omega)).trans (by go_simp)
            replace fr1 : V5.frozen? ⟨w.heap.size, 1, none⟩ = false := (hf5.frozen (by simp; try omega) (by simp only [List.mem_singleton]; omega)).trans (by go_simp)
            replace fm0 : V5.frozen? ⟨w.heap.size + 1, 0, none⟩ = false := (hf5.frozen (by simp; try omega) (by simp only [List.mem_singleton]; omega)).trans (by go_simp)
            replace fm1 : V5.frozen? ⟨w.heap.size + 1, 1, none⟩ = false := (hf5.frozen (by simp; try omega) (by simp only [List.mem_singleton]; omega)).trans (by go_simp)
            have lr5 : w.heap.size < V5.heap.size := World.block_lt_of_cell? _ _ r0
            have lm5 : w.heap.size + 1 < V5.heap.size := World.block_lt_of_cell? _ _ m0
            have hF5 : OnlyF [g] w V5 := OnlyF.trans (by repeat' (first | exact hfc | refine OnlyF.setN ?_ (by omega) _ _)) hf5
            have a1 : ¬ (9223372036854775807 < ds.size + dp.size) := by omega
            cases b
            all_goals
              go_wp2
              go_roundw
              case measure => simp [intOf]; omega
              case rel =>
                first | exact ⟨k + 1, ds, dp, by omega, by go_num, by omega, r0, r1, fr0, fr1, m0, m1, fm0, fm1, hc5.mono (by omega), hF5⟩ | (refine ⟨k + 1, ds ++ dp, ⟨#[]⟩, by omega, by go_num, by rw [ByteArray.size_append]; exact (by omega : _ ≤ _), (by go_simp), (by go_simp), (by go_simp), (by go_simp), (by go_simp), (by go_simp), (by go_simp), (by go_simp), ?_, ?_⟩; (repeat' (first | exact hc5.mono (by omega) | refine Cur.set ?_ (by omega) _ _)); (repeat' (first | exact hF5 | refine OnlyF.setN ?_ (by omega) _ _)))
      · have hkd : decide ((k : Int) < n) = false := by simp; omega
        go_wp2_with fail
        refine (pick_any g _ 24 _ (hcr.below (by repeat' (first | exact bl_refl _ | refine bl_alloc ?_ _ | refine bl_drew ?_ | refine bl_set ?_ (by simp; try omega) _))) (by omega) (by omega)).mono ?_
        rintro e V6 ⟨q, rfl, hq, hc6, hf6⟩
        replace r0 : V6.cell? ⟨w.heap.size, 0, none⟩ = some (.string ⟨#[]⟩) := hf6.keeps (by go_simp) (by simp only [List.mem_singleton]; omega)
        replace r1 : V6.cell? ⟨w.heap.size, 1, none⟩ = some (.string ⟨#[]⟩) := hf6.keeps (by go_simp) (by simp only [List.mem_singleton]; omega)
        replace fr0 : V6.frozen? ⟨w.heap.size, 0, none⟩ = false := (hf6.frozen (by simp; try omega) (by simp only [List.mem_singleton]; omega)).trans (by go_simp)
        replace fr1 : V6.frozen? ⟨w.heap.size, 1, none⟩ = false := (hf6.frozen (by simp; try omega) (by simp only [List.mem_singleton]; omega)).trans (by go_simp)
        have lr6 : w.heap.size < V6.heap.size := World.block_lt_of_cell? _ _ r0
        replace m0 : V6.cell? ⟨w.heap.size + 1, 0, none⟩ = some (.string s) := hf6.keeps (by go_simp) (by simp only [List.mem_singleton]; omega)
        replace m1 : V6.cell? ⟨w.heap.size + 1, 1, none⟩ = some (.string o) := hf6.keeps (by go_simp) (by simp only [List.mem_singleton]; omega)
        replace fm0 : V6.frozen? ⟨w.heap.size + 1, 0, none⟩ = false := (hf6.frozen (by simp; try omega) (by simp only [List.mem_singleton]; omega)).trans (by go_simp)
        replace fm1 : V6.frozen? ⟨w.heap.size + 1, 1, none⟩ = false := (hf6.frozen (by simp; try omega) (by simp only [List.mem_singleton]; omega)).trans (by go_simp)
        have lm6 : w.heap.size + 1 < V6.heap.size := World.block_lt_of_cell? _ _ m0
        have lg6 : g < V6.heap.size := hc6.lt
        have hF6 : OnlyF [g] w V6 := hfr.trans ((OnlyF.below (a := wr) (by repeat' (first | exact bl_refl _ | refine bl_alloc ?_ _ | refine bl_drew ?_ | refine bl_set ?_ (by simp; try omega) _))).trans hf6)
        have hq0 := hq.1
        clear hq
        by_cases hq1 : q = 0
        · subst hq1
          go_wp2_with fail
          refine (spoilt_any g _ o ⟨#[61, 112, 49, 57, 10]⟩ _ (hc6.below (by repeat' (first | exact bl_refl _ | refine bl_alloc ?_ _ | refine bl_drew ?_ | refine bl_set ?_ (by simp; try omega) _))) (by omega) (by omega) (by decide) (by decide)).mono ?_
          rintro e V7 ⟨t, rfl, ht, hc7, hf7⟩
          replace r0 : V7.cell? ⟨w.heap.size, 0, none⟩ = some (.string ⟨#[]⟩) := hf7.keeps (by go_simp) (by simp only [List.mem_singleton]; omega)
          replace r1 : V7.cell? ⟨w.heap.size, 1, none⟩ = some (.string ⟨#[]⟩) := hf7.keeps (by go_simp) (by simp only [List.mem_singleton]; omega)
          replace fr0 : V7.frozen? ⟨w.heap.size, 0, none⟩ = false := (hf7.frozen (by simp; try omega) (by simp only [List.mem_singleton]; omega)).trans (by go_simp)
          replace fr1 : V7.frozen? ⟨w.heap.size, 1, none⟩ = false := (hf7.frozen (by simp; try omega) (by simp only [List.mem_singleton]; omega)).trans (by go_simp)
          have lr7 : w.heap.size < V7.heap.size := World.block_lt_of_cell? _ _ r0
          replace m0 : V7.cell? ⟨w.heap.size + 1, 0, none⟩ = some (.string s) := hf7.keeps (by go_simp) (by simp only [List.mem_singleton]; omega)
          replace m1 : V7.cell? ⟨w.heap.size + 1, 1, none⟩ = some (.string o) := hf7.keeps (by go_simp) (by simp only [List.mem_singleton]; omega)
          replace fm0 : V7.frozen? ⟨w.heap.size + 1, 0, none⟩ = false := (hf7.frozen (by simp; try omega) (by simp only [List.mem_singleton]; omega)).trans (by go_simp)
          replace fm1 : V7.frozen? ⟨w.heap.size + 1, 1, none⟩ = false := (hf7.frozen (by simp; try omega) (by simp only [List.mem_singleton]; omega)).trans (by go_simp)
          have lm7 : w.heap.size + 1 < V7.heap.size := World.block_lt_of_cell? _ _ m0
          have lg7 : g < V7.heap.size := hc7.lt
          have hF7 : OnlyF [g] w V7 := hF6.trans ((OnlyF.below (a := V6) (by repeat' (first | exact bl_refl _ | refine bl_alloc ?_ _ | refine bl_drew ?_ | refine bl_set ?_ (by simp; try omega) _))).trans hf7)
          go_wp2
          refine bodyPost_ret (v := .agg #[.string s, .string t]) (by simp [results, Tryz.results23, go_sem, r0, r1]; try rfl) rfl ?_
          refine ⟨⟨s, t⟩, rfl, (by simp only []; omega), ?_, ?_⟩
          · repeat' (first | exact hc7.mono (by omega) | refine Cur.set ?_ (by omega) _ _)
          · repeat' (first | exact hF7 | refine OnlyF.setN ?_ (by omega) _ _)
        by_cases hq2 : q = 1
        · subst hq2
          go_wp2_with fail
          refine (spoilt_any g _ s ⟨#[61, 112, 49, 57, 10]⟩ _ (hc6.below (by repeat' (first | exact bl_refl _ | refine bl_alloc ?_ _ | refine bl_drew ?_ | refine bl_set ?_ (by simp; try omega) _))) (by omega) (by omega) (by decide) (by decide)).mono ?_
          rintro e V7 ⟨t, rfl, ht, hc7, hf7⟩
          replace r0 : V7.cell? ⟨w.heap.size, 0, none⟩ = some (.string ⟨#[]⟩) := hf7.keeps (by go_simp) (by simp only [List.mem_singleton]; omega)
          replace r1 : V7.cell? ⟨w.heap.size, 1, none⟩ = some (.string ⟨#[]⟩) := hf7.keeps (by go_simp) (by simp only [List.mem_singleton]; omega)
          replace fr0 : V7.frozen? ⟨w.heap.size, 0, none⟩ = false := (hf7.frozen (by simp; try omega) (by simp only [List.mem_singleton]; omega)).trans (by go_simp)
          replace fr1 : V7.frozen? ⟨w.heap.size, 1, none⟩ = false := (hf7.frozen (by simp; try omega) (by simp only [List.mem_singleton]; omega)).trans (by go_simp)
          have lr7 : w.heap.size < V7.heap.size := World.block_lt_of_cell? _ _ r0
          replace m0 : V7.cell? ⟨w.heap.size + 1, 0, none⟩ = some (.string s) := hf7.keeps (by go_simp) (by simp only [List.mem_singleton]; omega)
          replace m1 : V7.cell? ⟨w.heap.size + 1, 1, none⟩ = some (.string o) := hf7.keeps (by go_simp) (by simp only [List.mem_singleton]; omega)
          replace fm0 : V7.frozen? ⟨w.heap.size + 1, 0, none⟩ = false := (hf7.frozen (by simp; try omega) (by simp only [List.mem_singleton]; omega)).trans (by go_simp)
          replace fm1 : V7.frozen? ⟨w.heap.size + 1, 1, none⟩ = false := (hf7.frozen (by simp; try omega) (by simp only [List.mem_singleton]; omega)).trans (by go_simp)
          have lm7 : w.heap.size + 1 < V7.heap.size := World.block_lt_of_cell? _ _ m0
          have lg7 : g < V7.heap.size := hc7.lt
          have hF7 : OnlyF [g] w V7 := hF6.trans ((OnlyF.below (a := V6) (by repeat' (first | exact bl_refl _ | refine bl_alloc ?_ _ | refine bl_drew ?_ | refine bl_set ?_ (by simp; try omega) _))).trans hf7)
          go_wp2
          refine bodyPost_ret (v := .agg #[.string t, .string o]) (by simp [results, Tryz.results23, go_sem, r0, r1]; try rfl) rfl ?_
          refine ⟨⟨t, o⟩, rfl, (by simp only []; omega), ?_, ?_⟩
          · repeat' (first | exact hc7.mono (by omega) | refine Cur.set ?_ (by omega) _ _)
          · repeat' (first | exact hF7 | refine OnlyF.setN ?_ (by omega) _ _)
        go_wp2
        refine bodyPost_ret (v := .agg #[.string s, .string o]) (by simp [results, Tryz.results23, go_sem, r0, r1]; try rfl) rfl ?_
        refine ⟨⟨s, o⟩, rfl, (by simp only []; omega), ?_, ?_⟩
        · repeat' (first | exact hc6.mono (by omega) | refine Cur.set ?_ (by omega) _ _)
        · repeat' (first | exact hF6 | refine OnlyF.setN ?_ (by omega) _ _)
end Go.Proofs.YtenlbeghjabpkaaGreatDoor

namespace Go.Proofs.YtenlbeghjabpkaaGreatDoor
open Go.RowKit

theorem lies1 (g : Nat) : Lies [g] g (g + 1) := fun k hk => by have := List.mem_singleton.1 hk; omega
/-- what a drawing function is handed: the code -/
structure CodeIs (w : World) (A : Option Addr) (n : Nat) (cs : List Byt) : Prop where
  sl : Sl w A n cs
  le : (n : Int) ≤ 9223372036854775807
  ok : ∀ x, x ∈ cs → 0 ≤ x.v ∧ x.v ≤ 255
theorem CodeIs.below {w w' : World} {A : Option Addr} {n : Nat} {cs : List Byt} (h : CodeIs w A n cs) (hb : Below w.heap.size w w') : CodeIs w' A n cs := ⟨h.sl.below hb, h.le, h.ok⟩
theorem CodeIs.cur {W : World} {E : TypeId} {A : Option Addr} {n c g : Nat} {cs : List Byt} (h : CodeIs W A n cs) (hg : g = W.heap.size) : Cur (W.alloc (.cells #[.slice A n c, .int .i64 0, .int .u64 0] E)) g 0 := Cur.init' hg h.sl h.le h.ok
end Go.Proofs.YtenlbeghjabpkaaGreatDoor

namespace Go.Proofs.YtenlbeghjabpkaaGreatDoor
open Go.RowKit

end Go.Proofs.YtenlbeghjabpkaaGreatDoor

namespace Go.Proofs.YtenlbeghjabpkaaGreatDoor
open Go.RowKit

set_option maxRecDepth 100000 in
set_option maxHeartbeats 8000000 in
theorem drawWrite_any (A : Option Addr) (n c : Nat) (cs : List Byt) (w : World) (hcode : CodeIs w A n cs) :
    Calls Tryz.prog 4 #[.slice A n c] w fun e w' => ∃ (d : Diary) (x : State), e = .returned (.tuple #[.agg #[.string d.Safe, .string d.Open], .agg #[.string x.Name, .int .i64 x.Value]]) ∧ d.Safe.size + d.Open.size ≤ 1200 ∧ x.Name.size ≤ 7 ∧ (-1 ≤ x.Value ∧ x.Value ≤ 10000) ∧ Below w.heap.size w w' := by
  go_enter Tryz.func4, Tryz.ntmps4
  go_wp2_with fail
  refine (diary_any (w.heap.size + 2) 0 _ ((hcode.below (bl_alloc (bl_alloc (bl_refl _) _) _)).cur (by simp)) (by omega)).mono ?_
  rintro e V1 ⟨d, rfl, hsz, hc1, hf1⟩
  have r0 : V1.cell? ⟨w.heap.size, 0, none⟩ = some (.string ⟨#[]⟩) := hf1.keeps (by go_simp) (by simp only [List.mem_singleton]; omega)
  have r1 : V1.cell? ⟨w.heap.size, 1, none⟩ = some (.string ⟨#[]⟩) := hf1.keeps (by go_simp) (by simp only [List.mem_singleton]; omega)
  have fr0 : V1.frozen? ⟨w.heap.size, 0, none⟩ = false := (hf1.frozen (by simp; try omega) (by simp only [List.mem_singleton]; omega)).trans (by go_simp)
  have fr1 : V1.frozen? ⟨w.heap.size, 1, none⟩ = false := (hf1.frozen (by simp; try omega) (by simp only [List.mem_singleton]; omega)).trans (by go_simp)
  have lrV1 : w.heap.size < V1.heap.size := World.block_lt_of_cell? _ _ r0
  have q0 : V1.cell? ⟨w.heap.size + 1, 0, none⟩ = some (.string ⟨#[]⟩) := hf1.keeps (by go_simp) (by simp only [List.mem_singleton]; omega)
  have q1 : V1.cell? ⟨w.heap.size + 1, 1, none⟩ = some (.int .i64 0) := hf1.keeps (by go_simp) (by simp only [List.mem_singleton]; omega)
  have fq0 : V1.frozen? ⟨w.heap.size + 1, 0, none⟩ = false := (hf1.frozen (by simp; try omega) (by simp only [List.mem_singleton]; omega)).trans (by go_simp)
  have fq1 : V1.frozen? ⟨w.heap.size + 1, 1, none⟩ = false := (hf1.frozen (by simp; try omega) (by simp only [List.mem_singleton]; omega)).trans (by go_simp)
  have lqV1 : w.heap.size + 1 < V1.heap.size := World.block_lt_of_cell? _ _ q0
  have hk1 : Below w.heap.size w V1 := below_only (by repeat' (first | exact bl_refl _ | refine bl_alloc ?_ _)) hf1 (lies1 (w.heap.size + 2)) (by omega)
  go_wp2_with fail
  refine (curState_any (w.heap.size + 2) _ _ hc1 (by omega)).mono ?_
  rintro e V2 ⟨x, rfl, hx, hv, hc2, hf2⟩
  have r0 : V2.cell? ⟨w.heap.size, 0, none⟩ = some (.string ⟨#[]⟩) := hf2.keeps (by go_simp) (by simp only [List.mem_singleton]; omega)
  have r1 : V2.cell? ⟨w.heap.size, 1, none⟩ = some (.string ⟨#[]⟩) := hf2.keeps (by go_simp) (by simp only [List.mem_singleton]; omega)
  have fr0 : V2.frozen? ⟨w.heap.size, 0, none⟩ = false := (hf2.frozen (by simp; try omega) (by simp only [List.mem_singleton]; omega)).trans (by go_simp)
  have fr1 : V2.frozen? ⟨w.heap.size, 1, none⟩ = false := (hf2.frozen (by simp; try omega) (by simp only [List.mem_singleton]; omega)).trans (by go_simp)
  have lrV2 : w.heap.size < V2.heap.size := World.block_lt_of_cell? _ _ r0
  have q0 : V2.cell? ⟨w.heap.size + 1, 0, none⟩ = some (.string ⟨#[]⟩) := hf2.keeps (by go_simp) (by simp only [List.mem_singleton]; omega)
  have q1 : V2.cell? ⟨w.heap.size + 1, 1, none⟩ = some (.int .i64 0) := hf2.keeps (by go_simp) (by simp only [List.mem_singleton]; omega)
  have fq0 : V2.frozen? ⟨w.heap.size + 1, 0, none⟩ = false := (hf2.frozen (by simp; try omega) (by simp only [List.mem_singleton]; omega)).trans (by go_simp)
  have fq1 : V2.frozen? ⟨w.heap.size + 1, 1, none⟩ = false := (hf2.frozen (by simp; try omega) (by simp only [List.mem_singleton]; omega)).trans (by go_simp)
  have lqV2 : w.heap.size + 1 < V2.heap.size := World.block_lt_of_cell? _ _ q0
  have hk2 : Below w.heap.size w V2 := below_only hk1 hf2 (lies1 (w.heap.size + 2)) (by omega)
  go_wp2
  refine bodyPost_ret (v := .tuple #[.agg #[.string d.Safe, .string d.Open], .agg #[.string x.Name, .int .i64 x.Value]]) (by simp [results, Tryz.results4, go_sem, r0, r1, q0, q1]; try rfl) rfl ?_
  refine ⟨d, x, rfl, hsz, hx, hv, ?_⟩
  repeat' (first | exact hk2 | refine bl_set ?_ (by first | exact Nat.le_refl _ | (simp; done) | (simp; omega)) _)
set_option maxRecDepth 100000 in
set_option maxHeartbeats 8000000 in
theorem drawLine_any (A : Option Addr) (n c : Nat) (cs : List Byt) (w : World) (hcode : CodeIs w A n cs) :
    Calls Tryz.prog 13 #[.slice A n c] w fun e w' => ∃ (k : Int) (x : State), e = .returned (.tuple #[.int .i64 k, .agg #[.string x.Name, .int .i64 x.Value]]) ∧ (-1 ≤ k ∧ k ≤ 40) ∧ x.Name.size ≤ 7 ∧ (-1 ≤ x.Value ∧ x.Value ≤ 10000) ∧ Below w.heap.size w w' := by
  go_enter Tryz.func13, Tryz.ntmps13
  go_wp2_with fail
  refine (among_any (w.heap.size + 1) 0 _ _ _ [-1, 40] _ (((hcode.below (bl_alloc (bl_refl _) _)).cur (by simp)).below (by repeat' (first | exact bl_refl _ | refine bl_alloc ?_ _))) (by omega) (by exact sl_lit' (by simp) rfl rfl) (by omega) (by omega) (by rintro b o h _; injection h with h; injection h with h1; (try simp at h1); omega)).mono ?_
  rintro e V1 ⟨p, rfl, hp, hc1, hf1⟩
  have lg1 := hc1.lt
  have q0 : V1.cell? ⟨w.heap.size, 0, none⟩ = some (.string ⟨#[]⟩) := hf1.keeps (by go_simp) (by simp only [List.mem_singleton]; omega)
  have q1 : V1.cell? ⟨w.heap.size, 1, none⟩ = some (.int .i64 0) := hf1.keeps (by go_simp) (by simp only [List.mem_singleton]; omega)
  have fq0 : V1.frozen? ⟨w.heap.size, 0, none⟩ = false := (hf1.frozen (by simp; try omega) (by simp only [List.mem_singleton]; omega)).trans (by go_simp)
  have fq1 : V1.frozen? ⟨w.heap.size, 1, none⟩ = false := (hf1.frozen (by simp; try omega) (by simp only [List.mem_singleton]; omega)).trans (by go_simp)
  have lqV1 : w.heap.size < V1.heap.size := World.block_lt_of_cell? _ _ q0
  have hk1 : Below w.heap.size w V1 := below_only (by repeat' (first | exact bl_refl _ | refine bl_alloc ?_ _)) hf1 (lies1 (w.heap.size + 1)) (by omega)
  go_wp2_with fail
  refine (among_any (w.heap.size + 1) _ _ _ _ [0, 1, 7, 39, p] _ (hc1.below (by repeat' (first | exact bl_refl _ | refine bl_alloc ?_ _))) (by omega) (by exact sl_lit' (by simp) rfl rfl) (by omega) (by omega) (by rintro b o h _; injection h with h; injection h with h1; (try simp at h1); omega)).mono ?_
  rintro e V2 ⟨k, rfl, hk, hc2, hf2⟩
  have lg2 := hc2.lt
  have q0 : V2.cell? ⟨w.heap.size, 0, none⟩ = some (.string ⟨#[]⟩) := hf2.keeps (by go_simp) (by simp only [List.mem_singleton]; omega)
  have q1 : V2.cell? ⟨w.heap.size, 1, none⟩ = some (.int .i64 0) := hf2.keeps (by go_simp) (by simp only [List.mem_singleton]; omega)
  have fq0 : V2.frozen? ⟨w.heap.size, 0, none⟩ = false := (hf2.frozen (by simp; try omega) (by simp only [List.mem_singleton]; omega)).trans (by go_simp)
  have fq1 : V2.frozen? ⟨w.heap.size, 1, none⟩ = false := (hf2.frozen (by simp; try omega) (by simp only [List.mem_singleton]; omega)).trans (by go_simp)
  have lqV2 : w.heap.size < V2.heap.size := World.block_lt_of_cell? _ _ q0
  have hk2 : Below w.heap.size w V2 := below_only (bl_trans hk1 (by repeat' (first | exact bl_refl _ | refine bl_alloc ?_ _))) hf2 (lies1 (w.heap.size + 1)) (by omega)
  have hkb : -1 ≤ k ∧ k ≤ 40 := by
    simp only [List.mem_cons, List.not_mem_nil, or_false] at hp hk
    rcases hk with rfl | rfl | rfl | rfl | rfl <;> rcases hp with rfl | rfl <;> omega
  clear hp hk
  go_wp2_with fail
  refine (curState_any (w.heap.size + 1) _ _ hc2 (by omega)).mono ?_
  rintro e V3 ⟨x, rfl, hx, hv, hc3, hf3⟩
  have q0 : V3.cell? ⟨w.heap.size, 0, none⟩ = some (.string ⟨#[]⟩) := hf3.keeps (by go_simp) (by simp only [List.mem_singleton]; omega)
  have q1 : V3.cell? ⟨w.heap.size, 1, none⟩ = some (.int .i64 0) := hf3.keeps (by go_simp) (by simp only [List.mem_singleton]; omega)
  have fq0 : V3.frozen? ⟨w.heap.size, 0, none⟩ = false := (hf3.frozen (by simp; try omega) (by simp only [List.mem_singleton]; omega)).trans (by go_simp)
  have fq1 : V3.frozen? ⟨w.heap.size, 1, none⟩ = false := (hf3.frozen (by simp; try omega) (by simp only [List.mem_singleton]; omega)).trans (by go_simp)
  have lqV3 : w.heap.size < V3.heap.size := World.block_lt_of_cell? _ _ q0
  have hk3 : Below w.heap.size w V3 := below_only hk2 hf3 (lies1 (w.heap.size + 1)) (by omega)
  go_wp2
  refine bodyPost_ret (v := .tuple #[.int .i64 k, .agg #[.string x.Name, .int .i64 x.Value]]) (by simp [results, Tryz.results13, go_sem, q0, q1]; try rfl) rfl ?_
  refine ⟨k, x, rfl, hkb, hx, hv, ?_⟩
  repeat' (first | exact hk3 | refine bl_set ?_ (by first | exact Nat.le_refl _ | (simp; done) | (simp; omega)) _)
end Go.Proofs.YtenlbeghjabpkaaGreatDoor

namespace Go.Proofs.YtenlbeghjabpkaaGreatDoor
open Go.RowKit

theorem headN_len {n : Int} {x : State} (h0 : 0 ≤ n) (h1 : n ≤ 99) (hs : stateB x = true) : (headB n x).size ≤ 15 := by
  simp only [stateB, Bool.and_eq_true] at hs
  have h2 := nameB_size hs.1
  have h3 := inB_iff.1 hs.2
  have l1 := it_len (n := n) h0 1 (by omega)
  have l2 := it_len (n := x.Value) h3.1 3 (by omega)
  simp only [headB, ByteArray.size_append]
  have : (⟨#[61]⟩ : ByteArray).size = 1 := rfl
  omega
theorem lineN_len {n : Int} {x : State} (h0 : 0 ≤ n) (h1 : n ≤ 99) (hs : stateB x = true) : (lineB n x).size ≤ 21 := by
  have h1 := headN_len h0 h1 hs
  have h2 := sumL_bd (headB n x).data.toList
  have l1 := it_len (n := sumL (headB n x).data.toList) h2.1 4 (by omega)
  simp only [lineB, ByteArray.size_append]
  have : (⟨#[10]⟩ : ByteArray).size = 1 := rfl
  omega
set_option maxRecDepth 100000 in
set_option maxHeartbeats 2000000 in
theorem jnLineN_any (n : Int) (x : State) (w : World) (hn0 : 0 ≤ n) (hn1 : n ≤ 99) (hs : stateB x = true) :
    Calls Tryz.prog 32 #[.int .i64 n, .agg #[.string x.Name, .int .i64 x.Value]] w fun e w' => e = .returned (.string (lineB n x)) ∧ Below w.heap.size w w' := by
  have hk := headN_len hn0 hn1 hs
  unfold lineB headB
  unfold headB at hk
  obtain ⟨hx, hv0, hv1⟩ : x.Name.size ≤ 6 ∧ 0 ≤ x.Value ∧ x.Value ≤ 9999 := by
    simp only [stateB, Bool.and_eq_true] at hs
    exact ⟨nameB_size hs.1, inB_iff.1 hs.2⟩
  clear hs
  have hs1 := it_len hn0 1 (by omega)
  have hs2 := it_len hv0 3 (by omega)
  go_enter Tryz.func32, Tryz.ntmps32
  go_wp2_with fail
  refine wp_region_grow (by kernel_rfl) (by kernel_rfl) (fun X hX => ?_)
  have hbX : Below w.heap.size w X := by rw [hX]; exact bl_alloc (bl_refl _) _
  have q0 : ∀ g : Gw X, g.val.cell? ⟨w.heap.size, 0, none⟩ = some (.string x.Name) := Gw.cell (by rw [hX]; go_simp)
  have q1 : ∀ g : Gw X, g.val.cell? ⟨w.heap.size, 1, none⟩ = some (.int .i64 x.Value) := Gw.cell (by rw [hX]; go_simp)
  have HX := Lib.hid hX
  have Hk := Lib.hid hk
  clear hX hk
  repeat (go_big_quiet_step (exact Calls.grow_of (l1Num_any _ _ (by omega) (by omega))))
  refine wpGrow_nil (fun V hV => ?_)
  have hbV := bl_trans hbX hV
  have hk := Hk.out
  obtain ⟨H, hH⟩ : ∃ H, H = itB n ++ ⟨#[61]⟩ ++ x.Name ++ ⟨#[61]⟩ ++ itB x.Value ++ ⟨#[61]⟩ := ⟨_, rfl⟩
  have hl : H.size ≤ 15 := by rw [hH]; exact hk
  rw [← hH]
  have HH := Lib.hid hH
  clear q0 q1 hH hk Hk hs1 hs2 hn0 hn1 hv0 hv1 hx
  obtain ⟨hq0, hq1⟩ := sumL_bd H.data.toList
  have hs3 := it_len hq0 4 (by omega)
  generalize hqq : sumL H.data.toList = q at hq0 hq1 hs3
  have HQ := Lib.hid hqq
  clear hqq
  go_wp2_with fail
  refine (jnSum_any H _ (by unfold maxLen; omega)).mono ?_
  rintro e V1 ⟨rfl, rfl⟩
  rw [HQ.out]
  go_wp2_with fail
  refine (l1Num_any q _ (by omega) (by omega)).mono ?_
  rintro e V2 ⟨rfl, hb2⟩
  go_wp2
  go_ret
  exact ⟨by show Ending.returned (.string (H ++ itB q ++ ⟨#[10]⟩)) = _; rw [← HQ.out, HH.out], bl_trans hbV hb2⟩
set_option maxRecDepth 100000 in
set_option maxHeartbeats 8000000 in
theorem drawParse_any (A : Option Addr) (n c : Nat) (cs : List Byt) (w : World) (hcode : CodeIs w A n cs) :
    Calls Tryz.prog 16 #[.slice A n c] w fun e w' => ∃ s : ByteArray, e = .returned (.string s) ∧ s.size ≤ 100 ∧ Below w.heap.size w w' := by
  go_enter Tryz.func16, Tryz.ntmps16
  go_wp2_with fail
  refine (curState_any w.heap.size 0 _ (hcode.cur (by simp)) (by omega)).mono ?_
  rintro e V1 ⟨x, rfl, hx, hv, hc1, hf1⟩
  have lg1 := hc1.lt
  have hk1 : Below w.heap.size w V1 := below_only (bl_alloc (bl_refl _) _) hf1 (lies1 w.heap.size) (Nat.le_refl _)
  obtain ⟨sb, hsb⟩ : ∃ b, stateB x = b := ⟨_, rfl⟩
  have hjs : ∀ W, Calls Tryz.prog 29 #[.agg #[.string x.Name, .int .i64 x.Value]] W fun e w' => e = .returned (.bool sb) ∧ Below W.heap.size W w' := fun W => by rw [← hsb]; exact jnState_any x W (by unfold maxLen; omega)
  have Hsb := Lib.hid hsb
  have Hjs := Lib.hid hjs
  clear hsb hjs
  go_wp2_with fail
  refine (Hjs.out _).mono ?_
  rintro e V2 ⟨rfl, hb2⟩
  have m0 : V2.cell? ⟨V1.heap.size, 0, none⟩ = some (.string x.Name) := cell_later hb2 (by go_simp)
  have m1 : V2.cell? ⟨V1.heap.size, 1, none⟩ = some (.int .i64 x.Value) := cell_later hb2 (by go_simp)
  have lm2 : V1.heap.size < V2.heap.size := World.block_lt_of_cell? _ _ m0
  have hb2' : Below V1.heap.size V1 V2 := bl_trans (by repeat' (first | exact bl_refl _ | refine bl_alloc ?_ _ | refine bl_drew ?_)) hb2
  have hk2 : Below w.heap.size w V2 := bl_trans hk1 hb2'
  have hc2 := hc1.below hb2'
  have lg2 := hc2.lt
  clear hb2 hb2' hf1
  cases sb
  ·
    go_wp2_with fail
    refine (of_any w.heap.size _ _ _ _ [⟨#[]⟩, ⟨#[10]⟩, ⟨#[48, 61, 112, 49, 61, 51, 61]⟩, ⟨#[48, 61, 112, 49, 61, 51, 61, 48, 10]⟩] _ (hc2.below (by repeat' (first | exact bl_refl _ | refine bl_alloc ?_ _ | refine bl_drew ?_))) (by omega) (by exact sl_lit' (by simp) rfl rfl) (by omega) (by omega) (by rintro b o h _; injection h with h; injection h with h1; omega)).mono ?_
    rintro e V3 ⟨t, rfl, ht, hc3, hf3⟩
    go_wp2
    go_ret
    refine ⟨t, rfl, ?_, below_only (bl_trans hk2 (by repeat' (first | exact bl_refl _ | refine bl_alloc ?_ _ | refine bl_drew ?_))) hf3 (lies1 w.heap.size) (Nat.le_refl _)⟩
    simp only [List.mem_cons, List.not_mem_nil, or_false] at ht
    rcases ht with rfl | rfl | rfl | rfl <;> decide
  ·
    go_upto_region 5 with fail
    go_region_held3 (fun w' => w'.cell? ⟨V1.heap.size, 0, none⟩ = some (.string x.Name) ∧ w'.cell? ⟨V1.heap.size, 1, none⟩ = some (.int .i64 x.Value)) (first | exact ⟨m0, m1⟩ | (refine ⟨?_, ?_⟩ <;> (go_simp; done)) | go_keep) (first | (go_at_call 38; refine (pick_any w.heap.size _ 40 _ (hc2.below (by repeat' (first | exact bl_refl _ | refine bl_alloc ?_ _ | refine bl_drew ?_))) (by omega) (by omega)).mono ?_; rintro e V3 ⟨p, rfl, hp, hc3, hf3⟩; have m0 : V3.cell? ⟨V1.heap.size, 0, none⟩ = some (.string x.Name) := hf3.keeps (by go_simp) (by simp only [List.mem_singleton]; omega); have m1 : V3.cell? ⟨V1.heap.size, 1, none⟩ = some (.int .i64 x.Value) := hf3.keeps (by go_simp) (by simp only [List.mem_singleton]; omega); have lmV3 : V1.heap.size < V3.heap.size := World.block_lt_of_cell? _ _ m0; have hk3 : Below w.heap.size w V3 := below_only (bl_trans hk2 (by repeat' (first | exact bl_refl _ | refine bl_alloc ?_ _ | refine bl_drew ?_))) hf3 (lies1 w.heap.size) (Nat.le_refl _); have lg3 := hc3.lt) | (go_at_call 32; have hp2 := hp.2 (by omega); refine (jnLineN_any p x _ hp.1 (by omega) Hsb.out).mono ?_; rintro e V4 ⟨rfl, hb4⟩; have m0 : V4.cell? ⟨V1.heap.size, 0, none⟩ = some (.string x.Name) := cell_later hb4 (by go_simp); have m1 : V4.cell? ⟨V1.heap.size, 1, none⟩ = some (.int .i64 x.Value) := cell_later hb4 (by go_simp); have hb4' : Below V3.heap.size V3 V4 := bl_trans (by repeat' (first | exact bl_refl _ | refine bl_alloc ?_ _ | refine bl_drew ?_)) hb4; have hk4 := bl_trans hk3 hb4'; have hc4 := hc3.below hb4'; have lg4 := hc4.lt; have hll := lineN_len hp.1 (by omega) Hsb.out))
    obtain ⟨S, hS⟩ : ∃ S, S = lineB p x := ⟨_, rfl⟩
    rw [← hS] at hll
    rw [← hS]
    clear hS hp
    go_wp2_with fail
    refine (pick_any w.heap.size _ 5 _ (hc4.below (by repeat' (first | exact bl_refl _ | refine bl_alloc ?_ _ | refine bl_drew ?_))) (by omega) (by omega)).mono ?_
    rintro e V5 ⟨q, rfl, hq, hc5, hf5⟩
    clear hq
    have lg5 := hc5.lt
    have m0 : V5.cell? ⟨V1.heap.size, 0, none⟩ = some (.string x.Name) := hf5.keeps (by go_simp) (by simp only [List.mem_singleton]; omega)
    have m1 : V5.cell? ⟨V1.heap.size, 1, none⟩ = some (.int .i64 x.Value) := hf5.keeps (by go_simp) (by simp only [List.mem_singleton]; omega)
    have hk5 : Below w.heap.size w V5 := below_only (bl_trans hk4 (by repeat' (first | exact bl_refl _ | refine bl_alloc ?_ _ | refine bl_drew ?_))) hf5 (lies1 w.heap.size) (Nat.le_refl _)
    by_cases h0 : q = 0
    · subst h0
      go_wp2_with fail
      refine (spoilt_any w.heap.size _ S ⟨#[61, 112, 49, 57, 10]⟩ _ hc5 (by omega) (by omega) (by decide) (by decide)).mono ?_
      rintro e V6 ⟨t, rfl, ht, hc6, hf6⟩
      go_wp2
      go_ret
      exact ⟨t, rfl, by omega, below_only hk5 hf6 (lies1 w.heap.size) (Nat.le_refl _)⟩
    by_cases h1 : q = 1
    · subst h1
      go_wp2_with fail
      refine (spoilt_any w.heap.size _ S ⟨#[61, 112, 49, 57, 10]⟩ _ hc5 (by omega) (by omega) (by decide) (by decide)).mono ?_
      rintro e V6 ⟨t, rfl, ht, hc6, hf6⟩
      go_wp2
      go_ret
      exact ⟨t, rfl, by omega, below_only hk5 hf6 (lies1 w.heap.size) (Nat.le_refl _)⟩
    by_cases h2 : q = 2
    · subst h2
      go_wp2_with fail
      refine (jnLineN_any 40 x _ (by omega) (by omega) Hsb.out).mono ?_
      rintro e V6 ⟨rfl, hb6⟩
      have hl6 := lineN_len (n := 40) (by omega) (by omega) Hsb.out
      go_wp2
      go_ret
      exact ⟨_, rfl, by omega, bl_trans hk5 hb6⟩
    go_wp2
    go_ret
    exact ⟨S, rfl, by omega, hk5⟩
end Go.Proofs.YtenlbeghjabpkaaGreatDoor

namespace Go.Proofs.YtenlbeghjabpkaaGreatDoor
open Go.RowKit

set_option maxHeartbeats 4000000 in
/-- two slices that read alike -/
theorem qStates_same (A B : Option Addr) (n c d : Nat) (xs : List State) (w : World) (hn : n ≤ 1048576) (hs : Sl w A n xs) (ht : Sl w B n xs) :
    Calls Tryz.prog 19 #[.slice A n c, .slice B n d] w fun e w' => e = .returned (.bool true) ∧ Below w.heap.size w w' := by
  have HS := Lib.hid hs
  have HT := Lib.hid ht
  clear hs ht
  go_enter Tryz.func19, Tryz.ntmps19
  go_wp2
  go_loopw [13] (fun iv wr => ∃ i : Nat, i ≤ n ∧ iv = .int .i64 i ∧ Below w.heap.size w wr) (fun iv _ => n - (intOf iv).toNat)
  case atStart => exact ⟨0, Nat.zero_le _, rfl, bl_refl _⟩
  case round =>
    obtain ⟨i, hi, rfl, hb⟩ := hrel
    by_cases hlt : i < n
    · obtain ⟨b, o, rfl, hbz, c0, c1⟩ := (HS.out.below hb).state hlt
      obtain ⟨b', o', rfl, hbz', d0, d1⟩ := (HT.out.below hb).state hlt
      have hid : (i : Int) < n := by omega
      go_upto_region 6 with fail
      refine wp_region_grow (by kernel_rfl) (by kernel_rfl) (fun X hX => ?_)
      have hbX : Below wr.heap.size wr X := by rw [hX]; exact bl_refl _
      have q0 := Gw.cell (cell_later hbX c0)
      have q1 := Gw.cell (cell_later hbX c1)
      have q2 := Gw.cell (cell_later hbX d0)
      have q3 := Gw.cell (cell_later hbX d1)
      have HX := Lib.hid hX
      clear hX
      repeat (go_big_quiet_step (fail))
      refine wpGrow_nil (fun V6 hV => ?_)
      have hb6 := bl_trans hb (bl_trans hbX hV)
      clear hV hbX HX q0 q1 q2 q3 c0 c1 d0 d1
      go_wp2
      go_roundw
      case rel => exact ⟨i + 1, by omega, by go_num, hb6⟩
      case measure => simp [intOf]; omega
    · go_wp2
      go_ret
      exact ⟨rfl, hb⟩
end Go.Proofs.YtenlbeghjabpkaaGreatDoor

namespace Go.Proofs.YtenlbeghjabpkaaGreatDoor
open Go.RowKit

theorem specIsState_any (x : State) (w : World) (hx : x.Name.size ≤ maxLen) :
    Calls Tryz.prog 22 #[.agg #[.string x.Name, .int .i64 x.Value]] w fun e w' => e = .returned (.bool (stateB x)) ∧ Below w.heap.size w w' := by
  go_enter Tryz.func22, Tryz.ntmps22
  have hk0 := bl_refl w
  go_wp2_with fail
  refine (jnState_any x _ hx).mono ?_
  rintro e V1 ⟨rfl, hb1⟩
  have hB1 := bl_trans (a := w) (by repeat' (first | exact bl_refl _ | refine bl_alloc ?_ _ | refine bl_drew ?_ | refine bl_drewN ?_ _ | refine bl_set ?_ ?_ _ | (simp; done) | (simp; omega))) hb1
  have hk1 := bl_trans hk0 hB1
  have z1 : Hid (w.heap.size + 1 ≤ V1.heap.size) := by have := hb1.size; simp only [World.size_alloc] at this; exact (by omega : _)
  have ba_0_1 : V1.cell? ⟨w.heap.size, 0, none⟩ = some (.string x.Name) := cell_later hb1 (by go_simp)
  have ba_1_1 : V1.cell? ⟨w.heap.size, 1, none⟩ = some (.int .i64 x.Value) := cell_later hb1 (by go_simp)
  have la_1 : w.heap.size < V1.heap.size := World.block_lt_of_cell? _ _ ba_0_1
  go_wp2
  go_ret
  exact ⟨rfl, hk1⟩
theorem implIsState_any (x : State) (w : World) (hx : x.Name.size ≤ maxLen) :
    Calls Tryz.prog 21 #[.agg #[.string x.Name, .int .i64 x.Value]] w fun e w' => e = .returned (.bool (stateB x)) ∧ Below w.heap.size w w' := by
  go_enter Tryz.func21, Tryz.ntmps21
  have hk0 := bl_refl w
  go_wp2_with fail
  refine (isDiaryState_any x _ hx).mono ?_
  rintro e V1 ⟨rfl, hb1⟩
  have hB1 := bl_trans (a := w) (by repeat' (first | exact bl_refl _ | refine bl_alloc ?_ _ | refine bl_drew ?_ | refine bl_drewN ?_ _ | refine bl_set ?_ ?_ _ | (simp; done) | (simp; omega))) hb1
  have hk1 := bl_trans hk0 hB1
  have z1 : Hid (w.heap.size + 1 ≤ V1.heap.size) := by have := hb1.size; simp only [World.size_alloc] at this; exact (by omega : _)
  have ba_0_1 : V1.cell? ⟨w.heap.size, 0, none⟩ = some (.string x.Name) := cell_later hb1 (by go_simp)
  have ba_1_1 : V1.cell? ⟨w.heap.size, 1, none⟩ = some (.int .i64 x.Value) := cell_later hb1 (by go_simp)
  have la_1 : w.heap.size < V1.heap.size := World.block_lt_of_cell? _ _ ba_0_1
  go_wp2
  go_ret
  exact ⟨rfl, hk1⟩

end Go.Proofs.YtenlbeghjabpkaaGreatDoor

namespace Go.Proofs.YtenlbeghjabpkaaGreatDoor
open Go.RowKit

noncomputable def slF (n : Int) (x : State) : ByteArray × Bool := if okL n x then (lineB n x, true) else (ByteArray.empty, false)
theorem slF_yes {n : Int} {x : State} (h : okL n x = true) : slF n x = (lineB n x, true) := by unfold slF; rw [if_pos h]
theorem slF_no {n : Int} {x : State} (h : okL n x = false) : slF n x = (ByteArray.empty, false) := by unfold slF; rw [if_neg (by rw [h]; exact Bool.false_ne_true)]
theorem ret_sb {a b : ByteArray} {p q : Bool} {r : ByteArray × Bool} (h : r = (a, p)) (_h1 : a = b) (_h2 : p = q) : Ending.returned (.tuple #[.string a, .bool p]) = .returned (.tuple #[.string r.1, .bool r.2]) := by rw [h]
set_option maxHeartbeats 1000000 in
theorem specStateLine_any (n : Int) (x : State) (w : World) (hx : x.Name.size ≤ maxLen) :
    Calls Tryz.prog 15 #[.int .i64 n, .agg #[.string x.Name, .int .i64 x.Value]] w fun e w' => e = .returned (.tuple #[.string (slF n x).1, .bool (slF n x).2]) ∧ Below w.heap.size w w' := by
  go_enter Tryz.func15, Tryz.ntmps15
  have hk0 := bl_refl w
  go_wp2_with fail
  refine (jnNumber_any n _).mono ?_
  rintro _ _ ⟨rfl, rfl⟩
  cases h0 : inB n 0 39
  · have q : Hid (slF n x = (ByteArray.empty, false)) := slF_no (by rw [okL, h0]; rfl)
    clear h0
    go_wp2
    go_ret2
    exact ⟨ret_sb q.out rfl rfl, (bl_trans hk0 (by repeat' (first | exact bl_refl _ | refine bl_alloc ?_ _ | refine bl_drew ?_ | refine bl_drewN ?_ _ | refine bl_set ?_ ?_ _ | (simp; done) | (simp; omega))))⟩
  · go_wp2_with fail
    refine (jnState_any x _ hx).mono ?_
    rintro e V1 ⟨rfl, hb1⟩
    have hB1 := bl_trans (a := w) (by repeat' (first | exact bl_refl _ | refine bl_alloc ?_ _ | refine bl_drew ?_ | refine bl_drewN ?_ _ | refine bl_set ?_ ?_ _ | (simp; done) | (simp; omega))) hb1
    have hk1 := bl_trans hk0 hB1
    have z1 : Hid (w.heap.size + 1 ≤ V1.heap.size) := by have := hb1.size; simp only [World.size_alloc] at this; exact (by omega : _)
    have ba_0_1 : V1.cell? ⟨w.heap.size, 0, none⟩ = some (.string x.Name) := cell_later hb1 (by go_simp)
    have ba_1_1 : V1.cell? ⟨w.heap.size, 1, none⟩ = some (.int .i64 x.Value) := cell_later hb1 (by go_simp)
    have la_1 : w.heap.size < V1.heap.size := World.block_lt_of_cell? _ _ ba_0_1
    clear hb1
    cases h1 : stateB x
    · have q : Hid (slF n x = (ByteArray.empty, false)) := slF_no (by rw [okL, h1, Bool.and_false])
      clear h1
      go_wp2
      go_ret2
      exact ⟨ret_sb q.out rfl rfl, hk1⟩
    · have hok : okL n x = true := by rw [okL, h0, h1]; rfl
      have q := Lib.hid (slF_yes hok)
      clear h0 h1
      go_wp2_with fail
      refine (jnLine_any n x _ hok).mono ?_
      rintro e V2 ⟨rfl, hb2⟩
      have hB2 := bl_trans (a := V1) (bl_refl _) hb2
      have hk2 := bl_trans hk1 hB2
      have z2 := Lib.hid hB2.size
      have ba_0_2 : V2.cell? ⟨w.heap.size, 0, none⟩ = some (.string x.Name) := cell_later hB2 ba_0_1
      have ba_1_2 : V2.cell? ⟨w.heap.size, 1, none⟩ = some (.int .i64 x.Value) := cell_later hB2 ba_1_1
      have la_2 : w.heap.size < V2.heap.size := World.block_lt_of_cell? _ _ ba_0_2
      clear hk1 ba_0_1 ba_1_1 la_1
      go_wp2
      go_ret2
      exact ⟨ret_sb q.out rfl rfl, hk2⟩
set_option maxHeartbeats 1000000 in
theorem implStateLine_any (n : Int) (x : State) (w : World) (hx : x.Name.size ≤ maxLen) (ht : Tab w) :
    Calls Tryz.prog 14 #[.int .i64 n, .agg #[.string x.Name, .int .i64 x.Value]] w fun e w' => e = .returned (.tuple #[.string (slF n x).1, .bool (slF n x).2]) ∧ Below w.heap.size w w' := by
  go_enter Tryz.func14, Tryz.ntmps14
  have hk0 := bl_refl w
  go_wp2_with fail
  refine (isDiaryState_any x _ hx).mono ?_
  rintro e V1 ⟨rfl, hb1⟩
  have hB1 := bl_trans (a := w) (by repeat' (first | exact bl_refl _ | refine bl_alloc ?_ _ | refine bl_drew ?_ | refine bl_drewN ?_ _ | refine bl_set ?_ ?_ _ | (simp; done) | (simp; omega))) hb1
  have hk1 := bl_trans hk0 hB1
  have z1 : Hid (w.heap.size + 1 ≤ V1.heap.size) := by have := hb1.size; simp only [World.size_alloc] at this; exact (by omega : _)
  have ba_0_1 : V1.cell? ⟨w.heap.size, 0, none⟩ = some (.string x.Name) := cell_later hb1 (by go_simp)
  have ba_1_1 : V1.cell? ⟨w.heap.size, 1, none⟩ = some (.int .i64 x.Value) := cell_later hb1 (by go_simp)
  have la_1 : w.heap.size < V1.heap.size := World.block_lt_of_cell? _ _ ba_0_1
  clear hb1
  cases h1 : stateB x
  · have q : Hid (slF n x = (ByteArray.empty, false)) := slF_no (by rw [okL, h1, Bool.and_false])
    clear h1
    go_wp2
    go_ret2
    exact ⟨ret_sb q.out rfl rfl, hk1⟩
  · go_wp2_with fail
    refine (inside_any n 0 39 _).mono ?_
    rintro _ V1 ⟨rfl, rfl⟩
    cases h0 : inB n 0 39
    · have q : Hid (slF n x = (ByteArray.empty, false)) := slF_no (by rw [okL, h0]; rfl)
      clear h0
      go_wp2
      go_ret2
      exact ⟨ret_sb q.out rfl rfl, hk1⟩
    · have hok : okL n x = true := by rw [okL, h0, h1]; rfl
      have q := Lib.hid (slF_yes hok)
      clear h0 h1
      go_wp2_with fail
      refine (stateLine_any n x _ hok (ht.below hk1)).mono ?_
      rintro e V2 ⟨rfl, hb2⟩
      have hB2 := bl_trans (a := V1) (bl_refl _) hb2
      have hk2 := bl_trans hk1 hB2
      have z2 := Lib.hid hB2.size
      have ba_0_2 : V2.cell? ⟨w.heap.size, 0, none⟩ = some (.string x.Name) := cell_later hB2 ba_0_1
      have ba_1_2 : V2.cell? ⟨w.heap.size, 1, none⟩ = some (.int .i64 x.Value) := cell_later hB2 ba_1_1
      have la_2 : w.heap.size < V2.heap.size := World.block_lt_of_cell? _ _ ba_0_2
      clear hk1 ba_0_1 ba_1_1 la_1
      go_wp2
      go_ret2
      exact ⟨ret_sb q.out rfl rfl, hk2⟩

end Go.Proofs.YtenlbeghjabpkaaGreatDoor

namespace Go.Proofs.YtenlbeghjabpkaaGreatDoor
open Go.RowKit

set_option maxHeartbeats 1000000 in
theorem specParseStateLine_any (l : ByteArray) (w : World) (hl : l.size ≤ 1048576) :
    Calls Tryz.prog 18 #[.string l] w fun e w' => e = .returned (.tuple #[.int .i64 (parseR l).1, .agg #[.string (parseR l).2.1.Name, .int .i64 (parseR l).2.1.Value], .bool (parseR l).2.2]) ∧ Below w.heap.size w w' := by
  go_enter Tryz.func18, Tryz.ntmps18
  have hk0 := bl_refl w
  go_wp2_with fail
  refine (jnParse_any l _ hl).mono ?_
  rintro e V1 ⟨rfl, hb1⟩
  have hB1 := bl_trans (a := w) (by repeat' (first | exact bl_refl _ | refine bl_alloc ?_ _ | refine bl_drew ?_ | refine bl_drewN ?_ _ | refine bl_set ?_ ?_ _ | (simp; done) | (simp; omega))) hb1
  have hk1 := bl_trans hk0 hB1
  have z1 : Hid (w.heap.size + 1 ≤ V1.heap.size) := by have := hb1.size; simp only [World.size_alloc] at this; exact (by omega : _)
  have br_0_1 : V1.cell? ⟨w.heap.size, 0, none⟩ = some (.string ⟨#[]⟩) := cell_later hb1 (by go_simp)
  have qr_0_1 : V1.frozen? ⟨w.heap.size, 0, none⟩ = false := frozen_later hb1 (by simp) (by go_simp)
  have br_1_1 : V1.cell? ⟨w.heap.size, 1, none⟩ = some (.int .i64 0) := cell_later hb1 (by go_simp)
  have qr_1_1 : V1.frozen? ⟨w.heap.size, 1, none⟩ = false := frozen_later hb1 (by simp) (by go_simp)
  have lr_1 : w.heap.size < V1.heap.size := World.block_lt_of_cell? _ _ br_0_1
  clear hb1
  obtain ⟨r, hr⟩ : ∃ r, r = parseR l := ⟨_, rfl⟩
  rw [← hr]
  obtain ⟨n, ⟨a, v⟩, b⟩ := r
  have HR := Lib.hid hr
  clear hr
  go_wp2
  refine bodyPost_ret (v := .tuple #[.int .i64 n, .agg #[.string a, .int .i64 v], .bool b]) (by simp [results, Tryz.results18, go_sem, br_0_1, br_1_1]; try rfl) rfl ?_
  exact ⟨by rw [← HR.out], (by repeat' (first | exact hk1 | refine bl_alloc ?_ _ | refine bl_drew ?_ | refine bl_drewN ?_ _ | refine bl_set ?_ (by simp only []; omega) _))⟩
set_option maxHeartbeats 1000000 in
theorem implParseStateLine_any (l : ByteArray) (w : World) (hl : l.size ≤ 1048576) (he : Env w) :
    Calls Tryz.prog 17 #[.string l] w fun e w' => e = .returned (.tuple #[.int .i64 (parseR l).1, .agg #[.string (parseR l).2.1.Name, .int .i64 (parseR l).2.1.Value], .bool (parseR l).2.2]) ∧ Below w.heap.size w w' := by
  go_enter Tryz.func17, Tryz.ntmps17
  have hk0 := bl_refl w
  go_wp2_with fail
  refine (parseStateLine_any l _ hl (he.below (bl_trans hk0 (by repeat' (first | exact bl_refl _ | refine bl_alloc ?_ _ | refine bl_drew ?_ | refine bl_drewN ?_ _ | refine bl_set ?_ ?_ _ | (simp; done) | (simp; omega)))))).mono ?_
  rintro e V1 ⟨rfl, hb1⟩
  have hB1 := bl_trans (a := w) (by repeat' (first | exact bl_refl _ | refine bl_alloc ?_ _ | refine bl_drew ?_ | refine bl_drewN ?_ _ | refine bl_set ?_ ?_ _ | (simp; done) | (simp; omega))) hb1
  have hk1 := bl_trans hk0 hB1
  have z1 : Hid (w.heap.size + 1 ≤ V1.heap.size) := by have := hb1.size; simp only [World.size_alloc] at this; exact (by omega : _)
  have br_0_1 : V1.cell? ⟨w.heap.size, 0, none⟩ = some (.string ⟨#[]⟩) := cell_later hb1 (by go_simp)
  have qr_0_1 : V1.frozen? ⟨w.heap.size, 0, none⟩ = false := frozen_later hb1 (by simp) (by go_simp)
  have br_1_1 : V1.cell? ⟨w.heap.size, 1, none⟩ = some (.int .i64 0) := cell_later hb1 (by go_simp)
  have qr_1_1 : V1.frozen? ⟨w.heap.size, 1, none⟩ = false := frozen_later hb1 (by simp) (by go_simp)
  have lr_1 : w.heap.size < V1.heap.size := World.block_lt_of_cell? _ _ br_0_1
  clear hb1
  obtain ⟨r, hr⟩ : ∃ r, r = parseR l := ⟨_, rfl⟩
  rw [← hr]
  obtain ⟨n, ⟨a, v⟩, b⟩ := r
  have HR := Lib.hid hr
  clear hr
  go_wp2
  refine bodyPost_ret (v := .tuple #[.int .i64 n, .agg #[.string a, .int .i64 v], .bool b]) (by simp [results, Tryz.results17, go_sem, br_0_1, br_1_1]; try rfl) rfl ?_
  exact ⟨by rw [← HR.out], (by repeat' (first | exact hk1 | refine bl_alloc ?_ _ | refine bl_drew ?_ | refine bl_drewN ?_ _ | refine bl_set ?_ (by simp only []; omega) _))⟩

end Go.Proofs.YtenlbeghjabpkaaGreatDoor
