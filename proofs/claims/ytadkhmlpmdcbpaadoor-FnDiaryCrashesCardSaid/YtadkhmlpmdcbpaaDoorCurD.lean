/-
  The drawing of inputs: diaries. No conditions.
-/
import Derived.Test.YtadkhmlpmdcbpaaDoorCurT
import Derived.Test.YtadkhmlpmdcbpaaDoorCurS
import Derived.Test.YtadkhmlpmdcbpaaDoorJnWs
import Derived.Deep.RegionHeld3
import Derived.Deep.CutRange
namespace Go.Proofs.YtadkhmlpmdcbpaaDoor
open Go.RowKit

theorem haveFirst {p q : Prop} (h : p) (f : p → q) : q := f h
theorem wsF_size {d : Diary} {x : State} (h : (wsF d x).2 = true) : (wsF d x).1.Safe.size + (wsF d x).1.Open.size ≤ d.Safe.size + d.Open.size + 21 := by
  cases hc : (openB d.Safe d.Open && stateB x && decide ((statesB d.Safe d.Open).length < 40)) with
  | false => rw [wsF_no hc] at h; cases h
  | true =>
    rw [wsF_yes hc]
    simp only [Bool.and_eq_true, decide_eq_true_eq] at hc
    have hok : okL ((statesB d.Safe d.Open).length : Int) x = true := by unfold okL; rw [hc.1.2, inB_yes (by omega) (by omega)]; rfl
    have := line_len hok
    simp only [ByteArray.size_append]
    omega
/-- a diary as it is drawn -/
def RetDiary (w : World) (g : Nat) (N : Int) (e : Ending) (w' : World) : Prop :=
  ∃ d : Diary, e = .returned (.agg #[.string d.Safe, .string d.Open]) ∧ d.Safe.size + d.Open.size ≤ 1200 ∧ Cur w' g N ∧ OnlyF [g] w w'
set_option maxRecDepth 100000 in
set_option maxHeartbeats 16000000 in
theorem diary_any (g : Nat) (N : Int) (w : World) (hc : Cur w g N) (hN : N ≤ 800000000) :
    Calls Tryd.prog 18 #[.pointer (some ⟨g, 0, none⟩)] w (RetDiary w g (N + 3000)) := by
  have lg0 := hc.lt
  go_enter Tryd.func18, Tryd.ntmps18
  have ne_m_r : ¬ (w.heap.size + 1 = w.heap.size) := by omega
  have ne_r_m : ¬ (w.heap.size = w.heap.size + 1) := by omega
  go_wp2_with fail
  refine (pick_any g _ 8 _ (hc.below (by repeat' (first | exact bl_refl _ | refine bl_alloc ?_ _ | refine bl_drew ?_ | refine bl_set ?_ (by simp; try omega) _))) (by omega) (by omega)).mono ?_
  rintro e V1 ⟨p, rfl, hp, hc1, hf1⟩
  have r0 : V1.cell? ⟨w.heap.size, 0, none⟩ = some (.string ⟨#[]⟩) := hf1.keeps (by go_simp) (by simp only [List.mem_singleton]; omega)
  have r1 : V1.cell? ⟨w.heap.size, 1, none⟩ = some (.string ⟨#[]⟩) := hf1.keeps (by go_simp) (by simp only [List.mem_singleton]; omega)
  have fr0 : V1.frozen? ⟨w.heap.size, 0, none⟩ = false := (hf1.frozen (by simp; try omega) (by simp only [List.mem_singleton]; omega)).trans (by go_simp)
  have fr1 : V1.frozen? ⟨w.heap.size, 1, none⟩ = false := (hf1.frozen (by simp; try omega) (by simp only [List.mem_singleton]; omega)).trans (by go_simp)
  have lr1 : w.heap.size < V1.heap.size := World.block_lt_of_cell? _ _ r0
  have m0 : V1.cell? ⟨w.heap.size + 1, 0, none⟩ = some (.string ⟨#[]⟩) := hf1.keeps (by go_simp) (by simp only [List.mem_singleton]; omega)
  have m1 : V1.cell? ⟨w.heap.size + 1, 1, none⟩ = some (.string ⟨#[]⟩) := hf1.keeps (by go_simp) (by simp only [List.mem_singleton]; omega)
  have fm0 : V1.frozen? ⟨w.heap.size + 1, 0, none⟩ = false := (hf1.frozen (by simp; try omega) (by simp only [List.mem_singleton]; omega)).trans (by go_simp)
  have fm1 : V1.frozen? ⟨w.heap.size + 1, 1, none⟩ = false := (hf1.frozen (by simp; try omega) (by simp only [List.mem_singleton]; omega)).trans (by go_simp)
  have lm1 : w.heap.size + 1 < V1.heap.size := World.block_lt_of_cell? _ _ m0
  have lg1 : g < V1.heap.size := hc1.lt
  have hF1 : OnlyF [g] w V1 := (OnlyF.below (a := w) (by repeat' (first | exact bl_refl _ | refine bl_alloc ?_ _ | refine bl_drew ?_ | refine bl_set ?_ (by simp; try omega) _))).trans hf1
  have hp8 : p < 8 := hp.2 (by omega)
  have hp0 := hp.1
  clear hp
  go_wp2_with fail
  refine (one_any g _ 12 _ (hc1.below (by repeat' (first | exact bl_refl _ | refine bl_alloc ?_ _ | refine bl_drew ?_ | refine bl_set ?_ (by simp; try omega) _))) (by omega) (by omega)).mono ?_
  rintro e V2 ⟨b, rfl, hc2, hf2⟩
  replace r0 : V2.cell? ⟨w.heap.size, 0, none⟩ = some (.string ⟨#[]⟩) := hf2.keeps (by go_simp) (by simp only [List.mem_singleton]; omega)
  replace r1 : V2.cell? ⟨w.heap.size, 1, none⟩ = some (.string ⟨#[]⟩) := hf2.keeps (by go_simp) (by simp only [List.mem_singleton]; omega)
  replace fr0 : V2.frozen? ⟨w.heap.size, 0, none⟩ = false := (hf2.frozen (by simp; try omega) (by simp only [List.mem_singleton]; omega)).trans (by go_simp)
  replace fr1 : V2.frozen? ⟨w.heap.size, 1, none⟩ = false := (hf2.frozen (by simp; try omega) (by simp only [List.mem_singleton]; omega)).trans (by go_simp)
  have lr2 : w.heap.size < V2.heap.size := World.block_lt_of_cell? _ _ r0
  replace m0 : V2.cell? ⟨w.heap.size + 1, 0, none⟩ = some (.string ⟨#[]⟩) := hf2.keeps (by go_simp) (by simp only [List.mem_singleton]; omega)
  replace m1 : V2.cell? ⟨w.heap.size + 1, 1, none⟩ = some (.string ⟨#[]⟩) := hf2.keeps (by go_simp) (by simp only [List.mem_singleton]; omega)
  replace fm0 : V2.frozen? ⟨w.heap.size + 1, 0, none⟩ = false := (hf2.frozen (by simp; try omega) (by simp only [List.mem_singleton]; omega)).trans (by go_simp)
  replace fm1 : V2.frozen? ⟨w.heap.size + 1, 1, none⟩ = false := (hf2.frozen (by simp; try omega) (by simp only [List.mem_singleton]; omega)).trans (by go_simp)
  have lm2 : w.heap.size + 1 < V2.heap.size := World.block_lt_of_cell? _ _ m0
  have lg2 : g < V2.heap.size := hc2.lt
  have hF2 : OnlyF [g] w V2 := hF1.trans ((OnlyF.below (a := V1) (by repeat' (first | exact bl_refl _ | refine bl_alloc ?_ _ | refine bl_drew ?_ | refine bl_set ?_ (by simp; try omega) _))).trans hf2)
  obtain ⟨n, hn43, hnb⟩ : ∃ n : Nat, n ≤ 43 ∧ (b = true ∧ n = 43 ∨ b = false ∧ p = (n : Int)) := by
    cases b with
    | true => exact ⟨43, Nat.le_refl _, .inl ⟨rfl, rfl⟩⟩
    | false => exact ⟨p.toNat, by omega, .inr ⟨rfl, by omega⟩⟩
  rcases hnb with ⟨rfl, hn⟩ | ⟨rfl, rfl⟩
  · have hn43 : 43 ≤ 43 := Nat.le_refl _
    go_wp2
    go_loopw [5] (fun kv wr => ∃ (k : Nat) (s o : ByteArray), k ≤ 43 ∧ kv = .int .i64 k ∧ s.size + o.size ≤ 21 * k ∧ wr.cell? ⟨w.heap.size, 0, none⟩ = some (.string ⟨#[]⟩) ∧ wr.cell? ⟨w.heap.size, 1, none⟩ = some (.string ⟨#[]⟩) ∧ wr.frozen? ⟨w.heap.size, 0, none⟩ = false ∧ wr.frozen? ⟨w.heap.size, 1, none⟩ = false ∧ wr.cell? ⟨w.heap.size + 1, 0, none⟩ = some (.string s) ∧ wr.cell? ⟨w.heap.size + 1, 1, none⟩ = some (.string o) ∧ wr.frozen? ⟨w.heap.size + 1, 0, none⟩ = false ∧ wr.frozen? ⟨w.heap.size + 1, 1, none⟩ = false ∧ Cur wr g (N + 4 + 30 * (k : Int)) ∧ OnlyF [g] w wr) (fun kv _ => 43 - (intOf kv).toNat)
    case atStart => exact ⟨0, ⟨#[]⟩, ⟨#[]⟩, Nat.zero_le _, rfl, by decide, r0, r1, fr0, fr1, m0, m1, fm0, fm1, hc2.mono (by omega), hF2⟩
    case round =>
      obtain ⟨k, s, o, hk, rfl, hso, r0, r1, fr0, fr1, m0, m1, fm0, fm1, hcr, hfr⟩ := hrel
      have lr : w.heap.size < wr.heap.size := World.block_lt_of_cell? _ _ r0
      have lm : w.heap.size + 1 < wr.heap.size := World.block_lt_of_cell? _ _ m0
      by_cases hlt : k < 43
      · have hkd : decide ((k : Int) < 43) = true := by simp; omega
        go_upto_region 8 with fail
        go_cut [6, 7] from 13 to 34 (fun s6 s7 wx => ∃ (x : State) (b6 : Nat), s6 = .pointer (some ⟨b6, 0, none⟩) ∧ s7 = .bool (wsF ⟨s, o⟩ x).2 ∧ w.heap.size + 2 ≤ b6 ∧ wx.cell? ⟨b6, 0, none⟩ = some (.string (wsF ⟨s, o⟩ x).1.Safe) ∧ wx.cell? ⟨b6, 1, none⟩ = some (.string (wsF ⟨s, o⟩ x).1.Open) ∧ wx.cell? ⟨w.heap.size, 0, none⟩ = some (.string ⟨#[]⟩) ∧ wx.cell? ⟨w.heap.size, 1, none⟩ = some (.string ⟨#[]⟩) ∧ wx.frozen? ⟨w.heap.size, 0, none⟩ = false ∧ wx.frozen? ⟨w.heap.size, 1, none⟩ = false ∧ wx.cell? ⟨w.heap.size + 1, 0, none⟩ = some (.string s) ∧ wx.cell? ⟨w.heap.size + 1, 1, none⟩ = some (.string o) ∧ wx.frozen? ⟨w.heap.size + 1, 0, none⟩ = false ∧ wx.frozen? ⟨w.heap.size + 1, 1, none⟩ = false ∧ Cur wx g (N + 24 + 30 * (k : Int)) ∧ OnlyF [g] w wx)
        case first =>
          go_region_held3 (fun w' => w'.cell? ⟨w.heap.size + 1, 0, none⟩ = some (.string s) ∧ w'.cell? ⟨w.heap.size + 1, 1, none⟩ = some (.string o)) (first | exact ⟨m0, m1⟩ | (refine ⟨?_, ?_⟩ <;> (go_simp; done)) | (refine ⟨?_, ?_⟩ <;> (rw [World.cell?_setCell_other _ _ _ _ (by intro e; injection e with e; omega), World.cell?_setCell_other _ _ _ _ (by intro e; injection e with e; omega)]; first | exact m0 | exact m1)) | go_keep) (first | (go_at_call 32; refine (curState_any g _ _ (hcr.below (by repeat' (first | exact bl_refl _ | refine bl_alloc ?_ _ | refine bl_drew ?_ | refine bl_set ?_ (by simp; try omega) _))) (by omega)).mono ?_; rintro e V3 ⟨x, rfl, hx, hv, hc3, hf3⟩; have r0 : V3.cell? ⟨w.heap.size, 0, none⟩ = some (.string ⟨#[]⟩) := hf3.keeps (by go_simp) (by simp only [List.mem_singleton]; omega); have r1 : V3.cell? ⟨w.heap.size, 1, none⟩ = some (.string ⟨#[]⟩) := hf3.keeps (by go_simp) (by simp only [List.mem_singleton]; omega); have m0 : V3.cell? ⟨w.heap.size + 1, 0, none⟩ = some (.string s) := hf3.keeps (by go_simp) (by simp only [List.mem_singleton]; omega); have m1 : V3.cell? ⟨w.heap.size + 1, 1, none⟩ = some (.string o) := hf3.keeps (by go_simp) (by simp only [List.mem_singleton]; omega); have fr0 : V3.frozen? ⟨w.heap.size, 0, none⟩ = false := (hf3.frozen (by simp; try omega) (by simp only [List.mem_singleton]; omega)).trans (by go_simp); have fr1 : V3.frozen? ⟨w.heap.size, 1, none⟩ = false := (hf3.frozen (by simp; try omega) (by simp only [List.mem_singleton]; omega)).trans (by go_simp); have fm0 : V3.frozen? ⟨w.heap.size + 1, 0, none⟩ = false := (hf3.frozen (by simp; try omega) (by simp only [List.mem_singleton]; omega)).trans (by go_simp); have fm1 : V3.frozen? ⟨w.heap.size + 1, 1, none⟩ = false := (hf3.frozen (by simp; try omega) (by simp only [List.mem_singleton]; omega)).trans (by go_simp); have lrV3 : w.heap.size < V3.heap.size := World.block_lt_of_cell? _ _ r0; have lmV3 : w.heap.size + 1 < V3.heap.size := World.block_lt_of_cell? _ _ m0; have hF3 : OnlyF [g] w V3 := hfr.trans ((OnlyF.below (by repeat' (first | exact bl_refl _ | refine bl_alloc ?_ _ | refine bl_drew ?_ | refine bl_set ?_ (by simp; try omega) _))).trans hf3); have lV3 : wr.heap.size ≤ V3.heap.size := (by have hz := hf3.size; (try simp at hz); omega); (first | (refine haveFirst (p := V3.cell? ⟨wr.heap.size, 0, none⟩ = some (.string ⟨#[]⟩)) ?_ (fun z0 => ?_); (focus (refine hf3.keeps ?_ ?_; (focus (go_simp; done)); (focus (simp only [List.mem_singleton]; omega)); done)); refine haveFirst (p := V3.frozen? ⟨wr.heap.size, 0, none⟩ = false) ?_ (fun fz0 => ?_); (focus (refine (hf3.frozen ?_ ?_).trans ?_; (focus (simp; done)); (focus (simp only [List.mem_singleton]; omega)); (focus (go_simp; done)); done)); refine haveFirst (p := V3.cell? ⟨wr.heap.size, 1, none⟩ = some (.string ⟨#[]⟩)) ?_ (fun z1 => ?_); (focus (refine hf3.keeps ?_ ?_; (focus (go_simp; done)); (focus (simp only [List.mem_singleton]; omega)); done)); refine haveFirst (p := V3.frozen? ⟨wr.heap.size, 1, none⟩ = false) ?_ (fun fz1 => ?_); (focus (refine (hf3.frozen ?_ ?_).trans ?_; (focus (simp; done)); (focus (simp only [List.mem_singleton]; omega)); (focus (go_simp; done)); done)); refine haveFirst (p := wr.heap.size < V3.heap.size) (World.block_lt_of_cell? _ _ z0) (fun lz => ?_)) | skip)) | (go_at_call 31; refine (specWriteState_any ⟨s, o⟩ x _ (by simp only []; omega) (by unfold maxLen; omega)).mono ?_; rintro e V4 ⟨rfl, hb4⟩; have hE4 : Below V3.heap.size V3 V4 := bl_trans (by repeat' (first | exact bl_refl _ | refine bl_alloc ?_ _ | refine bl_drew ?_ | refine bl_set ?_ (by simp; try omega) _)) hb4; have hF4 : OnlyF [g] w V4 := hF3.trans (OnlyF.below hE4); have hc4 : Cur V4 g (N + 24 + 30 * (k : Int)) := (hc3.below hE4).mono (by omega); have r0 : V4.cell? ⟨w.heap.size, 0, none⟩ = some (.string ⟨#[]⟩) := cell_later hb4 (by go_simp); have r1 : V4.cell? ⟨w.heap.size, 1, none⟩ = some (.string ⟨#[]⟩) := cell_later hb4 (by go_simp); have m0 : V4.cell? ⟨w.heap.size + 1, 0, none⟩ = some (.string s) := cell_later hb4 (by go_simp); have m1 : V4.cell? ⟨w.heap.size + 1, 1, none⟩ = some (.string o) := cell_later hb4 (by go_simp); have fr0 : V4.frozen? ⟨w.heap.size, 0, none⟩ = false := frozen_later hb4 (by simp; try omega) (by go_simp); have fr1 : V4.frozen? ⟨w.heap.size, 1, none⟩ = false := frozen_later hb4 (by simp; try omega) (by go_simp); have fm0 : V4.frozen? ⟨w.heap.size + 1, 0, none⟩ = false := frozen_later hb4 (by simp; try omega) (by go_simp); have fm1 : V4.frozen? ⟨w.heap.size + 1, 1, none⟩ = false := frozen_later hb4 (by simp; try omega) (by go_simp); have lrV4 : w.heap.size < V4.heap.size := World.block_lt_of_cell? _ _ r0; have lmV4 : w.heap.size + 1 < V4.heap.size := World.block_lt_of_cell? _ _ m0; (first | (refine haveFirst (p := V4.cell? ⟨V3.heap.size, 0, none⟩ = some (.string ⟨#[]⟩)) ?_ (fun z0 => ?_); (focus (refine cell_later hb4 ?_; go_simp; done)); refine haveFirst (p := V4.frozen? ⟨V3.heap.size, 0, none⟩ = false) ?_ (fun fz0 => ?_); (focus (refine frozen_later hb4 ?_ ?_; (focus (simp; done)); (focus (go_simp; done)); done)); refine haveFirst (p := V4.cell? ⟨V3.heap.size, 1, none⟩ = some (.string ⟨#[]⟩)) ?_ (fun z1 => ?_); (focus (refine cell_later hb4 ?_; go_simp; done)); refine haveFirst (p := V4.frozen? ⟨V3.heap.size, 1, none⟩ = false) ?_ (fun fz1 => ?_); (focus (refine frozen_later hb4 ?_ ?_; (focus (simp; done)); (focus (go_simp; done)); done)); refine haveFirst (p := V3.heap.size < V4.heap.size) (World.block_lt_of_cell? _ _ z0) (fun lz => ?_)) | (refine haveFirst (p := V4.cell? ⟨wr.heap.size, 0, none⟩ = some (.string ⟨#[]⟩)) ?_ (fun z0 => ?_); (focus (refine cell_later hb4 ?_; go_simp; done)); refine haveFirst (p := V4.frozen? ⟨wr.heap.size, 0, none⟩ = false) ?_ (fun fz0 => ?_); (focus (refine frozen_later hb4 ?_ ?_; (focus (simp; omega)); (focus (go_simp; done)); done)); refine haveFirst (p := V4.cell? ⟨wr.heap.size, 1, none⟩ = some (.string ⟨#[]⟩)) ?_ (fun z1 => ?_); (focus (refine cell_later hb4 ?_; go_simp; done)); refine haveFirst (p := V4.frozen? ⟨wr.heap.size, 1, none⟩ = false) ?_ (fun fz1 => ?_); (focus (refine frozen_later hb4 ?_ ?_; (focus (simp; omega)); (focus (go_simp; done)); done)); refine haveFirst (p := wr.heap.size < V4.heap.size) (World.block_lt_of_cell? _ _ z0) (fun lz => ?_)) | skip)))
          all_goals (go_wp2_with fail; go_meet)
          all_goals (refine ⟨x, _, rfl, rfl, by omega, (by go_simp), (by go_simp), (by go_simp), (by go_simp), (by go_simp), (by go_simp), (by go_simp), (by go_simp), (by go_simp), (by go_simp), ?_, ?_⟩)
          all_goals (first | (focus (repeat' (first | exact hc4 | refine Cur.set ?_ (by omega) _ _ | refine Cur.alloc ?_ _)); done) | (focus (repeat' (first | exact hF4 | refine OnlyF.setN ?_ (by omega) _ _ | refine OnlyF.alloc ?_ _)); done))
        case rest =>
          obtain ⟨x, b6, rfl, rfl, hb6, d0, d1, r0, r1, fr0, fr1, m0, m1, fm0, fm1, hcc, hfc⟩ := hcut
          have lr : w.heap.size < wc.heap.size := World.block_lt_of_cell? _ _ r0
          have lm : w.heap.size + 1 < wc.heap.size := World.block_lt_of_cell? _ _ m0
          have lb : b6 < wc.heap.size := World.block_lt_of_cell? _ _ d0
          have hsz := wsF_size (d := ⟨s, o⟩) (x := x)
          obtain ⟨ww, hww⟩ : ∃ ww, ww = wsF ⟨s, o⟩ x := ⟨_, rfl⟩
          rw [← hww] at d0 d1 hsz
          have hww2 : (wsF ⟨s, o⟩ x).2 = ww.2 := by rw [hww]
          rw [hww2]
          clear hww hww2
          obtain ⟨⟨ds, dp⟩, db⟩ := ww
          simp only [] at d0 d1 hsz
          have n1 : ¬ (b6 = w.heap.size) := by omega
          have n2 : ¬ (b6 = w.heap.size + 1) := by omega
          cases db
          · have hs5 : s.size + o.size ≤ 21 * (k + 1) := by omega
            go_wp2_with fail
            refine (one_any g _ 5 _ hcc (by omega) (by omega)).mono ?_
            rintro e V5 ⟨b, rfl, hc5, hf5⟩
            replace r0 : V5.cell? ⟨w.heap.size, 0, none⟩ = some (.string ⟨#[]⟩) := hf5.keeps (by go_simp) (by simp only [List.mem_singleton]; omega)
            replace r1 : V5.cell? ⟨w.heap.size, 1, none⟩ = some (.string ⟨#[]⟩) := hf5.keeps (by go_simp) (by simp only [List.mem_singleton]; omega)
            replace m0 : V5.cell? ⟨w.heap.size + 1, 0, none⟩ = some (.string s) := hf5.keeps (by go_simp) (by simp only [List.mem_singleton]; omega)
            replace m1 : V5.cell? ⟨w.heap.size + 1, 1, none⟩ = some (.string o) := hf5.keeps (by go_simp) (by simp only [List.mem_singleton]; omega)
            replace fr0 : V5.frozen? ⟨w.heap.size, 0, none⟩ = false := (hf5.frozen (by simp; try omega) (by simp only [List.mem_singleton]; omega)).trans (by go_simp)
            replace fr1 : V5.frozen? ⟨w.heap.size, 1, none⟩ = false := (hf5.frozen (by simp; try omega) (by simp only [List.mem_singleton]; omega)).trans (by go_simp)
            replace fm0 : V5.frozen? ⟨w.heap.size + 1, 0, none⟩ = false := (hf5.frozen (by simp; try omega) (by simp only [List.mem_singleton]; omega)).trans (by go_simp)
            replace fm1 : V5.frozen? ⟨w.heap.size + 1, 1, none⟩ = false := (hf5.frozen (by simp; try omega) (by simp only [List.mem_singleton]; omega)).trans (by go_simp)
            have lr5 : w.heap.size < V5.heap.size := World.block_lt_of_cell? _ _ r0
            have lm5 : w.heap.size + 1 < V5.heap.size := World.block_lt_of_cell? _ _ m0
            have hF5 : OnlyF [g] w V5 := OnlyF.trans (by repeat' (first | exact hfc | refine OnlyF.setN ?_ (by omega) _ _)) hf5
            have a1 : ¬ (9223372036854775807 < s.size + o.size) := by omega
            cases b
            all_goals
              go_wp2
              go_roundw
              case measure => simp [intOf]; omega
              case rel =>
                first | exact ⟨k + 1, s, o, by omega, by go_num, by omega, r0, r1, fr0, fr1, m0, m1, fm0, fm1, hc5.mono (by omega), hF5⟩ | (refine ⟨k + 1, s ++ o, ⟨#[]⟩, by omega, by go_num, by rw [ByteArray.size_append]; exact (by omega : _ ≤ _), (by go_simp), (by go_simp), (by go_simp), (by go_simp), (by go_simp), (by go_simp), (by go_simp), (by go_simp), ?_, ?_⟩; (repeat' (first | exact hc5.mono (by omega) | refine Cur.set ?_ (by omega) _ _)); (repeat' (first | exact hF5 | refine OnlyF.setN ?_ (by omega) _ _)))
          · have hs5 : ds.size + dp.size ≤ 21 * (k + 1) := by have := hsz rfl; omega
            go_wp2_with fail
            refine (one_any g _ 5 _ (hcc.set (by omega) _ _ |>.set (by omega) _ _) (by omega) (by omega)).mono ?_
            rintro e V5 ⟨b, rfl, hc5, hf5⟩
            replace r0 : V5.cell? ⟨w.heap.size, 0, none⟩ = some (.string ⟨#[]⟩) := hf5.keeps (by go_simp) (by simp only [List.mem_singleton]; omega)
            replace r1 : V5.cell? ⟨w.heap.size, 1, none⟩ = some (.string ⟨#[]⟩) := hf5.keeps (by go_simp) (by simp only [List.mem_singleton]; omega)
            replace m0 : V5.cell? ⟨w.heap.size + 1, 0, none⟩ = some (.string ds) := hf5.keeps (by go_simp) (by simp only [List.mem_singleton]; omega)
            replace m1 : V5.cell? ⟨w.heap.size + 1, 1, none⟩ = some (.string dp) := hf5.keeps (by go_simp) (by simp only [List.mem_singleton]; omega)
            replace fr0 : V5.frozen? ⟨w.heap.size, 0, none⟩ = false := (hf5.frozen (by simp; try omega) (by simp only [List.mem_singleton]; omega)).trans (by go_simp)
            replace fr1 : V5.frozen? ⟨w.heap.size, 1, none⟩ = false := (hf5.frozen (by simp; try omega) (by simp only [List.mem_singleton]; omega)).trans (by go_simp)
            replace fm0 : V5.frozen? ⟨w.heap.size + 1, 0, none⟩ = false := (hf5.frozen (by simp; try omega) (by simp only [List.mem_singleton]; omega)).trans (by go_simp)
            replace fm1 : V5.frozen? ⟨w.heap.size + 1, 1, none⟩ = false := (hf5.frozen (by simp; try omega) (by simp only [List.mem_singleton]; omega)).trans (by go_simp)
            have lr5 : w.heap.size < V5.heap.size := World.block_lt_of_cell? _ _ r0
            have lm5 : w.heap.size + 1 < V5.heap.size := World.block_lt_of_cell? _ _ m0
            have hF5 : OnlyF [g] w V5 := OnlyF.trans (by repeat' (first | exact hfc | refine OnlyF.setN ?_ (by omega) _ _)) hf5
            have a1 : ¬ (9223372036854775807 < ds.size + dp.size) := by omega
            cases b
            all_goals
              go_wp2
              go_roundw
              case measure => simp [intOf]; omega
              case rel =>
                first | exact ⟨k + 1, ds, dp, by omega, by go_num, by omega, r0, r1, fr0, fr1, m0, m1, fm0, fm1, hc5.mono (by omega), hF5⟩ | (refine ⟨k + 1, ds ++ dp, ⟨#[]⟩, by omega, by go_num, by rw [ByteArray.size_append]; exact (by omega : _ ≤ _), (by go_simp), (by go_simp), (by go_simp), (by go_simp), (by go_simp), (by go_simp), (by go_simp), (by go_simp), ?_, ?_⟩; (repeat' (first | exact hc5.mono (by omega) | refine Cur.set ?_ (by omega) _ _)); (repeat' (first | exact hF5 | refine OnlyF.setN ?_ (by omega) _ _)))
      · have hkd : decide ((k : Int) < 43) = false := by simp; omega
        go_wp2_with fail
        refine (pick_any g _ 24 _ (hcr.below (by repeat' (first | exact bl_refl _ | refine bl_alloc ?_ _ | refine bl_drew ?_ | refine bl_set ?_ (by simp; try omega) _))) (by omega) (by omega)).mono ?_
        rintro e V6 ⟨q, rfl, hq, hc6, hf6⟩
        replace r0 : V6.cell? ⟨w.heap.size, 0, none⟩ = some (.string ⟨#[]⟩) := hf6.keeps (by go_simp) (by simp only [List.mem_singleton]; omega)
        replace r1 : V6.cell? ⟨w.heap.size, 1, none⟩ = some (.string ⟨#[]⟩) := hf6.keeps (by go_simp) (by simp only [List.mem_singleton]; omega)
        replace fr0 : V6.frozen? ⟨w.heap.size, 0, none⟩ = false := (hf6.frozen (by simp; try omega) (by simp only [List.mem_singleton]; omega)).trans (by go_simp)
        replace fr1 : V6.frozen? ⟨w.heap.size, 1, none⟩ = false := (hf6.frozen (by simp; try omega) (by simp only [List.mem_singleton]; omega)).trans (by go_simp)
        have lr6 : w.heap.size < V6.heap.size := World.block_lt_of_cell? _ _ r0
        replace m0 : V6.cell? ⟨w.heap.size + 1, 0, none⟩ = some (.string s) := hf6.keeps (by go_simp) (by simp only [List.mem_singleton]; omega)
        replace m1 : V6.cell? ⟨w.heap.size + 1, 1, none⟩ = some (.string o) := hf6.keeps (by go_simp) (by simp only [List.mem_singleton]; omega)
        replace fm0 : V6.frozen? ⟨w.heap.size + 1, 0, none⟩ = false := (hf6.frozen (by simp; try omega) (by simp only [List.mem_singleton]; omega)).trans (by go_simp)
        replace fm1 : V6.frozen? ⟨w.heap.size + 1, 1, none⟩ = false := (hf6.frozen (by simp; try omega) (by simp only [List.mem_singleton]; omega)).trans (by go_simp)
        have lm6 : w.heap.size + 1 < V6.heap.size := World.block_lt_of_cell? _ _ m0
        have lg6 : g < V6.heap.size := hc6.lt
        have hF6 : OnlyF [g] w V6 := hfr.trans ((OnlyF.below (a := wr) (by repeat' (first | exact bl_refl _ | refine bl_alloc ?_ _ | refine bl_drew ?_ | refine bl_set ?_ (by simp; try omega) _))).trans hf6)
        have hq0 := hq.1
        clear hq
        by_cases hq1 : q = 0
        · subst hq1
          go_wp2_with fail
          refine (spoilt_any g _ o ⟨#[61, 112, 49, 57, 10]⟩ _ (hc6.below (by repeat' (first | exact bl_refl _ | refine bl_alloc ?_ _ | refine bl_drew ?_ | refine bl_set ?_ (by simp; try omega) _))) (by omega) (by omega) (by decide) (by decide)).mono ?_
          rintro e V7 ⟨t, rfl, ht, hc7, hf7⟩
          replace r0 : V7.cell? ⟨w.heap.size, 0, none⟩ = some (.string ⟨#[]⟩) := hf7.keeps (by go_simp) (by simp only [List.mem_singleton]; omega)
          replace r1 : V7.cell? ⟨w.heap.size, 1, none⟩ = some (.string ⟨#[]⟩) := hf7.keeps (by go_simp) (by simp only [List.mem_singleton]; omega)
          replace fr0 : V7.frozen? ⟨w.heap.size, 0, none⟩ = false := (hf7.frozen (by simp; try omega) (by simp only [List.mem_singleton]; omega)).trans (by go_simp)
          replace fr1 : V7.frozen? ⟨w.heap.size, 1, none⟩ = false := (hf7.frozen (by simp; try omega) (by simp only [List.mem_singleton]; omega)).trans (by go_simp)
          have lr7 : w.heap.size < V7.heap.size := World.block_lt_of_cell? _ _ r0
          replace m0 : V7.cell? ⟨w.heap.size + 1, 0, none⟩ = some (.string s) := hf7.keeps (by go_simp) (by simp only [List.mem_singleton]; omega)
          replace m1 : V7.cell? ⟨w.heap.size + 1, 1, none⟩ = some (.string o) := hf7.keeps (by go_simp) (by simp only [List.mem_singleton]; omega)
          replace fm0 : V7.frozen? ⟨w.heap.size + 1, 0, none⟩ = false := (hf7.frozen (by simp; try omega) (by simp only [List.mem_singleton]; omega)).trans (by go_simp)
          replace fm1 : V7.frozen? ⟨w.heap.size + 1, 1, none⟩ = false := (hf7.frozen (by simp; try omega) (by simp only [List.mem_singleton]; omega)).trans (by go_simp)
          have lm7 : w.heap.size + 1 < V7.heap.size := World.block_lt_of_cell? _ _ m0
          have lg7 : g < V7.heap.size := hc7.lt
          have hF7 : OnlyF [g] w V7 := hF6.trans ((OnlyF.below (a := V6) (by repeat' (first | exact bl_refl _ | refine bl_alloc ?_ _ | refine bl_drew ?_ | refine bl_set ?_ (by simp; try omega) _))).trans hf7)
          go_wp2
          refine bodyPost_ret (v := .agg #[.string s, .string t]) (by simp [results, Tryd.results18, go_sem, r0, r1]; try rfl) rfl ?_
          refine ⟨⟨s, t⟩, rfl, (by simp only []; omega), ?_, ?_⟩
          · repeat' (first | exact hc7.mono (by omega) | refine Cur.set ?_ (by omega) _ _)
          · repeat' (first | exact hF7 | refine OnlyF.setN ?_ (by omega) _ _)
        by_cases hq2 : q = 1
        · subst hq2
          go_wp2_with fail
          refine (spoilt_any g _ s ⟨#[61, 112, 49, 57, 10]⟩ _ (hc6.below (by repeat' (first | exact bl_refl _ | refine bl_alloc ?_ _ | refine bl_drew ?_ | refine bl_set ?_ (by simp; try omega) _))) (by omega) (by omega) (by decide) (by decide)).mono ?_
          rintro e V7 ⟨t, rfl, ht, hc7, hf7⟩
          replace r0 : V7.cell? ⟨w.heap.size, 0, none⟩ = some (.string ⟨#[]⟩) := hf7.keeps (by go_simp) (by simp only [List.mem_singleton]; omega)
          replace r1 : V7.cell? ⟨w.heap.size, 1, none⟩ = some (.string ⟨#[]⟩) := hf7.keeps (by go_simp) (by simp only [List.mem_singleton]; omega)
          replace fr0 : V7.frozen? ⟨w.heap.size, 0, none⟩ = false := (hf7.frozen (by simp; try omega) (by simp only [List.mem_singleton]; omega)).trans (by go_simp)
          replace fr1 : V7.frozen? ⟨w.heap.size, 1, none⟩ = false := (hf7.frozen (by simp; try omega) (by simp only [List.mem_singleton]; omega)).trans (by go_simp)
          have lr7 : w.heap.size < V7.heap.size := World.block_lt_of_cell? _ _ r0
          replace m0 : V7.cell? ⟨w.heap.size + 1, 0, none⟩ = some (.string s) := hf7.keeps (by go_simp) (by simp only [List.mem_singleton]; omega)
          replace m1 : V7.cell? ⟨w.heap.size + 1, 1, none⟩ = some (.string o) := hf7.keeps (by go_simp) (by simp only [List.mem_singleton]; omega)
          replace fm0 : V7.frozen? ⟨w.heap.size + 1, 0, none⟩ = false := (hf7.frozen (by simp; try omega) (by simp only [List.mem_singleton]; omega)).trans (by go_simp)
          replace fm1 : V7.frozen? ⟨w.heap.size + 1, 1, none⟩ = false := (hf7.frozen (by simp; try omega) (by simp only [List.mem_singleton]; omega)).trans (by go_simp)
          have lm7 : w.heap.size + 1 < V7.heap.size := World.block_lt_of_cell? _ _ m0
          have lg7 : g < V7.heap.size := hc7.lt
          have hF7 : OnlyF [g] w V7 := hF6.trans ((OnlyF.below (a := V6) (by repeat' (first | exact bl_refl _ | refine bl_alloc ?_ _ | refine bl_drew ?_ | refine bl_set ?_ (by simp; try omega) _))).trans hf7)
          go_wp2
          refine bodyPost_ret (v := .agg #[.string t, .string o]) (by simp [results, Tryd.results18, go_sem, r0, r1]; try rfl) rfl ?_
          refine ⟨⟨t, o⟩, rfl, (by simp only []; omega), ?_, ?_⟩
          · repeat' (first | exact hc7.mono (by omega) | refine Cur.set ?_ (by omega) _ _)
          · repeat' (first | exact hF7 | refine OnlyF.setN ?_ (by omega) _ _)
        go_wp2
        refine bodyPost_ret (v := .agg #[.string s, .string o]) (by simp [results, Tryd.results18, go_sem, r0, r1]; try rfl) rfl ?_
        refine ⟨⟨s, o⟩, rfl, (by simp only []; omega), ?_, ?_⟩
        · repeat' (first | exact hc6.mono (by omega) | refine Cur.set ?_ (by omega) _ _)
        · repeat' (first | exact hF6 | refine OnlyF.setN ?_ (by omega) _ _)
  · skip
    go_wp2
    go_loopw [5] (fun kv wr => ∃ (k : Nat) (s o : ByteArray), k ≤ n ∧ kv = .int .i64 k ∧ s.size + o.size ≤ 21 * k ∧ wr.cell? ⟨w.heap.size, 0, none⟩ = some (.string ⟨#[]⟩) ∧ wr.cell? ⟨w.heap.size, 1, none⟩ = some (.string ⟨#[]⟩) ∧ wr.frozen? ⟨w.heap.size, 0, none⟩ = false ∧ wr.frozen? ⟨w.heap.size, 1, none⟩ = false ∧ wr.cell? ⟨w.heap.size + 1, 0, none⟩ = some (.string s) ∧ wr.cell? ⟨w.heap.size + 1, 1, none⟩ = some (.string o) ∧ wr.frozen? ⟨w.heap.size + 1, 0, none⟩ = false ∧ wr.frozen? ⟨w.heap.size + 1, 1, none⟩ = false ∧ Cur wr g (N + 4 + 30 * (k : Int)) ∧ OnlyF [g] w wr) (fun kv _ => n - (intOf kv).toNat)
    case atStart => exact ⟨0, ⟨#[]⟩, ⟨#[]⟩, Nat.zero_le _, rfl, by decide, r0, r1, fr0, fr1, m0, m1, fm0, fm1, hc2.mono (by omega), hF2⟩
    case round =>
      obtain ⟨k, s, o, hk, rfl, hso, r0, r1, fr0, fr1, m0, m1, fm0, fm1, hcr, hfr⟩ := hrel
      have lr : w.heap.size < wr.heap.size := World.block_lt_of_cell? _ _ r0
      have lm : w.heap.size + 1 < wr.heap.size := World.block_lt_of_cell? _ _ m0
      by_cases hlt : k < n
      · have hkd : decide ((k : Int) < n) = true := by simp; omega
        go_upto_region 8 with fail
        go_cut [6, 7] from 13 to 34 (fun s6 s7 wx => ∃ (x : State) (b6 : Nat), s6 = .pointer (some ⟨b6, 0, none⟩) ∧ s7 = .bool (wsF ⟨s, o⟩ x).2 ∧ w.heap.size + 2 ≤ b6 ∧ wx.cell? ⟨b6, 0, none⟩ = some (.string (wsF ⟨s, o⟩ x).1.Safe) ∧ wx.cell? ⟨b6, 1, none⟩ = some (.string (wsF ⟨s, o⟩ x).1.Open) ∧ wx.cell? ⟨w.heap.size, 0, none⟩ = some (.string ⟨#[]⟩) ∧ wx.cell? ⟨w.heap.size, 1, none⟩ = some (.string ⟨#[]⟩) ∧ wx.frozen? ⟨w.heap.size, 0, none⟩ = false ∧ wx.frozen? ⟨w.heap.size, 1, none⟩ = false ∧ wx.cell? ⟨w.heap.size + 1, 0, none⟩ = some (.string s) ∧ wx.cell? ⟨w.heap.size + 1, 1, none⟩ = some (.string o) ∧ wx.frozen? ⟨w.heap.size + 1, 0, none⟩ = false ∧ wx.frozen? ⟨w.heap.size + 1, 1, none⟩ = false ∧ Cur wx g (N + 24 + 30 * (k : Int)) ∧ OnlyF [g] w wx)
        case first =>
          go_region_held3 (fun w' => w'.cell? ⟨w.heap.size + 1, 0, none⟩ = some (.string s) ∧ w'.cell? ⟨w.heap.size + 1, 1, none⟩ = some (.string o)) (first | exact ⟨m0, m1⟩ | (refine ⟨?_, ?_⟩ <;> (go_simp; done)) | (refine ⟨?_, ?_⟩ <;> (rw [World.cell?_setCell_other _ _ _ _ (by intro e; injection e with e; omega), World.cell?_setCell_other _ _ _ _ (by intro e; injection e with e; omega)]; first | exact m0 | exact m1)) | go_keep) (first | (go_at_call 32; refine (curState_any g _ _ (hcr.below (by repeat' (first | exact bl_refl _ | refine bl_alloc ?_ _ | refine bl_drew ?_ | refine bl_set ?_ (by simp; try omega) _))) (by omega)).mono ?_; rintro e V3 ⟨x, rfl, hx, hv, hc3, hf3⟩; have r0 : V3.cell? ⟨w.heap.size, 0, none⟩ = some (.string ⟨#[]⟩) := hf3.keeps (by go_simp) (by simp only [List.mem_singleton]; omega); have r1 : V3.cell? ⟨w.heap.size, 1, none⟩ = some (.string ⟨#[]⟩) := hf3.keeps (by go_simp) (by simp only [List.mem_singleton]; omega); have m0 : V3.cell? ⟨w.heap.size + 1, 0, none⟩ = some (.string s) := hf3.keeps (by go_simp) (by simp only [List.mem_singleton]; omega); have m1 : V3.cell? ⟨w.heap.size + 1, 1, none⟩ = some (.string o) := hf3.keeps (by go_simp) (by simp only [List.mem_singleton]; omega); have fr0 : V3.frozen? ⟨w.heap.size, 0, none⟩ = false := (hf3.frozen (by simp; try omega) (by simp only [List.mem_singleton]; omega)).trans (by go_simp); have fr1 : V3.frozen? ⟨w.heap.size, 1, none⟩ = false := (hf3.frozen (by simp; try omega) (by simp only [List.mem_singleton]; omega)).trans (by go_simp); have fm0 : V3.frozen? ⟨w.heap.size + 1, 0, none⟩ = false := (hf3.frozen (by simp; try omega) (by simp only [List.mem_singleton]; omega)).trans (by go_simp); have fm1 : V3.frozen? ⟨w.heap.size + 1, 1, none⟩ = false := (hf3.frozen (by simp; try omega) (by simp only [List.mem_singleton]; omega)).trans (by go_simp); have lrV3 : w.heap.size < V3.heap.size := World.block_lt_of_cell? _ _ r0; have lmV3 : w.heap.size + 1 < V3.heap.size := World.block_lt_of_cell? _ _ m0; have hF3 : OnlyF [g] w V3 := hfr.trans ((OnlyF.below (by repeat' (first | exact bl_refl _ | refine bl_alloc ?_ _ | refine bl_drew ?_ | refine bl_set ?_ (by simp; try omega) _))).trans hf3); have lV3 : wr.heap.size ≤ V3.heap.size := (by have hz := hf3.size; (try simp at hz); omega); (first | (refine haveFirst (p := V3.cell? ⟨wr.heap.size, 0, none⟩ = some (.string ⟨#[]⟩)) ?_ (fun z0 => ?_); (focus (refine hf3.keeps ?_ ?_; (focus (go_simp; done)); (focus (simp only [List.mem_singleton]; omega)); done)); refine haveFirst (p := V3.frozen? ⟨wr.heap.size, 0, none⟩ = false) ?_ (fun fz0 => ?_); (focus (refine (hf3.frozen ?_ ?_).trans ?_; (focus (simp; done)); (focus (simp only [List.mem_singleton]; omega)); (focus (go_simp; done)); done)); refine haveFirst (p := V3.cell? ⟨wr.heap.size, 1, none⟩ = some (.string ⟨#[]⟩)) ?_ (fun z1 => ?_); (focus (refine hf3.keeps ?_ ?_; (focus (go_simp; done)); (focus (simp only [List.mem_singleton]; omega)); done)); refine haveFirst (p := V3.frozen? ⟨wr.heap.size, 1, none⟩ = false) ?_ (fun fz1 => ?_); (focus (refine (hf3.frozen ?_ ?_).trans ?_; (focus (simp; done)); (focus (simp only [List.mem_singleton]; omega)); (focus (go_simp; done)); done)); refine haveFirst (p := wr.heap.size < V3.heap.size) (World.block_lt_of_cell? _ _ z0) (fun lz => ?_)) | skip)) | (go_at_call 31; refine (specWriteState_any ⟨s, o⟩ x _ (by simp only []; omega) (by unfold maxLen; omega)).mono ?_; rintro e V4 ⟨rfl, hb4⟩; have hE4 : Below V3.heap.size V3 V4 := bl_trans (by repeat' (first | exact bl_refl _ | refine bl_alloc ?_ _ | refine bl_drew ?_ | refine bl_set ?_ (by simp; try omega) _)) hb4; have hF4 : OnlyF [g] w V4 := hF3.trans (OnlyF.below hE4); have hc4 : Cur V4 g (N + 24 + 30 * (k : Int)) := (hc3.below hE4).mono (by omega); have r0 : V4.cell? ⟨w.heap.size, 0, none⟩ = some (.string ⟨#[]⟩) := cell_later hb4 (by go_simp); have r1 : V4.cell? ⟨w.heap.size, 1, none⟩ = some (.string ⟨#[]⟩) := cell_later hb4 (by go_simp); have m0 : V4.cell? ⟨w.heap.size + 1, 0, none⟩ = some (.string s) := cell_later hb4 (by go_simp); have m1 : V4.cell? ⟨w.heap.size + 1, 1, none⟩ = some (.string o) := cell_later hb4 (by go_simp); have fr0 : V4.frozen? ⟨w.heap.size, 0, none⟩ = false := frozen_later hb4 (by simp; try omega) (by go_simp); have fr1 : V4.frozen? ⟨w.heap.size, 1, none⟩ = false := frozen_later hb4 (by simp; try omega) (by go_simp); have fm0 : V4.frozen? ⟨w.heap.size + 1, 0, none⟩ = false := frozen_later hb4 (by simp; try omega) (by go_simp); have fm1 : V4.frozen? ⟨w.heap.size + 1, 1, none⟩ = false := frozen_later hb4 (by simp; try omega) (by go_simp); have lrV4 : w.heap.size < V4.heap.size := World.block_lt_of_cell? _ _ r0; have lmV4 : w.heap.size + 1 < V4.heap.size := World.block_lt_of_cell? _ _ m0; (first | (refine haveFirst (p := V4.cell? ⟨V3.heap.size, 0, none⟩ = some (.string ⟨#[]⟩)) ?_ (fun z0 => ?_); (focus (refine cell_later hb4 ?_; go_simp; done)); refine haveFirst (p := V4.frozen? ⟨V3.heap.size, 0, none⟩ = false) ?_ (fun fz0 => ?_); (focus (refine frozen_later hb4 ?_ ?_; (focus (simp; done)); (focus (go_simp; done)); done)); refine haveFirst (p := V4.cell? ⟨V3.heap.size, 1, none⟩ = some (.string ⟨#[]⟩)) ?_ (fun z1 => ?_); (focus (refine cell_later hb4 ?_; go_simp; done)); refine haveFirst (p := V4.frozen? ⟨V3.heap.size, 1, none⟩ = false) ?_ (fun fz1 => ?_); (focus (refine frozen_later hb4 ?_ ?_; (focus (simp; done)); (focus (go_simp; done)); done)); refine haveFirst (p := V3.heap.size < V4.heap.size) (World.block_lt_of_cell? _ _ z0) (fun lz => ?_)) | (refine haveFirst (p := V4.cell? ⟨wr.heap.size, 0, none⟩ = some (.string ⟨#[]⟩)) ?_ (fun z0 => ?_); (focus (refine cell_later hb4 ?_; go_simp; done)); refine haveFirst (p := V4.frozen? ⟨wr.heap.size, 0, none⟩ = false) ?_ (fun fz0 => ?_); (focus (refine frozen_later hb4 ?_ ?_; (focus (simp; omega)); (focus (go_simp; done)); done)); refine haveFirst (p := V4.cell? ⟨wr.heap.size, 1, none⟩ = some (.string ⟨#[]⟩)) ?_ (fun z1 => ?_); (focus (refine cell_later hb4 ?_; go_simp; done)); refine haveFirst (p := V4.frozen? ⟨wr.heap.size, 1, none⟩ = false) ?_ (fun fz1 => ?_); (focus (refine frozen_later hb4 ?_ ?_; (focus (simp; omega)); (focus (go_simp; done)); done)); refine haveFirst (p := wr.heap.size < V4.heap.size) (World.block_lt_of_cell? _ _ z0) (fun lz => ?_)) | skip)))
          all_goals (go_wp2_with fail; go_meet)
          all_goals (refine ⟨x, _, rfl, rfl, by omega, (by go_simp), (by go_simp), (by go_simp), (by go_simp), (by go_simp), (by go_simp), (by go_simp), (by go_simp), (by go_simp), (by go_simp), ?_, ?_⟩)
          all_goals (first | (focus (repeat' (first | exact hc4 | refine Cur.set ?_ (by omega) _ _ | refine Cur.alloc ?_ _)); done) | (focus (repeat' (first | exact hF4 | refine OnlyF.setN ?_ (by omega) _ _ | refine OnlyF.alloc ?_ _)); done))
        case rest =>
          obtain ⟨x, b6, rfl, rfl, hb6, d0, d1, r0, r1, fr0, fr1, m0, m1, fm0, fm1, hcc, hfc⟩ := hcut
          have lr : w.heap.size < wc.heap.size := World.block_lt_of_cell? _ _ r0
          have lm : w.heap.size + 1 < wc.heap.size := World.block_lt_of_cell? _ _ m0
          have lb : b6 < wc.heap.size := World.block_lt_of_cell? _ _ d0
          have hsz := wsF_size (d := ⟨s, o⟩) (x := x)
          obtain ⟨ww, hww⟩ : ∃ ww, ww = wsF ⟨s, o⟩ x := ⟨_, rfl⟩
          rw [← hww] at d0 d1 hsz
          have hww2 : (wsF ⟨s, o⟩ x).2 = ww.2 := by rw [hww]
          rw [hww2]
          clear hww hww2
          obtain ⟨⟨ds, dp⟩, db⟩ := ww
          simp only [] at d0 d1 hsz
          have n1 : ¬ (b6 = w.heap.size) := by omega
          have n2 : ¬ (b6 = w.heap.size + 1) := by omega
          cases db
          · have hs5 : s.size + o.size ≤ 21 * (k + 1) := by omega
            go_wp2_with fail
            refine (one_any g _ 5 _ hcc (by omega) (by omega)).mono ?_
            rintro e V5 ⟨b, rfl, hc5, hf5⟩
            replace r0 : V5.cell? ⟨w.heap.size, 0, none⟩ = some (.string ⟨#[]⟩) := hf5.keeps (by go_simp) (by simp only [List.mem_singleton]; omega)
            replace r1 : V5.cell? ⟨w.heap.size, 1, none⟩ = some (.string ⟨#[]⟩) := hf5.keeps (by go_simp) (by simp only [List.mem_singleton]; omega)
            replace m0 : V5.cell? ⟨w.heap.size + 1, 0, none⟩ = some (.string s) := hf5.keeps (by go_simp) (by simp only [List.mem_singleton]; omega)
            replace m1 : V5.cell? ⟨w.heap.size + 1, 1, none⟩ = some (.string o) := hf5.keeps (by go_simp) (by simp only [List.mem_singleton]; omega)
            replace fr0 : V5.frozen? ⟨w.heap.size, 0, none⟩ = false := (hf5.frozen (by simp; try omega) (by simp only [List.mem_singleton]; omega)).trans (by go_simp)
            replace fr1 : V5.frozen? ⟨w.heap.size, 1, none⟩ = false := (hf5.frozen (by simp; try omega) (by simp only [List.mem_singleton]; omega)).trans (by go_simp)
            replace fm0 : V5.frozen? ⟨w.heap.size + 1, 0, none⟩ = false := (hf5.frozen (by simp; try omega) (by simp only [List.mem_singleton]; omega)).trans (by go_simp)
            replace fm1 : V5.frozen? ⟨w.heap.size + 1, 1, none⟩ = false := (hf5.frozen (by simp; try omega) (by simp only [List.mem_singleton]; omega)).trans (by go_simp)
            have lr5 : w.heap.size < V5.heap.size := World.block_lt_of_cell? _ _ r0
            have lm5 : w.heap.size + 1 < V5.heap.size := World.block_lt_of_cell? _ _ m0
            have hF5 : OnlyF [g] w V5 := OnlyF.trans (by repeat' (first | exact hfc | refine OnlyF.setN ?_ (by omega) _ _)) hf5
            have a1 : ¬ (9223372036854775807 < s.size + o.size) := by omega
            cases b
            all_goals
              go_wp2
              go_roundw
              case measure => simp [intOf]; omega
              case rel =>
                first | exact ⟨k + 1, s, o, by omega, by go_num, by omega, r0, r1, fr0, fr1, m0, m1, fm0, fm1, hc5.mono (by omega), hF5⟩ | (refine ⟨k + 1, s ++ o, ⟨#[]⟩, by omega, by go_num, by rw [ByteArray.size_append]; exact (by omega : _ ≤ _), (by go_simp), (by go_simp), (by go_simp), (by go_simp), (by go_simp), (by go_simp), (by go_simp), (by go_simp), ?_, ?_⟩; (repeat' (first | exact hc5.mono (by omega) | refine Cur.set ?_ (by omega) _ _)); (repeat' (first | exact hF5 | refine OnlyF.setN ?_ (by omega) _ _)))
          · have hs5 : ds.size + dp.size ≤ 21 * (k + 1) := by have := hsz rfl; omega
            go_wp2_with fail
            refine (one_any g _ 5 _ (hcc.set (by omega) _ _ |>.set (by omega) _ _) (by omega) (by omega)).mono ?_
            rintro e V5 ⟨b, rfl, hc5, hf5⟩
            replace r0 : V5.cell? ⟨w.heap.size, 0, none⟩ = some (.string ⟨#[]⟩) := hf5.keeps (by go_simp) (by simp only [List.mem_singleton]; omega)
            replace r1 : V5.cell? ⟨w.heap.size, 1, none⟩ = some (.string ⟨#[]⟩) := hf5.keeps (by go_simp) (by simp only [List.mem_singleton]; omega)
            replace m0 : V5.cell? ⟨w.heap.size + 1, 0, none⟩ = some (.string ds) := hf5.keeps (by go_simp) (by simp only [List.mem_singleton]; omega)
            replace m1 : V5.cell? ⟨w.heap.size + 1, 1, none⟩ = some (.string dp) := hf5.keeps (by go_simp) (by simp only [List.mem_singleton]; omega)
            replace fr0 : V5.frozen? ⟨w.heap.size, 0, none⟩ = false := (hf5.frozen (by simp; try omega) (by simp only [List.mem_singleton]; omega)).trans (by go_simp)
            replace fr1 : V5.frozen? ⟨w.heap.size, 1, none⟩ = false := (hf5.frozen (by simp; try omega) (by simp only [List.mem_singleton]; omega)).trans (by go_simp)
            replace fm0 : V5.frozen? ⟨w.heap.size + 1, 0, none⟩ = false := (hf5.frozen (by simp; try omega) (by simp only [List.mem_singleton]; omega)).trans (by go_simp)
            replace fm1 : V5.frozen? ⟨w.heap.size + 1, 1, none⟩ = false := (hf5.frozen (by simp; try omega) (by simp only [List.mem_singleton]; omega)).trans (by go_simp)
            have lr5 : w.heap.size < V5.heap.size := World.block_lt_of_cell? _ _ r0
            have lm5 : w.heap.size + 1 < V5.heap.size := World.block_lt_of_cell? _ _ m0
            have hF5 : OnlyF [g] w V5 := OnlyF.trans (by repeat' (first | exact hfc | refine OnlyF.setN ?_ (by omega) _ _)) hf5
            have a1 : ¬ (9223372036854775807 < ds.size + dp.size) := by omega
            cases b
            all_goals
              go_wp2
              go_roundw
              case measure => simp [intOf]; omega
              case rel =>
                first | exact ⟨k + 1, ds, dp, by omega, by go_num, by omega, r0, r1, fr0, fr1, m0, m1, fm0, fm1, hc5.mono (by omega), hF5⟩ | (refine ⟨k + 1, ds ++ dp, ⟨#[]⟩, by omega, by go_num, by rw [ByteArray.size_append]; exact (by omega : _ ≤ _), (by go_simp), (by go_simp), (by go_simp), (by go_simp), (by go_simp), (by go_simp), (by go_simp), (by go_simp), ?_, ?_⟩; (repeat' (first | exact hc5.mono (by omega) | refine Cur.set ?_ (by omega) _ _)); (repeat' (first | exact hF5 | refine OnlyF.setN ?_ (by omega) _ _)))
      · have hkd : decide ((k : Int) < n) = false := by simp; omega
        go_wp2_with fail
        refine (pick_any g _ 24 _ (hcr.below (by repeat' (first | exact bl_refl _ | refine bl_alloc ?_ _ | refine bl_drew ?_ | refine bl_set ?_ (by simp; try omega) _))) (by omega) (by omega)).mono ?_
        rintro e V6 ⟨q, rfl, hq, hc6, hf6⟩
        replace r0 : V6.cell? ⟨w.heap.size, 0, none⟩ = some (.string ⟨#[]⟩) := hf6.keeps (by go_simp) (by simp only [List.mem_singleton]; omega)
        replace r1 : V6.cell? ⟨w.heap.size, 1, none⟩ = some (.string ⟨#[]⟩) := hf6.keeps (by go_simp) (by simp only [List.mem_singleton]; omega)
        replace fr0 : V6.frozen? ⟨w.heap.size, 0, none⟩ = false := (hf6.frozen (by simp; try omega) (by simp only [List.mem_singleton]; omega)).trans (by go_simp)
        replace fr1 : V6.frozen? ⟨w.heap.size, 1, none⟩ = false := (hf6.frozen (by simp; try omega) (by simp only [List.mem_singleton]; omega)).trans (by go_simp)
        have lr6 : w.heap.size < V6.heap.size := World.block_lt_of_cell? _ _ r0
        replace m0 : V6.cell? ⟨w.heap.size + 1, 0, none⟩ = some (.string s) := hf6.keeps (by go_simp) (by simp only [List.mem_singleton]; omega)
        replace m1 : V6.cell? ⟨w.heap.size + 1, 1, none⟩ = some (.string o) := hf6.keeps (by go_simp) (by simp only [List.mem_singleton]; omega)
        replace fm0 : V6.frozen? ⟨w.heap.size + 1, 0, none⟩ = false := (hf6.frozen (by simp; try omega) (by simp only [List.mem_singleton]; omega)).trans (by go_simp)
        replace fm1 : V6.frozen? ⟨w.heap.size + 1, 1, none⟩ = false := (hf6.frozen (by simp; try omega) (by simp only [List.mem_singleton]; omega)).trans (by go_simp)
        have lm6 : w.heap.size + 1 < V6.heap.size := World.block_lt_of_cell? _ _ m0
        have lg6 : g < V6.heap.size := hc6.lt
        have hF6 : OnlyF [g] w V6 := hfr.trans ((OnlyF.below (a := wr) (by repeat' (first | exact bl_refl _ | refine bl_alloc ?_ _ | refine bl_drew ?_ | refine bl_set ?_ (by simp; try omega) _))).trans hf6)
        have hq0 := hq.1
        clear hq
        by_cases hq1 : q = 0
        · subst hq1
          go_wp2_with fail
          refine (spoilt_any g _ o ⟨#[61, 112, 49, 57, 10]⟩ _ (hc6.below (by repeat' (first | exact bl_refl _ | refine bl_alloc ?_ _ | refine bl_drew ?_ | refine bl_set ?_ (by simp; try omega) _))) (by omega) (by omega) (by decide) (by decide)).mono ?_
          rintro e V7 ⟨t, rfl, ht, hc7, hf7⟩
          replace r0 : V7.cell? ⟨w.heap.size, 0, none⟩ = some (.string ⟨#[]⟩) := hf7.keeps (by go_simp) (by simp only [List.mem_singleton]; omega)
          replace r1 : V7.cell? ⟨w.heap.size, 1, none⟩ = some (.string ⟨#[]⟩) := hf7.keeps (by go_simp) (by simp only [List.mem_singleton]; omega)
          replace fr0 : V7.frozen? ⟨w.heap.size, 0, none⟩ = false := (hf7.frozen (by simp; try omega) (by simp only [List.mem_singleton]; omega)).trans (by go_simp)
          replace fr1 : V7.frozen? ⟨w.heap.size, 1, none⟩ = false := (hf7.frozen (by simp; try omega) (by simp only [List.mem_singleton]; omega)).trans (by go_simp)
          have lr7 : w.heap.size < V7.heap.size := World.block_lt_of_cell? _ _ r0
          replace m0 : V7.cell? ⟨w.heap.size + 1, 0, none⟩ = some (.string s) := hf7.keeps (by go_simp) (by simp only [List.mem_singleton]; omega)
          replace m1 : V7.cell? ⟨w.heap.size + 1, 1, none⟩ = some (.string o) := hf7.keeps (by go_simp) (by simp only [List.mem_singleton]; omega)
          replace fm0 : V7.frozen? ⟨w.heap.size + 1, 0, none⟩ = false := (hf7.frozen (by simp; try omega) (by simp only [List.mem_singleton]; omega)).trans (by go_simp)
          replace fm1 : V7.frozen? ⟨w.heap.size + 1, 1, none⟩ = false := (hf7.frozen (by simp; try omega) (by simp only [List.mem_singleton]; omega)).trans (by go_simp)
          have lm7 : w.heap.size + 1 < V7.heap.size := World.block_lt_of_cell? _ _ m0
          have lg7 : g < V7.heap.size := hc7.lt
          have hF7 : OnlyF [g] w V7 := hF6.trans ((OnlyF.below (a := V6) (by repeat' (first | exact bl_refl _ | refine bl_alloc ?_ _ | refine bl_drew ?_ | refine bl_set ?_ (by simp; try omega) _))).trans hf7)
          go_wp2
          refine bodyPost_ret (v := .agg #[.string s, .string t]) (by simp [results, Tryd.results18, go_sem, r0, r1]; try rfl) rfl ?_
          refine ⟨⟨s, t⟩, rfl, (by simp only []; omega), ?_, ?_⟩
          · repeat' (first | exact hc7.mono (by omega) | refine Cur.set ?_ (by omega) _ _)
          · repeat' (first | exact hF7 | refine OnlyF.setN ?_ (by omega) _ _)
        by_cases hq2 : q = 1
        · subst hq2
          go_wp2_with fail
          refine (spoilt_any g _ s ⟨#[61, 112, 49, 57, 10]⟩ _ (hc6.below (by repeat' (first | exact bl_refl _ | refine bl_alloc ?_ _ | refine bl_drew ?_ | refine bl_set ?_ (by simp; try omega) _))) (by omega) (by omega) (by decide) (by decide)).mono ?_
          rintro e V7 ⟨t, rfl, ht, hc7, hf7⟩
          replace r0 : V7.cell? ⟨w.heap.size, 0, none⟩ = some (.string ⟨#[]⟩) := hf7.keeps (by go_simp) (by simp only [List.mem_singleton]; omega)
          replace r1 : V7.cell? ⟨w.heap.size, 1, none⟩ = some (.string ⟨#[]⟩) := hf7.keeps (by go_simp) (by simp only [List.mem_singleton]; omega)
          replace fr0 : V7.frozen? ⟨w.heap.size, 0, none⟩ = false := (hf7.frozen (by simp; try omega) (by simp only [List.mem_singleton]; omega)).trans (by go_simp)
          replace fr1 : V7.frozen? ⟨w.heap.size, 1, none⟩ = false := (hf7.frozen (by simp; try omega) (by simp only [List.mem_singleton]; omega)).trans (by go_simp)
          have lr7 : w.heap.size < V7.heap.size := World.block_lt_of_cell? _ _ r0
          replace m0 : V7.cell? ⟨w.heap.size + 1, 0, none⟩ = some (.string s) := hf7.keeps (by go_simp) (by simp only [List.mem_singleton]; omega)
          replace m1 : V7.cell? ⟨w.heap.size + 1, 1, none⟩ = some (.string o) := hf7.keeps (by go_simp) (by simp only [List.mem_singleton]; omega)
          replace fm0 : V7.frozen? ⟨w.heap.size + 1, 0, none⟩ = false := (hf7.frozen (by simp; try omega) (by simp only [List.mem_singleton]; omega)).trans (by go_simp)
          replace fm1 : V7.frozen? ⟨w.heap.size + 1, 1, none⟩ = false := (hf7.frozen (by simp; try omega) (by simp only [List.mem_singleton]; omega)).trans (by go_simp)
          have lm7 : w.heap.size + 1 < V7.heap.size := World.block_lt_of_cell? _ _ m0
          have lg7 : g < V7.heap.size := hc7.lt
          have hF7 : OnlyF [g] w V7 := hF6.trans ((OnlyF.below (a := V6) (by repeat' (first | exact bl_refl _ | refine bl_alloc ?_ _ | refine bl_drew ?_ | refine bl_set ?_ (by simp; try omega) _))).trans hf7)
          go_wp2
          refine bodyPost_ret (v := .agg #[.string t, .string o]) (by simp [results, Tryd.results18, go_sem, r0, r1]; try rfl) rfl ?_
          refine ⟨⟨t, o⟩, rfl, (by simp only []; omega), ?_, ?_⟩
          · repeat' (first | exact hc7.mono (by omega) | refine Cur.set ?_ (by omega) _ _)
          · repeat' (first | exact hF7 | refine OnlyF.setN ?_ (by omega) _ _)
        go_wp2
        refine bodyPost_ret (v := .agg #[.string s, .string o]) (by simp [results, Tryd.results18, go_sem, r0, r1]; try rfl) rfl ?_
        refine ⟨⟨s, o⟩, rfl, (by simp only []; omega), ?_, ?_⟩
        · repeat' (first | exact hc6.mono (by omega) | refine Cur.set ?_ (by omega) _ _)
        · repeat' (first | exact hF6 | refine OnlyF.setN ?_ (by omega) _ _)
end Go.Proofs.YtadkhmlpmdcbpaaDoor
