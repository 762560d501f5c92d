/-
  Incidents' texts drawn for the laws. No conditions.
-/
import Derived.Test.YtpdblmcflniomaaGreatDoorCuX
import Derived.Test.YtpdblmcflniomaaGreatDoorCurS
import Derived.Test.YtpdblmcflniomaaGreatDoorIv33
import Derived.Test.YtpdblmcflniomaaGreatDoorIv17
import Derived.Test.YtpdblmcflniomaaGreatDoorIv20
namespace Go.Proofs.YtpdblmcflniomaaGreatDoor
open Go.RowKit

set_option maxRecDepth 100000 in
set_option maxHeartbeats 8000000 in
theorem drawText_any (A : Option Addr) (n c : Nat) (cs : List Byt) (w : World) (hcode : CodeIs w A n cs) :
    Calls Tryz.prog 25 #[.slice A n c] w fun e w' => DrawnX w e w' := by
  go_enter Tryz.func25, Tryz.ntmps25
  go_wp2_with fail
  refine (drawIs_any A n c cs _ (hcode.below (bl_alloc (bl_refl _) _))).mono ?_
  rintro e V1 ⟨x, A', c', rfl, hl, hv, ho, hb⟩
  have hk1 : Below w.heap.size w V1 := bl_trans (bl_alloc (bl_refl _) _) hb
  have r0 : V1.cell? ⟨w.heap.size, 0, none⟩ = some (.int .i64 0) := cell_later hb (by go_simp)
  have r1 : V1.cell? ⟨w.heap.size, 1, none⟩ = some (.int .i64 0) := cell_later hb (by go_simp)
  have r2 : V1.cell? ⟨w.heap.size, 2, none⟩ = some (.bool false) := cell_later hb (by go_simp)
  have r3 : V1.cell? ⟨w.heap.size, 3, none⟩ = some (.slice none 0 0) := cell_later hb (by go_simp)
  have f0 : V1.frozen? ⟨w.heap.size, 0, none⟩ = false := frozen_later hb (by simp) (by go_simp)
  have f1 : V1.frozen? ⟨w.heap.size, 1, none⟩ = false := frozen_later hb (by simp) (by go_simp)
  have f2 : V1.frozen? ⟨w.heap.size, 2, none⟩ = false := frozen_later hb (by simp) (by go_simp)
  have f3 : V1.frozen? ⟨w.heap.size, 3, none⟩ = false := frozen_later hb (by simp) (by go_simp)
  have lr := World.block_lt_of_cell? _ _ r0
  have ho1 : Own V1 (w.heap.size + 1) 9 (.slice A' x.Names.length c') x.Names := ho.mono (by simp)
  clear hb ho
  go_wp2
  refine bodyPost_ret (v := .agg #[.int .i64 x.Number, .int .i64 x.Node, .bool x.Closed, .slice A' x.Names.length c']) (by simp [results, Tryz.results25, go_sem, r0, r1, r2, r3]; try rfl) rfl ?_
  exact ⟨x, A', c', rfl, hl, hv, (Own.onlyF (g := w.heap.size) ho1 (by repeat' (first | exact OnlyF.refl _ _ | refine OnlyF.set ?_ (List.mem_singleton.2 rfl) _)) (by omega)).mono (by omega), by repeat' (first | exact hk1 | refine bl_set ?_ (Nat.le_refl _) _)⟩
theorem incT_len {number node : Int} {closed : Bool} {xs : List ByteArray} (h : incB number node closed xs = true) : (incT number node closed xs).size ≤ 100 := by
  obtain ⟨h0, h1, h2, h3⟩ := inc_bd h
  have := nmT_len (hdT_len closed h0 h1) h3 xs.length (Nat.le_refl _)
  unfold incT; omega
/-- the incident whose text is drawn -/
structure PBox (w : World) (b : Nat) (wx : World) (N : Int) (x : Incident) (A : Option Addr) (c : Nat) : Prop where
  ok : incB x.Number x.Node x.Closed x.Names = true
  c0 : wx.cell? ⟨b, 0, none⟩ = some (.int .i64 x.Number)
  c1 : wx.cell? ⟨b, 1, none⟩ = some (.int .i64 x.Node)
  c2 : wx.cell? ⟨b, 2, none⟩ = some (.bool x.Closed)
  c3 : wx.cell? ⟨b, 3, none⟩ = some (.slice A x.Names.length c)
  sl : Sl wx A x.Names.length x.Names
  cur : Cur wx w.heap.size N
  hk : Below w.heap.size w wx
set_option maxRecDepth 100000 in
set_option maxHeartbeats 8000000 in
theorem drawParse_any (A : Option Addr) (n c : Nat) (cs : List Byt) (w : World) (hcode : CodeIs w A n cs) :
    Calls Tryz.prog 28 #[.slice A n c] w fun e w' => ∃ s : ByteArray, e = .returned (.string s) ∧ s.size ≤ 200 ∧ Below w.heap.size w w' := by
  go_enter Tryz.func28, Tryz.ntmps28
  go_wp2_with fail
  refine (incidents_any w.heap.size 0 _ ((hcode.cur (by simp)).below (bl_alloc (bl_refl _) _)) (by omega)).mono ?_
  rintro e V1 ⟨xs, A', c', F, rfl, hl, hsm, ho1, hc1, hf1⟩
  have hx1 : Box4 V1 (w.heap.size + 1) (.int .i64 1) (.int .i64 2) (.bool false) (.slice none 0 0) := Box4.only (w := (w.alloc _).alloc _) (by refine ⟨?_, ?_, ?_, ?_, ?_, ?_, ?_, ?_⟩ <;> go_simp) hf1 (by simp only [List.mem_singleton]; omega)
  have hk1 : Below w.heap.size w V1 := below_only (by repeat' (first | exact bl_refl _ | refine bl_alloc ?_ _ | refine bl_drew ?_)) hf1 (lies1 w.heap.size) (Nat.le_refl _)
  have lg1 := hc1.lt
  have ho1 := ho1.mono (b := w.heap.size + 2) (by simp only [World.size_alloc]; omega)
  clear hf1
  obtain ⟨m, hm⟩ : ∃ m, xs.length = m := ⟨_, rfl⟩
  rw [hm] at hl ho1 ⊢
  have HM := Lib.hid hm
  clear hm
  have lx1 := hx1.lt
  obtain ⟨gb, hgb⟩ : ∃ b, incsB xs = b := ⟨_, rfl⟩
  have hK := Lib.hid (show ∀ (W : World) (hs0 : Sl W A' m xs), Calls Tryz.prog 38 #[.slice A' m c'] W fun e w' => e = .returned (.bool gb) ∧ Below W.heap.size W w' from fun W hs0 => by have h := ixGood_any xs A' m c' W (by omega) ho1.cap hs0 (fun x hx y hy => by have := (hsm x hx).2 y hy; unfold maxLen; omega); rw [hgb] at h; exact h)
  have HG := Lib.hid hgb
  clear hgb
  go_upto_region 4 with fail
  go_cut [19] (fun s wx => s = .bool (gb && decide (0 < m)) ∧ Below V1.heap.size V1 wx)
  case first =>
    go_wp2_with fail
    refine (hK.out _ ho1.sl).mono ?_
    rintro e V2 ⟨rfl, hb2⟩
    cases gb
    · go_wp2_with fail
      go_meet
      exact ⟨rfl, hb2⟩
    · go_wp2_with fail
      go_meet
      exact ⟨by simp, hb2⟩
  case rest =>
  obtain ⟨rfl, hb2⟩ := hcut
  obtain ⟨V2, hVV⟩ : ∃ V, V = wc := ⟨_, rfl⟩
  subst hVV
  have hx2 := hx1.only (OnlyF.below (F := []) hb2) (by simp)
  have hk2 := bl_trans hk1 hb2
  have hc2 := hc1.below hb2
  have ho2 := ho1.below hb2
  have lg2 := hc2.lt
  have lx2 := hx2.lt
  clear hx1 hk1 hc1 ho1 hb2 hK lg1 lx1
  obtain ⟨fb, hfb⟩ : ∃ b, (gb && decide (0 < m)) = b := ⟨_, rfl⟩
  rw [hfb]
  have HFB := Lib.hid hfb
  clear hfb
  go_upto_if 19 with fail
  go_cut [] (fun wx => ∃ (x : Incident) (A : Option Addr) (c : Nat), PBox w (w.heap.size + 1) wx 2000 x A c)
  case first =>
    cases fb
    · have hpb : PBox w (w.heap.size + 1) V2 2000 ⟨1, 2, false, []⟩ none 0 := ⟨by decide, hx2.c0, hx2.c1, hx2.c2, hx2.c3, Sl.nil _ _, hc2.mono (by omega), hk2⟩
      clear hx2
      go_wp2_with fail
      go_meet
      exact ⟨_, _, _, hpb⟩
    · have hgm : gb = true ∧ 0 < m := by simpa using HFB.out
      have HGB := Lib.hid hgm.1
      have hm0 := hgm.2
      clear hgm
      have hmd : (0 : Int) < m := by omega
      have hmd2 : decide (0 < m) = true := decide_eq_true hm0
      obtain ⟨xc0, xc1, xc2, xc3, xf0, xf1, xf2, xf3⟩ := hx2
      go_wp2_with fail
      refine (pick_any w.heap.size _ (m : Int) _ hc2 (by omega) (by omega)).mono ?_
      rintro e V3 ⟨q, rfl, hq, hc3, hf3⟩
      have ho3 := ho2.only hf3 (fun k hk hm => by have := (ho2.lies k hk).1; have := List.mem_singleton.1 hm; omega)
      obtain ⟨q, rfl⟩ := Int.eq_ofNat_of_zero_le hq.1
      have hqm : q < m := by have := hq.2 (by omega); omega
      have hqd : (q : Int) < m := by omega
      clear hq
      obtain ⟨b, o, Ay, cy, rfl, hbz, d0, d1, d2, d3, hoy⟩ := ho3.inc hqm
      have hok : incB (nth xs q).Number (nth xs q).Node (nth xs q).Closed (nth xs q).Names = true := (incs_iff.1 (HG.out.trans HGB.out)).one q (by rw [HM.out]; exact hqm)
      obtain ⟨y, hy⟩ : ∃ y, y = nth xs q := ⟨_, rfl⟩
      rw [← hy] at d0 d1 d2 d3 hoy hok
      clear hy ho2 ho3 hsm
      have hk3 : Below w.heap.size w V3 := below_only hk2 hf3 (lies1 w.heap.size) (Nat.le_refl _)
      have hx3 := Box4.only (b := w.heap.size + 1) ⟨xc0, xc1, xc2, xc3, xf0, xf1, xf2, xf3⟩ hf3 (by simp only [List.mem_singleton]; omega)
      have lg3 := hc3.lt
      have Hok := Lib.hid hok
      clear hok xc0 xc1 xc2 xc3 xf0 xf1 xf2 xf3 hc2 hk2 hf3
      obtain ⟨xc0, xc1, xc2, xc3, xf0, xf1, xf2, xf3⟩ := hx3
      have lx3 : w.heap.size + 1 < V3.heap.size := World.block_lt_of_cell? _ _ xc0
      go_wp2_with fail
      go_meet
      refine ⟨y, Ay, cy, Hok.out, by go_simp, by go_simp, by go_simp, by go_simp, (Own.onlyF (g := w.heap.size + 1) hoy (by repeat' (first | exact OnlyF.refl _ _ | refine OnlyF.set ?_ (List.mem_singleton.2 rfl) _)) (by omega)).sl, (hc3.mono (by omega)).onlyF (F := [w.heap.size + 1]) (by repeat' (first | exact OnlyF.refl _ _ | refine OnlyF.set ?_ (List.mem_singleton.2 rfl) _)) (fun j hj => by rw [List.mem_singleton.1 hj]; omega), by repeat' (first | exact hk3 | refine bl_set ?_ (by simp only []; omega) _)⟩
  case rest =>
    obtain ⟨x, Ax, cx, ⟨hok, x0, x1, x2, x3, hsx, hcx, hkx⟩⟩ := hcut
    have hTl := incT_len hok
    have lx := World.block_lt_of_cell? _ _ x0
    have lgx := hcx.lt
    obtain ⟨T, hT⟩ : ∃ T, incT x.Number x.Node x.Closed x.Names = T := ⟨_, rfl⟩
    rw [hT] at hTl
    have hK := Lib.hid (show ∀ (W : World) (hs0 : Sl W Ax x.Names.length x.Names), Calls Tryz.prog 62 #[.agg #[.int .i64 x.Number, .int .i64 x.Node, .bool x.Closed, .slice Ax x.Names.length cx]] W fun e w' => e = .returned (.string T) ∧ Below W.heap.size W w' from fun W hs0 => by have h := ixText_any x.Number x.Node x.Closed x.Names Ax _ cx W hs0 hok; rw [hT] at h; exact h)
    have Hok := Lib.hid hok
    have HT := Lib.hid hT
    clear hok hT
    go_wp2_with fail
    refine (hK.out _ hsx).mono ?_
    rintro e V4 ⟨rfl, hb4⟩
    have hc4 := hcx.below hb4
    have hk4 := bl_trans hkx hb4
    clear hcx hkx hb4 hK x0 x1 x2 x3 hsx lx lgx
    go_wp2_with fail
    refine (pick_any w.heap.size _ 6 _ hc4 (by omega) (by omega)).mono ?_
    rintro e V5 ⟨q, rfl, hq, hc5, hf5⟩
    clear hq
    have hk5 : Below w.heap.size w V5 := below_only hk4 hf5 (lies1 w.heap.size) (Nat.le_refl _)
    have lg5 := hc5.lt
    clear hc4 hk4 hf5
    by_cases h0 : q = 0
    · subst h0
      go_wp2_with fail
      refine (spoilt_any w.heap.size _ T ⟨#[64, 33, 58, 44, 112, 49]⟩ _ hc5 (by omega) (by omega) (by decide) (by decide)).mono ?_
      rintro e V6 ⟨t, rfl, ht, hc6, hf6⟩
      go_wp2
      go_ret
      exact ⟨t, rfl, by omega, below_only hk5 hf6 (lies1 w.heap.size) (Nat.le_refl _)⟩
    by_cases h1 : q = 1
    · subst h1
      go_wp2_with fail
      refine (spoilt_any w.heap.size _ T ⟨#[64, 33, 58, 44, 112, 49]⟩ _ hc5 (by omega) (by omega) (by decide) (by decide)).mono ?_
      rintro e V6 ⟨t, rfl, ht, hc6, hf6⟩
      go_wp2
      go_ret
      exact ⟨t, rfl, by omega, below_only hk5 hf6 (lies1 w.heap.size) (Nat.le_refl _)⟩
    by_cases h2 : q = 2
    · subst h2
      go_wp2_with fail
      refine (of_any w.heap.size _ _ _ _ [⟨#[]⟩, ⟨#[49, 64, 50]⟩, ⟨#[49, 64, 50, 58, 112, 50, 44, 112, 49]⟩, ⟨#[49, 64, 50, 33, 58, 112, 49]⟩, ⟨#[48, 64, 50, 58]⟩, ⟨#[49, 64, 49, 52, 58]⟩, ⟨#[48, 49, 64, 50, 58]⟩, ⟨#[49, 64, 50, 58, 44, 112, 49]⟩, ⟨#[49, 64, 50, 58, 112, 49, 44]⟩] _ (hc5.below (by repeat' (first | exact bl_refl _ | refine bl_alloc ?_ _ | refine bl_drew ?_))) (by omega) (by exact sl_lit' (by simp) rfl rfl) (by omega) (by omega) (by rintro b o h _; injection h with h; injection h with h1; (try simp at h1); omega)).mono ?_
      rintro e V6 ⟨t, rfl, ht, hc6, hf6⟩
      have hts : t.size ≤ 100 := by simp only [List.mem_cons, List.not_mem_nil, or_false] at ht; rcases ht with rfl | rfl | rfl | rfl | rfl | rfl | rfl | rfl | rfl <;> decide
      go_wp2
      go_ret
      exact ⟨t, rfl, by omega, below_only (bl_trans hk5 (by repeat' (first | exact bl_refl _ | refine bl_alloc ?_ _ | refine bl_drew ?_))) hf6 (lies1 w.heap.size) (Nat.le_refl _)⟩
    go_wp2
    go_ret
    exact ⟨T, rfl, by omega, hk5⟩
end Go.Proofs.YtpdblmcflniomaaGreatDoor
