/-
  ParseIncident: the reference's answer, one way of three. No conditions.
-/
import Derived.Test.YtpdblmcflniomaaGreatDoorPiS0
namespace Go.Proofs.YtpdblmcflniomaaGreatDoor
open Go.RowKit

set_option maxRecDepth 100000 in
set_option maxHeartbeats 16000000 in
theorem specParseIncident_1 (s : ByteArray) (w : World) (hs : s.size ≤ 1048576) (hcs : ∀ h, h = nth (cutB 58 s) 0 → 0 < h.size ∧ Go.PlainAid.bt h (h.size - 1) = 33) :
    Calls Tryz.prog 30 #[.string s] w (RetIncident2 w 9 (piF s)) := by
  have HC := Lib.hid (fun x (hx : GoodI s x) => cut_colon hx)
  have HBG : Hid (∀ x, x ∈ cutB 58 s → x.size ≤ 1048576) := fun x hx => by have := cut_piece hx; omega
  have HSP := Lib.hid (fun w => l1Split_58 s w hs)
  obtain ⟨P, hP⟩ : ∃ P, P = cutB 58 s := ⟨_, rfl⟩
  rw [← hP] at HC HBG HSP hcs
  have HCS0 := Lib.hid hcs
  clear hP hcs
  go_enter Tryz.func30, Tryz.ntmps30
  have hk0 := bl_refl w
  go_wp2_with fail
  refine (HSP.out _).mono ?_
  rintro e V1 ⟨A1, c1, rfl, ho1, hb1⟩
  have hB1 := bl_trans (a := w) (by repeat' (first | exact bl_refl _ | refine bl_alloc ?_ _ | refine bl_drew ?_ | refine bl_drewN ?_ _ | refine bl_set ?_ ?_ _ | (simp; done) | (simp; omega))) hb1
  have hk1 := bl_trans hk0 hB1
  have z1 : Hid (w.heap.size + 1 ≤ V1.heap.size) := by have := hb1.size; simp only [World.size_alloc] at this; exact (by omega : _)
  have br_0_1 : V1.cell? ⟨w.heap.size, 0, none⟩ = some (.int .i64 0) := cell_later hb1 (by go_simp)
  have qr_0_1 : V1.frozen? ⟨w.heap.size, 0, none⟩ = false := frozen_later hb1 (by simp) (by go_simp)
  have br_1_1 : V1.cell? ⟨w.heap.size, 1, none⟩ = some (.int .i64 0) := cell_later hb1 (by go_simp)
  have qr_1_1 : V1.frozen? ⟨w.heap.size, 1, none⟩ = false := frozen_later hb1 (by simp) (by go_simp)
  have br_2_1 : V1.cell? ⟨w.heap.size, 2, none⟩ = some (.bool false) := cell_later hb1 (by go_simp)
  have qr_2_1 : V1.frozen? ⟨w.heap.size, 2, none⟩ = false := frozen_later hb1 (by simp) (by go_simp)
  have br_3_1 : V1.cell? ⟨w.heap.size, 3, none⟩ = some (.slice none 0 0) := cell_later hb1 (by go_simp)
  have qr_3_1 : V1.frozen? ⟨w.heap.size, 3, none⟩ = false := frozen_later hb1 (by simp) (by go_simp)
  have lr_1 : w.heap.size < V1.heap.size := World.block_lt_of_cell? _ _ br_0_1
  by_cases h120 : 120 < s.size
  · have hd0 : decide ((s.size : Int) > 120) = true := by simp; omega
    have HN : Hid (∀ x, ¬ GoodI s x) := fun x hx => by have := good_size hx; omega
    go_wp2
    refine bodyPost_ret (v := .tuple #[.agg #[.int .i64 0, .int .i64 0, .bool false, .slice none 0 0], .bool false]) (by first | (simp [results, Tryz.results30, go_sem, br_0_1, br_1_1, br_2_1, br_3_1]; done) | (simp [results, Tryz.results30, go_sem, *]; try rfl)) rfl ?_
    exact retIncident2_mk (piF_no HN.out) rfl (Own.nil _ _ _) (by repeat' (first | exact hk1 | refine bl_alloc ?_ _ | refine bl_drew ?_ | refine bl_set ?_ (by simp only []; have := z1.out; omega) _))
  have hd0 : decide ((s.size : Int) > 120) = false := by simp; omega
  by_cases hl2 : P.length = 2
  rotate_left
  · have hd1 : ((P.length : Int) != 2) = true := by simp; omega
    have HN : Hid (∀ x, ¬ GoodI s x) := fun x hx => by have h1 := HC.out x hx; rw [h1] at hl2; exact hl2 rfl
    go_wp2
    refine bodyPost_ret (v := .tuple #[.agg #[.int .i64 0, .int .i64 0, .bool false, .slice none 0 0], .bool false]) (by first | (simp [results, Tryz.results30, go_sem, br_0_1, br_1_1, br_2_1, br_3_1]; done) | (simp [results, Tryz.results30, go_sem, *]; try rfl)) rfl ?_
    exact retIncident2_mk (piF_no HN.out) rfl (Own.nil _ _ _) (by repeat' (first | exact hk1 | refine bl_alloc ?_ _ | refine bl_drew ?_ | refine bl_set ?_ (by simp only []; have := z1.out; omega) _))
  obtain ⟨b, o, rfl, hbz, c0⟩ := ho1.sl.str (k := 0) (by omega)
  obtain ⟨b', o', e', _, d0⟩ := ho1.sl.str (k := 1) (by omega)
  injection e' with e'
  injection e' with e1 e2
  subst e1 e2
  have hz0 := HBG.out _ (nth_mem (by omega : 0 < P.length))
  have hz1 := HBG.out _ (nth_mem (by omega : 1 < P.length))
  obtain ⟨h, hh⟩ : ∃ h, h = nth P 0 := ⟨_, rfl⟩
  obtain ⟨m, hmm⟩ : ∃ m, m = nth P 1 := ⟨_, rfl⟩
  rw [← hh] at c0 hz0
  rw [← hmm] at d0 hz1
  have c0 : V1.cell? ⟨b, o, none⟩ = some (.string h) := c0
  have HH : Hid (∀ x, GoodI s x → h = ⟨(hdL x).toArray⟩ ∧ m = ⟨(nmL x).toArray⟩) := fun x hx => by
    have h1 := HC.out x hx
    rw [hh, hmm, h1]
    exact ⟨rfl, rfl⟩
  have HZM : Hid (m.size ≤ 1048576) := hz1
  have HCS := Lib.hid (HCS0.out h hh)
  rw [hl2]
  clear ho1 hh hmm hl2 h120 hz1
  have hbt := Go.PlainAid.get_bt h
  by_cases hbg : 0 < h.size ∧ Go.PlainAid.bt h (h.size - 1) = 33
  · skip
    obtain ⟨g0, g1⟩ := hbg
    obtain ⟨l, hl, he⟩ := bang_yes g0 g1
    have HB : Hid (BangP h (h.extract 0 (h.size - 1)) true) := .inl ⟨l, hl, he, rfl⟩
    have hs2 : (h.extract 0 (h.size - 1)).size ≤ 1048576 := by rw [ByteArray.size_extract]; omega
    clear hl he l
    have g2 : decide ((h.size : Int) > 0) = true := by simp; omega
    have i2 : 0 ≤ (h.size : Int) - 1 := by omega
    have i4 : (h.size : Int) - 1 < h.size := by omega
    have i1 : IntKind.i64.wrap ((h.size : Int) - 1) = (h.size : Int) - 1 := IntWalk.i64_in _ (by omega)
    have i3 : ((h.size : Int) - 1).toNat = h.size - 1 := by omega
    have i5 : h.size - 1 < h.size := by omega
    have g3 : (Go.PlainAid.bt h (h.size - 1) == 33) = true := by rw [g1]; rfl
    have HBL : Hid (b < V1.heap.size) := hbz
    have hWX := lr_1
    go_wp2_with fail
    refine (hyPair_any (h.extract 0 (h.size - 1)) _ hs2).mono ?_
    rintro e V2 ⟨rfl, hb2⟩
    have hB2 := bl_trans (a := V1) (by repeat' (first | exact bl_refl _ | refine bl_alloc ?_ _ | refine bl_drew ?_ | refine bl_drewN ?_ _ | refine bl_set ?_ ?_ _ | (simp; done) | (simp; omega))) hb2
    have hk2 := bl_trans hk1 hB2
    have z2 : Hid (V1.heap.size + 1 ≤ V2.heap.size) := by have := hb2.size; simp only [World.size_alloc] at this; exact (by omega : _)
    have br_0_2 : V2.cell? ⟨w.heap.size, 0, none⟩ = some (.int .i64 0) := cell_later hB2 br_0_1
    have qr_0_2 : V2.frozen? ⟨w.heap.size, 0, none⟩ = false := frozen_later hB2 (World.block_lt_of_cell? _ _ br_0_1) qr_0_1
    have br_1_2 : V2.cell? ⟨w.heap.size, 1, none⟩ = some (.int .i64 0) := cell_later hB2 br_1_1
    have qr_1_2 : V2.frozen? ⟨w.heap.size, 1, none⟩ = false := frozen_later hB2 (World.block_lt_of_cell? _ _ br_1_1) qr_1_1
    have br_2_2 : V2.cell? ⟨w.heap.size, 2, none⟩ = some (.bool false) := cell_later hB2 br_2_1
    have qr_2_2 : V2.frozen? ⟨w.heap.size, 2, none⟩ = false := frozen_later hB2 (World.block_lt_of_cell? _ _ br_2_1) qr_2_1
    have br_3_2 : V2.cell? ⟨w.heap.size, 3, none⟩ = some (.slice none 0 0) := cell_later hB2 br_3_1
    have qr_3_2 : V2.frozen? ⟨w.heap.size, 3, none⟩ = false := frozen_later hB2 (World.block_lt_of_cell? _ _ br_3_1) qr_3_1
    have lr_2 : w.heap.size < V2.heap.size := World.block_lt_of_cell? _ _ br_0_2
    have bx_0_2 : V2.cell? ⟨V1.heap.size, 0, none⟩ = some (.int .i64 0) := cell_later hb2 (by go_simp)
    have qx_0_2 : V2.frozen? ⟨V1.heap.size, 0, none⟩ = false := frozen_later hb2 (by simp) (by go_simp)
    have bx_1_2 : V2.cell? ⟨V1.heap.size, 1, none⟩ = some (.int .i64 0) := cell_later hb2 (by go_simp)
    have qx_1_2 : V2.frozen? ⟨V1.heap.size, 1, none⟩ = false := frozen_later hb2 (by simp) (by go_simp)
    have bx_2_2 : V2.cell? ⟨V1.heap.size, 2, none⟩ = some (.bool true) := cell_later hb2 (by go_simp)
    have qx_2_2 : V2.frozen? ⟨V1.heap.size, 2, none⟩ = false := frozen_later hb2 (by simp) (by go_simp)
    have bx_3_2 : V2.cell? ⟨V1.heap.size, 3, none⟩ = some (.slice none 0 0) := cell_later hb2 (by go_simp)
    have qx_3_2 : V2.frozen? ⟨V1.heap.size, 3, none⟩ = false := frozen_later hb2 (by simp) (by go_simp)
    have lx_2 : V1.heap.size < V2.heap.size := World.block_lt_of_cell? _ _ bx_0_2
    clear hk1 br_0_1 qr_0_1 br_1_1 qr_1_1 br_2_1 qr_2_1 br_3_1 qr_3_1 lr_1
    have hX3 := lx_2
    have HPR : Hid (∀ x, GoodI s x → (h.extract 0 (h.size - 1)) = ⟨(numL x).toArray⟩ → (pairV (h.extract 0 (h.size - 1))).1 = x.Number ∧ (pairV (h.extract 0 (h.size - 1))).2 = x.Node) := fun x hx e => by rw [e, pair_good hx]; exact ⟨rfl, rfl⟩
    obtain ⟨p, hp⟩ : ∃ p, p = (pairV (h.extract 0 (h.size - 1))).1 := ⟨_, rfl⟩
    obtain ⟨q, hq0⟩ : ∃ q, q = (pairV (h.extract 0 (h.size - 1))).2 := ⟨_, rfl⟩
    rw [← hp, ← hq0] at HPR
    rw [← hp, ← hq0]
    clear hp hq0
    have HQ0 := Lib.hid (px_mk (a := p) (b := q) HH.out HB.out HPR.out)
    have e4 := cell_later hB2 d0
    have e4z := World.block_lt_of_cell? _ _ e4
    clear c0 d0 hbz hbt
    go_upto_region 13 with fail
    obtain ⟨V3, hW3⟩ : ∃ V, V = (V2.setCell ⟨V1.heap.size, 0, none⟩ (.int .i64 p)).setCell ⟨V1.heap.size, 1, none⟩ (.int .i64 q) := ⟨_, rfl⟩
    rw [← hW3]
    have hf3 : OnlyF [V1.heap.size] V2 V3 := by rw [hW3]; repeat' (first | exact OnlyF.refl _ _ | refine OnlyF.alloc ?_ _ | refine OnlyF.set ?_ (List.mem_singleton.2 rfl) _ | refine OnlyF.drew ?_)
    have hk3 : Below w.heap.size w V3 := by rw [hW3]; repeat' (first | exact hk2 | refine bl_alloc ?_ _ | refine bl_set ?_ (by simp only []; omega) _)
    have br_0_3 : V3.cell? ⟨w.heap.size, 0, none⟩ = some (.int .i64 0) := hf3.keeps br_0_2 (fun hm => by have hm := List.mem_singleton.1 hm; simp only [] at hm; omega)
    have qr_0_3 : V3.frozen? ⟨w.heap.size, 0, none⟩ = false := (hf3.frozen (World.block_lt_of_cell? _ _ br_0_2) (fun hm => by have hm := List.mem_singleton.1 hm; simp only [] at hm; omega)).trans qr_0_2
    have br_1_3 : V3.cell? ⟨w.heap.size, 1, none⟩ = some (.int .i64 0) := hf3.keeps br_1_2 (fun hm => by have hm := List.mem_singleton.1 hm; simp only [] at hm; omega)
    have qr_1_3 : V3.frozen? ⟨w.heap.size, 1, none⟩ = false := (hf3.frozen (World.block_lt_of_cell? _ _ br_1_2) (fun hm => by have hm := List.mem_singleton.1 hm; simp only [] at hm; omega)).trans qr_1_2
    have br_2_3 : V3.cell? ⟨w.heap.size, 2, none⟩ = some (.bool false) := hf3.keeps br_2_2 (fun hm => by have hm := List.mem_singleton.1 hm; simp only [] at hm; omega)
    have qr_2_3 : V3.frozen? ⟨w.heap.size, 2, none⟩ = false := (hf3.frozen (World.block_lt_of_cell? _ _ br_2_2) (fun hm => by have hm := List.mem_singleton.1 hm; simp only [] at hm; omega)).trans qr_2_2
    have br_3_3 : V3.cell? ⟨w.heap.size, 3, none⟩ = some (.slice none 0 0) := hf3.keeps br_3_2 (fun hm => by have hm := List.mem_singleton.1 hm; simp only [] at hm; omega)
    have qr_3_3 : V3.frozen? ⟨w.heap.size, 3, none⟩ = false := (hf3.frozen (World.block_lt_of_cell? _ _ br_3_2) (fun hm => by have hm := List.mem_singleton.1 hm; simp only [] at hm; omega)).trans qr_3_2
    have lr_3 : w.heap.size < V3.heap.size := World.block_lt_of_cell? _ _ br_0_3
    have bx_0_3 : V3.cell? ⟨V1.heap.size, 0, none⟩ = some (.int .i64 p) := by rw [hW3]; go_simp
    have qx_0_3 : V3.frozen? ⟨V1.heap.size, 0, none⟩ = false := by rw [hW3]; go_simp
    have bx_1_3 : V3.cell? ⟨V1.heap.size, 1, none⟩ = some (.int .i64 q) := by rw [hW3]; go_simp
    have qx_1_3 : V3.frozen? ⟨V1.heap.size, 1, none⟩ = false := by rw [hW3]; go_simp
    have bx_2_3 : V3.cell? ⟨V1.heap.size, 2, none⟩ = some (.bool true) := by rw [hW3]; go_simp
    have qx_2_3 : V3.frozen? ⟨V1.heap.size, 2, none⟩ = false := by rw [hW3]; go_simp
    have bx_3_3 : V3.cell? ⟨V1.heap.size, 3, none⟩ = some (.slice none 0 0) := by rw [hW3]; go_simp
    have qx_3_3 : V3.frozen? ⟨V1.heap.size, 3, none⟩ = false := by rw [hW3]; go_simp
    have z3 := Lib.hid hf3.size
    have HW3 := Lib.hid hW3
    clear hW3 hk2 br_0_2 qr_0_2 br_1_2 qr_1_2 br_2_2 qr_2_2 br_3_2 qr_3_2 lr_2
    have e5 := hf3.keeps e4 (fun hm' => by have hm' := List.mem_singleton.1 hm'; simp only [] at hm'; have := HBL.out; omega)
    have e5z := World.block_lt_of_cell? _ _ e5
    clear e4 e4z
    have hcc : (1 : Nat) < 2 := by omega
    by_cases hm : m.size = 0
    · have hme : m.toList.isEmpty = true := emp0S hm
      have HX := Lib.hid (px_none HQ0.out hm)
      have HNN : Hid ((0 : Int) ≤ 9223372036854775807) := by rw [Hid]; omega
      have HVN : Hid (∀ x : ByteArray, x ∈ ([] : List ByteArray) → x.size ≤ maxLen) := fun x hx => by cases hx
      have HNC : Hid (0 ≤ 0) := Nat.le_refl 0
      clear hm
      go_wp2_with fail
      refine (ixOne_any p q true [] _ _ _ _ HNN.out (⟨rfl, fun k x hx => by simp at hx⟩ : Sl _ none 0 []) HVN.out).mono ?_
      rintro e V4 ⟨rfl, hb4⟩
      have hB4 := bl_trans (a := V3) (bl_refl _) hb4
      have hk4 := bl_trans hk3 hB4
      have z4 := Lib.hid hB4.size
      have br_0_4 : V4.cell? ⟨w.heap.size, 0, none⟩ = some (.int .i64 0) := cell_later hB4 br_0_3
      have qr_0_4 : V4.frozen? ⟨w.heap.size, 0, none⟩ = false := frozen_later hB4 (World.block_lt_of_cell? _ _ br_0_3) qr_0_3
      have br_1_4 : V4.cell? ⟨w.heap.size, 1, none⟩ = some (.int .i64 0) := cell_later hB4 br_1_3
      have qr_1_4 : V4.frozen? ⟨w.heap.size, 1, none⟩ = false := frozen_later hB4 (World.block_lt_of_cell? _ _ br_1_3) qr_1_3
      have br_2_4 : V4.cell? ⟨w.heap.size, 2, none⟩ = some (.bool false) := cell_later hB4 br_2_3
      have qr_2_4 : V4.frozen? ⟨w.heap.size, 2, none⟩ = false := frozen_later hB4 (World.block_lt_of_cell? _ _ br_2_3) qr_2_3
      have br_3_4 : V4.cell? ⟨w.heap.size, 3, none⟩ = some (.slice none 0 0) := cell_later hB4 br_3_3
      have qr_3_4 : V4.frozen? ⟨w.heap.size, 3, none⟩ = false := frozen_later hB4 (World.block_lt_of_cell? _ _ br_3_3) qr_3_3
      have lr_4 : w.heap.size < V4.heap.size := World.block_lt_of_cell? _ _ br_0_4
      have bx_0_4 : V4.cell? ⟨V1.heap.size, 0, none⟩ = some (.int .i64 p) := cell_later hB4 bx_0_3
      have qx_0_4 : V4.frozen? ⟨V1.heap.size, 0, none⟩ = false := frozen_later hB4 (World.block_lt_of_cell? _ _ bx_0_3) qx_0_3
      have bx_1_4 : V4.cell? ⟨V1.heap.size, 1, none⟩ = some (.int .i64 q) := cell_later hB4 bx_1_3
      have qx_1_4 : V4.frozen? ⟨V1.heap.size, 1, none⟩ = false := frozen_later hB4 (World.block_lt_of_cell? _ _ bx_1_3) qx_1_3
      have bx_2_4 : V4.cell? ⟨V1.heap.size, 2, none⟩ = some (.bool true) := cell_later hB4 bx_2_3
      have qx_2_4 : V4.frozen? ⟨V1.heap.size, 2, none⟩ = false := frozen_later hB4 (World.block_lt_of_cell? _ _ bx_2_3) qx_2_3
      have bx_3_4 : V4.cell? ⟨V1.heap.size, 3, none⟩ = some (.slice none 0 0) := cell_later hB4 bx_3_3
      have qx_3_4 : V4.frozen? ⟨V1.heap.size, 3, none⟩ = false := frozen_later hB4 (World.block_lt_of_cell? _ _ bx_3_3) qx_3_3
      have lx_4 : V1.heap.size < V4.heap.size := World.block_lt_of_cell? _ _ bx_0_4
      clear hk3 br_0_3 qr_0_3 br_1_3 qr_1_3 br_2_3 qr_2_3 br_3_3 qr_3_3 lr_3 bx_0_3 qx_0_3 bx_1_3 qx_1_3 bx_2_3 qx_2_3 bx_3_3 qx_3_3
      cases h0 : incB p q true []
      · have H0 := Lib.hid h0
        clear h0
        have HN : Hid (∀ x, ¬ GoodI s x) := px_bad1 HX.out H0.out
        go_wp2
        refine bodyPost_ret (v := .tuple #[.agg #[.int .i64 0, .int .i64 0, .bool false, .slice none 0 0], .bool false]) (by first | (simp [results, Tryz.results30, go_sem, br_0_4, br_1_4, br_2_4, br_3_4]; done) | (simp [results, Tryz.results30, go_sem, *]; try rfl)) rfl ?_
        exact retIncident2_mk (piF_no HN.out) rfl (Own.nil _ _ _) (by repeat' (first | exact hk4 | refine bl_alloc ?_ _ | refine bl_drew ?_ | refine bl_set ?_ (by simp only []; have := z1.out; have := z2.out; have := z3.out; have := z4.out; omega) _))
      have H0 := Lib.hid h0
      clear h0
      go_wp2_with fail
      refine (ixText_any p q true [] _ _ _ _ (⟨rfl, fun k x hx => by simp at hx⟩ : Sl _ none 0 []) H0.out).mono ?_
      rintro e V5 ⟨rfl, hb5⟩
      have hB5 := bl_trans (a := V4) (bl_refl _) hb5
      have hk5 := bl_trans hk4 hB5
      have z5 := Lib.hid hB5.size
      have br_0_5 : V5.cell? ⟨w.heap.size, 0, none⟩ = some (.int .i64 0) := cell_later hB5 br_0_4
      have qr_0_5 : V5.frozen? ⟨w.heap.size, 0, none⟩ = false := frozen_later hB5 (World.block_lt_of_cell? _ _ br_0_4) qr_0_4
      have br_1_5 : V5.cell? ⟨w.heap.size, 1, none⟩ = some (.int .i64 0) := cell_later hB5 br_1_4
      have qr_1_5 : V5.frozen? ⟨w.heap.size, 1, none⟩ = false := frozen_later hB5 (World.block_lt_of_cell? _ _ br_1_4) qr_1_4
      have br_2_5 : V5.cell? ⟨w.heap.size, 2, none⟩ = some (.bool false) := cell_later hB5 br_2_4
      have qr_2_5 : V5.frozen? ⟨w.heap.size, 2, none⟩ = false := frozen_later hB5 (World.block_lt_of_cell? _ _ br_2_4) qr_2_4
      have br_3_5 : V5.cell? ⟨w.heap.size, 3, none⟩ = some (.slice none 0 0) := cell_later hB5 br_3_4
      have qr_3_5 : V5.frozen? ⟨w.heap.size, 3, none⟩ = false := frozen_later hB5 (World.block_lt_of_cell? _ _ br_3_4) qr_3_4
      have lr_5 : w.heap.size < V5.heap.size := World.block_lt_of_cell? _ _ br_0_5
      have bx_0_5 : V5.cell? ⟨V1.heap.size, 0, none⟩ = some (.int .i64 p) := cell_later hB5 bx_0_4
      have qx_0_5 : V5.frozen? ⟨V1.heap.size, 0, none⟩ = false := frozen_later hB5 (World.block_lt_of_cell? _ _ bx_0_4) qx_0_4
      have bx_1_5 : V5.cell? ⟨V1.heap.size, 1, none⟩ = some (.int .i64 q) := cell_later hB5 bx_1_4
      have qx_1_5 : V5.frozen? ⟨V1.heap.size, 1, none⟩ = false := frozen_later hB5 (World.block_lt_of_cell? _ _ bx_1_4) qx_1_4
      have bx_2_5 : V5.cell? ⟨V1.heap.size, 2, none⟩ = some (.bool true) := cell_later hB5 bx_2_4
      have qx_2_5 : V5.frozen? ⟨V1.heap.size, 2, none⟩ = false := frozen_later hB5 (World.block_lt_of_cell? _ _ bx_2_4) qx_2_4
      have bx_3_5 : V5.cell? ⟨V1.heap.size, 3, none⟩ = some (.slice none 0 0) := cell_later hB5 bx_3_4
      have qx_3_5 : V5.frozen? ⟨V1.heap.size, 3, none⟩ = false := frozen_later hB5 (World.block_lt_of_cell? _ _ bx_3_4) qx_3_4
      have lx_5 : V1.heap.size < V5.heap.size := World.block_lt_of_cell? _ _ bx_0_5
      clear hk4 br_0_4 qr_0_4 br_1_4 qr_1_4 br_2_4 qr_2_4 br_3_4 qr_3_4 lr_4 bx_0_4 qx_0_4 bx_1_4 qx_1_4 bx_2_4 qx_2_4 bx_3_4 qx_3_4 lx_4
      cases hq : sameB (incT p q true []) s
      · have HQ := Lib.hid hq
        have hq2 : ((incT p q true []).toList == s.toList) = false := by rw [bytes_beq]; exact hq
        have hq3 : ((incT p q true []).toList != s.toList) = true := by simp [bne, hq2]
        clear hq
        have HN : Hid (∀ x, ¬ GoodI s x) := px_bad2 HX.out HQ.out
        go_wp2
        refine bodyPost_ret (v := .tuple #[.agg #[.int .i64 0, .int .i64 0, .bool false, .slice none 0 0], .bool false]) (by first | (simp [results, Tryz.results30, go_sem, br_0_5, br_1_5, br_2_5, br_3_5]; done) | (simp [results, Tryz.results30, go_sem, *]; try rfl)) rfl ?_
        exact retIncident2_mk (piF_no HN.out) rfl (Own.nil _ _ _) (by repeat' (first | exact hk5 | refine bl_alloc ?_ _ | refine bl_drew ?_ | refine bl_set ?_ (by simp only []; have := z1.out; have := z2.out; have := z3.out; have := z4.out; have := z5.out; omega) _))
      have HQ := Lib.hid hq
      have hq2 : ((incT p q true []).toList == s.toList) = true := by rw [bytes_beq]; exact hq
      have hq3 : ((incT p q true []).toList != s.toList) = false := by simp [bne, hq2]
      have Hz := Lib.hid (piF_yes (px_good H0.out HQ.out))
      clear hq
      go_wp2
      refine bodyPost_ret (v := .tuple #[.agg #[.int .i64 p, .int .i64 q, .bool true, .slice none 0 0], .bool true]) (by first | (simp [results, Tryz.results30, go_sem, br_0_5, br_1_5, br_2_5, br_3_5]; done) | (simp [results, Tryz.results30, go_sem, *]; try rfl)) rfl ?_
      exact retIncident2_mk Hz.out rfl (Own.nil _ _ _) (by repeat' (first | exact hk5 | refine bl_alloc ?_ _ | refine bl_drew ?_ | refine bl_set ?_ (by simp only []; have := z1.out; have := z2.out; have := z3.out; have := z4.out; have := z5.out; omega) _))
    have hme : m.toList.isEmpty = false := empNS hm
    have HX0 := Lib.hid (px_some HQ0.out hm)
    have HVN0 : Hid (∀ x : ByteArray, x ∈ cutB 44 m → x.size ≤ maxLen) := fun x hx => by have := cut_piece hx; have := HZM.out; unfold maxLen; omega
    have HNN0 : Hid ((cutB 44 m).length ≤ 1048577) := cut_manyS HZM.out
    clear hm
    go_wp2_with fail
    refine (l1Split_44 m _ HZM.out).mono ?_
    rintro e V6 ⟨A2, c2, rfl, ho2, hb6⟩
    have hB6 := bl_trans (a := V3) (bl_refl _) hb6
    have hk6 := bl_trans hk3 hB6
    have z6 := Lib.hid hB6.size
    have br_0_6 : V6.cell? ⟨w.heap.size, 0, none⟩ = some (.int .i64 0) := cell_later hB6 br_0_3
    have qr_0_6 : V6.frozen? ⟨w.heap.size, 0, none⟩ = false := frozen_later hB6 (World.block_lt_of_cell? _ _ br_0_3) qr_0_3
    have br_1_6 : V6.cell? ⟨w.heap.size, 1, none⟩ = some (.int .i64 0) := cell_later hB6 br_1_3
    have qr_1_6 : V6.frozen? ⟨w.heap.size, 1, none⟩ = false := frozen_later hB6 (World.block_lt_of_cell? _ _ br_1_3) qr_1_3
    have br_2_6 : V6.cell? ⟨w.heap.size, 2, none⟩ = some (.bool false) := cell_later hB6 br_2_3
    have qr_2_6 : V6.frozen? ⟨w.heap.size, 2, none⟩ = false := frozen_later hB6 (World.block_lt_of_cell? _ _ br_2_3) qr_2_3
    have br_3_6 : V6.cell? ⟨w.heap.size, 3, none⟩ = some (.slice none 0 0) := cell_later hB6 br_3_3
    have qr_3_6 : V6.frozen? ⟨w.heap.size, 3, none⟩ = false := frozen_later hB6 (World.block_lt_of_cell? _ _ br_3_3) qr_3_3
    have lr_6 : w.heap.size < V6.heap.size := World.block_lt_of_cell? _ _ br_0_6
    have bx_0_6 : V6.cell? ⟨V1.heap.size, 0, none⟩ = some (.int .i64 p) := cell_later hB6 bx_0_3
    have qx_0_6 : V6.frozen? ⟨V1.heap.size, 0, none⟩ = false := frozen_later hB6 (World.block_lt_of_cell? _ _ bx_0_3) qx_0_3
    have bx_1_6 : V6.cell? ⟨V1.heap.size, 1, none⟩ = some (.int .i64 q) := cell_later hB6 bx_1_3
    have qx_1_6 : V6.frozen? ⟨V1.heap.size, 1, none⟩ = false := frozen_later hB6 (World.block_lt_of_cell? _ _ bx_1_3) qx_1_3
    have bx_2_6 : V6.cell? ⟨V1.heap.size, 2, none⟩ = some (.bool true) := cell_later hB6 bx_2_3
    have qx_2_6 : V6.frozen? ⟨V1.heap.size, 2, none⟩ = false := frozen_later hB6 (World.block_lt_of_cell? _ _ bx_2_3) qx_2_3
    have bx_3_6 : V6.cell? ⟨V1.heap.size, 3, none⟩ = some (.slice none 0 0) := cell_later hB6 bx_3_3
    have qx_3_6 : V6.frozen? ⟨V1.heap.size, 3, none⟩ = false := frozen_later hB6 (World.block_lt_of_cell? _ _ bx_3_3) qx_3_3
    have lx_6 : V1.heap.size < V6.heap.size := World.block_lt_of_cell? _ _ bx_0_6
    clear hk3 br_0_3 qr_0_3 br_1_3 qr_1_3 br_2_3 qr_2_3 br_3_3 qr_3_3 lr_3 bx_0_3 qx_0_3 bx_1_3 qx_1_3 bx_2_3 qx_2_3 bx_3_3 qx_3_3
    obtain ⟨M, hM⟩ : ∃ M, M = cutB 44 m := ⟨_, rfl⟩
    rw [← hM] at ho2 HX0 HVN0 HNN0 ⊢
    have HX := HX0
    have HVN := HVN0
    have HNN : Hid ((M.length : Int) ≤ 9223372036854775807) := by have := HNN0.out; rw [Hid]; omega
    have HNC : Hid (M.length ≤ c2) := ho2.cap.1
    have HO2 : Hid (Own V6 (V1.heap.size + 1) 9 (.slice A2 M.length c2) M) := Own.mono ho2 (by have := z1.out; have := z2.out; have := z3.out; have := z6.out; omega)
    clear hM ho2 HX0 HVN0
    go_upto_region 15 with fail
    obtain ⟨V7, hW7⟩ : ∃ V, V = V6.setCell ⟨V1.heap.size, 3, none⟩ (.slice A2 M.length c2) := ⟨_, rfl⟩
    rw [← hW7]
    have hf7 : OnlyF [V1.heap.size] V6 V7 := by rw [hW7]; repeat' (first | exact OnlyF.refl _ _ | refine OnlyF.alloc ?_ _ | refine OnlyF.set ?_ (List.mem_singleton.2 rfl) _ | refine OnlyF.drew ?_)
    have hk7 : Below w.heap.size w V7 := by rw [hW7]; repeat' (first | exact hk6 | refine bl_alloc ?_ _ | refine bl_set ?_ (by simp only []; omega) _)
    have br_0_7 : V7.cell? ⟨w.heap.size, 0, none⟩ = some (.int .i64 0) := hf7.keeps br_0_6 (fun hm => by have hm := List.mem_singleton.1 hm; simp only [] at hm; omega)
    have qr_0_7 : V7.frozen? ⟨w.heap.size, 0, none⟩ = false := (hf7.frozen (World.block_lt_of_cell? _ _ br_0_6) (fun hm => by have hm := List.mem_singleton.1 hm; simp only [] at hm; omega)).trans qr_0_6
    have br_1_7 : V7.cell? ⟨w.heap.size, 1, none⟩ = some (.int .i64 0) := hf7.keeps br_1_6 (fun hm => by have hm := List.mem_singleton.1 hm; simp only [] at hm; omega)
    have qr_1_7 : V7.frozen? ⟨w.heap.size, 1, none⟩ = false := (hf7.frozen (World.block_lt_of_cell? _ _ br_1_6) (fun hm => by have hm := List.mem_singleton.1 hm; simp only [] at hm; omega)).trans qr_1_6
    have br_2_7 : V7.cell? ⟨w.heap.size, 2, none⟩ = some (.bool false) := hf7.keeps br_2_6 (fun hm => by have hm := List.mem_singleton.1 hm; simp only [] at hm; omega)
    have qr_2_7 : V7.frozen? ⟨w.heap.size, 2, none⟩ = false := (hf7.frozen (World.block_lt_of_cell? _ _ br_2_6) (fun hm => by have hm := List.mem_singleton.1 hm; simp only [] at hm; omega)).trans qr_2_6
    have br_3_7 : V7.cell? ⟨w.heap.size, 3, none⟩ = some (.slice none 0 0) := hf7.keeps br_3_6 (fun hm => by have hm := List.mem_singleton.1 hm; simp only [] at hm; omega)
    have qr_3_7 : V7.frozen? ⟨w.heap.size, 3, none⟩ = false := (hf7.frozen (World.block_lt_of_cell? _ _ br_3_6) (fun hm => by have hm := List.mem_singleton.1 hm; simp only [] at hm; omega)).trans qr_3_6
    have lr_7 : w.heap.size < V7.heap.size := World.block_lt_of_cell? _ _ br_0_7
    have bx_0_7 : V7.cell? ⟨V1.heap.size, 0, none⟩ = some (.int .i64 p) := by rw [hW7]; go_simp
    have qx_0_7 : V7.frozen? ⟨V1.heap.size, 0, none⟩ = false := by rw [hW7]; go_simp
    have bx_1_7 : V7.cell? ⟨V1.heap.size, 1, none⟩ = some (.int .i64 q) := by rw [hW7]; go_simp
    have qx_1_7 : V7.frozen? ⟨V1.heap.size, 1, none⟩ = false := by rw [hW7]; go_simp
    have bx_2_7 : V7.cell? ⟨V1.heap.size, 2, none⟩ = some (.bool true) := by rw [hW7]; go_simp
    have qx_2_7 : V7.frozen? ⟨V1.heap.size, 2, none⟩ = false := by rw [hW7]; go_simp
    have bx_3_7 : V7.cell? ⟨V1.heap.size, 3, none⟩ = some (.slice A2 M.length c2) := by rw [hW7]; go_simp
    have qx_3_7 : V7.frozen? ⟨V1.heap.size, 3, none⟩ = false := by rw [hW7]; go_simp
    have Honm7 : Hid (Own V7 (V1.heap.size + 1) 9 (.slice A2 M.length c2) M) := by rw [hW7]; exact Own.set HO2.out (Nat.lt_succ_self _) _
    have z7 := Lib.hid hf7.size
    have HW7 := Lib.hid hW7
    clear hW7 hk6 br_0_6 qr_0_6 br_1_6 qr_1_6 br_2_6 qr_2_6 br_3_6 qr_3_6 lr_6
    have ho_nm := Honm7.out
    go_wp2_with fail
    refine (ixOne_any p q true M _ _ _ _ HNN.out ho_nm.sl HVN.out).mono ?_
    rintro e V8 ⟨rfl, hb8⟩
    have hB8 := bl_trans (a := V7) (bl_refl _) hb8
    have hk8 := bl_trans hk7 hB8
    have z8 := Lib.hid hB8.size
    have nm_8 := ho_nm.below hB8
    have br_0_8 : V8.cell? ⟨w.heap.size, 0, none⟩ = some (.int .i64 0) := cell_later hB8 br_0_7
    have qr_0_8 : V8.frozen? ⟨w.heap.size, 0, none⟩ = false := frozen_later hB8 (World.block_lt_of_cell? _ _ br_0_7) qr_0_7
    have br_1_8 : V8.cell? ⟨w.heap.size, 1, none⟩ = some (.int .i64 0) := cell_later hB8 br_1_7
    have qr_1_8 : V8.frozen? ⟨w.heap.size, 1, none⟩ = false := frozen_later hB8 (World.block_lt_of_cell? _ _ br_1_7) qr_1_7
    have br_2_8 : V8.cell? ⟨w.heap.size, 2, none⟩ = some (.bool false) := cell_later hB8 br_2_7
    have qr_2_8 : V8.frozen? ⟨w.heap.size, 2, none⟩ = false := frozen_later hB8 (World.block_lt_of_cell? _ _ br_2_7) qr_2_7
    have br_3_8 : V8.cell? ⟨w.heap.size, 3, none⟩ = some (.slice none 0 0) := cell_later hB8 br_3_7
    have qr_3_8 : V8.frozen? ⟨w.heap.size, 3, none⟩ = false := frozen_later hB8 (World.block_lt_of_cell? _ _ br_3_7) qr_3_7
    have lr_8 : w.heap.size < V8.heap.size := World.block_lt_of_cell? _ _ br_0_8
    have bx_0_8 : V8.cell? ⟨V1.heap.size, 0, none⟩ = some (.int .i64 p) := cell_later hB8 bx_0_7
    have qx_0_8 : V8.frozen? ⟨V1.heap.size, 0, none⟩ = false := frozen_later hB8 (World.block_lt_of_cell? _ _ bx_0_7) qx_0_7
    have bx_1_8 : V8.cell? ⟨V1.heap.size, 1, none⟩ = some (.int .i64 q) := cell_later hB8 bx_1_7
    have qx_1_8 : V8.frozen? ⟨V1.heap.size, 1, none⟩ = false := frozen_later hB8 (World.block_lt_of_cell? _ _ bx_1_7) qx_1_7
    have bx_2_8 : V8.cell? ⟨V1.heap.size, 2, none⟩ = some (.bool true) := cell_later hB8 bx_2_7
    have qx_2_8 : V8.frozen? ⟨V1.heap.size, 2, none⟩ = false := frozen_later hB8 (World.block_lt_of_cell? _ _ bx_2_7) qx_2_7
    have bx_3_8 : V8.cell? ⟨V1.heap.size, 3, none⟩ = some (.slice A2 M.length c2) := cell_later hB8 bx_3_7
    have qx_3_8 : V8.frozen? ⟨V1.heap.size, 3, none⟩ = false := frozen_later hB8 (World.block_lt_of_cell? _ _ bx_3_7) qx_3_7
    have lx_8 : V1.heap.size < V8.heap.size := World.block_lt_of_cell? _ _ bx_0_8
    clear hk7 ho_nm br_0_7 qr_0_7 br_1_7 qr_1_7 br_2_7 qr_2_7 br_3_7 qr_3_7 lr_7 bx_0_7 qx_0_7 bx_1_7 qx_1_7 bx_2_7 qx_2_7 bx_3_7 qx_3_7
    cases h0 : incB p q true M
    · have H0 := Lib.hid h0
      clear h0
      have HN : Hid (∀ x, ¬ GoodI s x) := px_bad1 HX.out H0.out
      go_wp2
      refine bodyPost_ret (v := .tuple #[.agg #[.int .i64 0, .int .i64 0, .bool false, .slice none 0 0], .bool false]) (by first | (simp [results, Tryz.results30, go_sem, br_0_8, br_1_8, br_2_8, br_3_8]; done) | (simp [results, Tryz.results30, go_sem, *]; try rfl)) rfl ?_
      exact retIncident2_mk (piF_no HN.out) rfl (Own.nil _ _ _) (by repeat' (first | exact hk8 | refine bl_alloc ?_ _ | refine bl_drew ?_ | refine bl_set ?_ (by simp only []; have := z1.out; have := z2.out; have := z3.out; have := z6.out; have := z7.out; have := z8.out; omega) _))
    have H0 := Lib.hid h0
    clear h0
    go_wp2_with fail
    refine (ixText_any p q true M _ _ _ _ nm_8.sl H0.out).mono ?_
    rintro e V9 ⟨rfl, hb9⟩
    have hB9 := bl_trans (a := V8) (bl_refl _) hb9
    have hk9 := bl_trans hk8 hB9
    have z9 := Lib.hid hB9.size
    have nm_9 := nm_8.below hB9
    have br_0_9 : V9.cell? ⟨w.heap.size, 0, none⟩ = some (.int .i64 0) := cell_later hB9 br_0_8
    have qr_0_9 : V9.frozen? ⟨w.heap.size, 0, none⟩ = false := frozen_later hB9 (World.block_lt_of_cell? _ _ br_0_8) qr_0_8
    have br_1_9 : V9.cell? ⟨w.heap.size, 1, none⟩ = some (.int .i64 0) := cell_later hB9 br_1_8
    have qr_1_9 : V9.frozen? ⟨w.heap.size, 1, none⟩ = false := frozen_later hB9 (World.block_lt_of_cell? _ _ br_1_8) qr_1_8
    have br_2_9 : V9.cell? ⟨w.heap.size, 2, none⟩ = some (.bool false) := cell_later hB9 br_2_8
    have qr_2_9 : V9.frozen? ⟨w.heap.size, 2, none⟩ = false := frozen_later hB9 (World.block_lt_of_cell? _ _ br_2_8) qr_2_8
    have br_3_9 : V9.cell? ⟨w.heap.size, 3, none⟩ = some (.slice none 0 0) := cell_later hB9 br_3_8
    have qr_3_9 : V9.frozen? ⟨w.heap.size, 3, none⟩ = false := frozen_later hB9 (World.block_lt_of_cell? _ _ br_3_8) qr_3_8
    have lr_9 : w.heap.size < V9.heap.size := World.block_lt_of_cell? _ _ br_0_9
    have bx_0_9 : V9.cell? ⟨V1.heap.size, 0, none⟩ = some (.int .i64 p) := cell_later hB9 bx_0_8
    have qx_0_9 : V9.frozen? ⟨V1.heap.size, 0, none⟩ = false := frozen_later hB9 (World.block_lt_of_cell? _ _ bx_0_8) qx_0_8
    have bx_1_9 : V9.cell? ⟨V1.heap.size, 1, none⟩ = some (.int .i64 q) := cell_later hB9 bx_1_8
    have qx_1_9 : V9.frozen? ⟨V1.heap.size, 1, none⟩ = false := frozen_later hB9 (World.block_lt_of_cell? _ _ bx_1_8) qx_1_8
    have bx_2_9 : V9.cell? ⟨V1.heap.size, 2, none⟩ = some (.bool true) := cell_later hB9 bx_2_8
    have qx_2_9 : V9.frozen? ⟨V1.heap.size, 2, none⟩ = false := frozen_later hB9 (World.block_lt_of_cell? _ _ bx_2_8) qx_2_8
    have bx_3_9 : V9.cell? ⟨V1.heap.size, 3, none⟩ = some (.slice A2 M.length c2) := cell_later hB9 bx_3_8
    have qx_3_9 : V9.frozen? ⟨V1.heap.size, 3, none⟩ = false := frozen_later hB9 (World.block_lt_of_cell? _ _ bx_3_8) qx_3_8
    have lx_9 : V1.heap.size < V9.heap.size := World.block_lt_of_cell? _ _ bx_0_9
    clear hk8 nm_8 br_0_8 qr_0_8 br_1_8 qr_1_8 br_2_8 qr_2_8 br_3_8 qr_3_8 lr_8 bx_0_8 qx_0_8 bx_1_8 qx_1_8 bx_2_8 qx_2_8 bx_3_8 qx_3_8 lx_8
    cases hq : sameB (incT p q true M) s
    · have HQ := Lib.hid hq
      have hq2 : ((incT p q true M).toList == s.toList) = false := by rw [bytes_beq]; exact hq
      have hq3 : ((incT p q true M).toList != s.toList) = true := by simp [bne, hq2]
      clear hq
      have HN : Hid (∀ x, ¬ GoodI s x) := px_bad2 HX.out HQ.out
      go_wp2
      refine bodyPost_ret (v := .tuple #[.agg #[.int .i64 0, .int .i64 0, .bool false, .slice none 0 0], .bool false]) (by first | (simp [results, Tryz.results30, go_sem, br_0_9, br_1_9, br_2_9, br_3_9]; done) | (simp [results, Tryz.results30, go_sem, *]; try rfl)) rfl ?_
      exact retIncident2_mk (piF_no HN.out) rfl (Own.nil _ _ _) (by repeat' (first | exact hk9 | refine bl_alloc ?_ _ | refine bl_drew ?_ | refine bl_set ?_ (by simp only []; have := z1.out; have := z2.out; have := z3.out; have := z6.out; have := z7.out; have := z8.out; have := z9.out; omega) _))
    have HQ := Lib.hid hq
    have hq2 : ((incT p q true M).toList == s.toList) = true := by rw [bytes_beq]; exact hq
    have hq3 : ((incT p q true M).toList != s.toList) = false := by simp [bne, hq2]
    have Hz := Lib.hid (piF_yes (px_good H0.out HQ.out))
    clear hq
    have HOW := Lib.hid nm_9
    clear nm_9
    go_wp2
    refine bodyPost_ret (v := .tuple #[.agg #[.int .i64 p, .int .i64 q, .bool true, .slice A2 M.length c2], .bool true]) (by first | (simp [results, Tryz.results30, go_sem, br_0_9, br_1_9, br_2_9, br_3_9]; done) | (simp [results, Tryz.results30, go_sem, *]; try rfl)) rfl ?_
    refine retIncident2_mk Hz.out rfl (Own.mono (base := w.heap.size + 1) ?_ (by omega)) (by repeat' (first | exact hk9 | refine bl_alloc ?_ _ | refine bl_drew ?_ | refine bl_set ?_ (by simp only []; have := z1.out; have := z2.out; have := z3.out; have := z6.out; have := z7.out; have := z8.out; have := z9.out; omega) _))
    repeat' (first | exact HOW.out.mono (by have := z1.out; have := z2.out; have := z3.out; have := z6.out; have := z7.out; have := z8.out; have := z9.out; omega) | refine Own.set ?_ (Nat.lt_succ_self _) _)
  · skip
    have HB : Hid (BangP h h false) := .inr ⟨bang_no hbg, rfl, rfl⟩
    have hs2 := hz0
    have HBL : Hid (b < V1.heap.size) := hbz
    by_cases g0 : 0 < h.size
    · have g2 : decide ((h.size : Int) > 0) = true := by simp; omega
      have i2 : 0 ≤ (h.size : Int) - 1 := by omega
      have i4 : (h.size : Int) - 1 < h.size := by omega
      have i1 : IntKind.i64.wrap ((h.size : Int) - 1) = (h.size : Int) - 1 := IntWalk.i64_in _ (by omega)
      have i3 : ((h.size : Int) - 1).toNat = h.size - 1 := by omega
      have i5 : h.size - 1 < h.size := by omega
      have g3 : (Go.PlainAid.bt h (h.size - 1) == 33) = false := by simp; exact fun e => hbg ⟨g0, e⟩
      clear hbg
      exact absurd HCS.out.2 (fun e => by rw [e] at g3; simp at g3)
    have g2 : decide ((h.size : Int) > 0) = false := decide_eq_false (by omega)
    clear hbg
    exact absurd HCS.out.1 g0

end Go.Proofs.YtpdblmcflniomaaGreatDoor
