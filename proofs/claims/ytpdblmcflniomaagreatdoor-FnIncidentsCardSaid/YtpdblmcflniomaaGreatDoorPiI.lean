/-
  ParseIncident: the program's answer. No conditions.
-/
import Derived.Test.YtpdblmcflniomaaGreatDoorPiQ
import Derived.Test.YtpdblmcflniomaaGreatDoorIv39
import Derived.Test.YtpdblmcflniomaaGreatDoorIv7
import Derived.StillTailTactics
namespace Go.Proofs.YtpdblmcflniomaaGreatDoor
open Go.RowKit

theorem emp0 {m : ByteArray} (h : m.size = 0) : m.toList.isEmpty = true := by
  have h5 : m.data.toList.length = m.size := ba_len m
  rw [Lib.toList_data, List.eq_nil_of_length_eq_zero (h5.trans h)]; rfl
theorem empN {m : ByteArray} (h : m.size ≠ 0) : m.toList.isEmpty = false := by
  have h5 : m.data.toList.length = m.size := ba_len m
  rw [Lib.toList_data]
  cases hl : m.data.toList with
  | nil => rw [hl] at h5; exact absurd h5.symm h
  | cons a l => rfl
theorem size0 {m : ByteArray} (h : m.size = 0) : m = ⟨#[]⟩ := by
  apply ba_ext
  have h5 : m.data.toList.length = m.size := ba_len m
  rw [List.eq_nil_of_length_eq_zero (h5.trans h)]
theorem sizeN {m : ByteArray} (h : m.size ≠ 0) : (m.toList == (⟨#[]⟩ : ByteArray).toList) = false := by
  rw [bytes_beq]
  cases hc : sameB m ⟨#[]⟩ with
  | false => rfl
  | true => exact absurd (by rw [sameB_iff.1 hc]; rfl) h
theorem cut_many {c : UInt8} {s : ByteArray} (hs : s.size ≤ 1048576) : (cutB c s).length ≤ 1048577 := by
  have hl : Lib.countB s ⟨#[c]⟩ + 1 = (cutB c s).length := by rw [← splitB_cut c s.size s (Nat.le_refl _), Lib.splitB_all ⟨#[c]⟩ (Nat.le_refl 1) 0 _ s rfl]
  have := Lib.countB_le ⟨#[c]⟩ (Nat.le_refl 1) s.size s (Nat.le_refl _)
  omega
set_option maxRecDepth 100000 in
set_option maxHeartbeats 8000000 in
theorem implParseIncident_any (s : ByteArray) (w : World) (hs : s.size ≤ 1048576) (he : Env w) :
    Calls Tryz.prog 29 #[.string s] w (RetIncident2 w 9 (piF s)) := by
  have HE := Lib.hid he
  clear he
  go_enter Tryz.func29, Tryz.ntmps29
  have hk0 := bl_refl w
  go_wp2_with fail
  refine (cut_any s 58 _ hs (HE.out.below (bl_trans hk0 (by repeat' (first | exact bl_refl _ | refine bl_alloc ?_ _ | refine bl_drew ?_ | refine bl_drewN ?_ _ | refine bl_set ?_ ?_ _ | (simp; done) | (simp; omega)))))).mono ?_
  rintro e V1 ⟨h, m, fd, rfl, ⟨sh, sm⟩, K1, hb1⟩
  have hB1 := bl_trans (a := w) (by repeat' (first | exact bl_refl _ | refine bl_alloc ?_ _ | refine bl_drew ?_ | refine bl_drewN ?_ _ | refine bl_set ?_ ?_ _ | (simp; done) | (simp; omega))) hb1
  have hk1 := bl_trans hk0 hB1
  have z1 : Hid (w.heap.size + 1 ≤ V1.heap.size) := by have := hb1.size; simp only [World.size_alloc] at this; exact (by omega : _)
  have br_0_1 : V1.cell? ⟨w.heap.size, 0, none⟩ = some (.int .i64 0) := cell_later hb1 (by go_simp)
  have qr_0_1 : V1.frozen? ⟨w.heap.size, 0, none⟩ = false := frozen_later hb1 (by simp) (by go_simp)
  have br_1_1 : V1.cell? ⟨w.heap.size, 1, none⟩ = some (.int .i64 0) := cell_later hb1 (by go_simp)
  have qr_1_1 : V1.frozen? ⟨w.heap.size, 1, none⟩ = false := frozen_later hb1 (by simp) (by go_simp)
  have br_2_1 : V1.cell? ⟨w.heap.size, 2, none⟩ = some (.bool false) := cell_later hb1 (by go_simp)
  have qr_2_1 : V1.frozen? ⟨w.heap.size, 2, none⟩ = false := frozen_later hb1 (by simp) (by go_simp)
  have br_3_1 : V1.cell? ⟨w.heap.size, 3, none⟩ = some (.slice none 0 0) := cell_later hb1 (by go_simp)
  have qr_3_1 : V1.frozen? ⟨w.heap.size, 3, none⟩ = false := frozen_later hb1 (by simp) (by go_simp)
  have lr_1 : w.heap.size < V1.heap.size := World.block_lt_of_cell? _ _ br_0_1
  have HZM : Hid (m.size ≤ 1048576) := sm
  go_wp2_with fail
  refine (cutSuffix_any h 33 _ sh).mono ?_
  rintro _ V1 ⟨h2, cl, rfl, s2, K2, rfl⟩
  go_wp2_with fail
  refine (readNumbers_any h2 64 _ s2 (HE.out.below hk1)).mono ?_
  rintro e V2 ⟨A1, n1, c1, L, ok, rfl, hn1, hsl, hbd, hb2, K3⟩
  have hB2 := bl_trans (a := V1) (bl_refl _) hb2
  have hk2 := bl_trans hk1 hB2
  have z2 := Lib.hid hB2.size
  have br_0_2 : V2.cell? ⟨w.heap.size, 0, none⟩ = some (.int .i64 0) := cell_later hB2 br_0_1
  have qr_0_2 : V2.frozen? ⟨w.heap.size, 0, none⟩ = false := frozen_later hB2 (World.block_lt_of_cell? _ _ br_0_1) qr_0_1
  have br_1_2 : V2.cell? ⟨w.heap.size, 1, none⟩ = some (.int .i64 0) := cell_later hB2 br_1_1
  have qr_1_2 : V2.frozen? ⟨w.heap.size, 1, none⟩ = false := frozen_later hB2 (World.block_lt_of_cell? _ _ br_1_1) qr_1_1
  have br_2_2 : V2.cell? ⟨w.heap.size, 2, none⟩ = some (.bool false) := cell_later hB2 br_2_1
  have qr_2_2 : V2.frozen? ⟨w.heap.size, 2, none⟩ = false := frozen_later hB2 (World.block_lt_of_cell? _ _ br_2_1) qr_2_1
  have br_3_2 : V2.cell? ⟨w.heap.size, 3, none⟩ = some (.slice none 0 0) := cell_later hB2 br_3_1
  have qr_3_2 : V2.frozen? ⟨w.heap.size, 3, none⟩ = false := frozen_later hB2 (World.block_lt_of_cell? _ _ br_3_1) qr_3_1
  have lr_2 : w.heap.size < V2.heap.size := World.block_lt_of_cell? _ _ br_0_2
  clear hk1 br_0_1 qr_0_1 br_1_1 qr_1_1 br_2_1 qr_2_1 br_3_1 qr_3_1 lr_1
  have HB : Hid (BangP h h2 cl) := by
    by_cases hx : ∃ l : List UInt8, h.data.toList = l ++ [33]
    · obtain ⟨l, hl⟩ := hx
      exact .inl ⟨l, hl, K2.out.1 l hl⟩
    · have hx' : ∀ l : List UInt8, h.data.toList ≠ l ++ [33] := fun l hl => hx ⟨l, hl⟩
      exact .inr ⟨hx', K2.out.2 hx'⟩
  have HR : Hid (∀ x, GoodI s x → h2 = ⟨(numL x).toArray⟩ → ok = true ∧ L = [x.Number, x.Node]) := fun x hx e => by
    obtain ⟨g1, g2, _⟩ := good_bd hx
    obtain ⟨u, hu⟩ := Int.eq_ofNat_of_zero_le (by omega : 0 ≤ x.Number)
    obtain ⟨v, hv⟩ := Int.eq_ofNat_of_zero_le (by omega : 0 ≤ x.Node)
    have := K3.out [u, v] (fun y hy => by simp only [List.mem_cons, List.mem_nil_iff, or_false] at hy; omega) (by rw [e, cut_at hx, hu, hv]; rfl)
    rw [hu, hv]
    exact this
  have HH : Hid (∀ x, GoodI s x → h = ⟨(hdL x).toArray⟩ ∧ m = ⟨(nmL x).toArray⟩) := fun x hx => K1.out _ _ (hd_no hx) (good_text hx)
  have HG : Hid (∀ x, GoodI s x → ok = true ∧ L = [x.Number, x.Node]) := fun x hx => by
    obtain ⟨e1, e2⟩ := HH.out x hx
    have el : h.data.toList = hdL x := by rw [e1]
    refine HR.out x hx ?_
    rcases HB.out with ⟨l, hl, rfl, rfl⟩ | ⟨hl, rfl, rfl⟩
    · cases hc : x.Closed with
      | true =>
        have e3 := (hd_bang hx).1 hc
        rw [← el, hl] at e3
        rw [List.append_cancel_right e3]
      | false => exact absurd (el.symm.trans hl) (((hd_bang hx).2 hc).2 l)
    · cases hc : x.Closed with
      | true => exact absurd (el.trans ((hd_bang hx).1 hc)) (hl _)
      | false => rw [e1, ((hd_bang hx).2 hc).1]
  clear K1 K2 K3 sh sm s2
  have HSL := Lib.hid hsl
  have HBD := Lib.hid hbd
  clear hsl hbd
  cases ok
  · have HN : Hid (∀ x, ¬ GoodI s x) := fun x hx => by have := (HG.out x hx).1; cases this
    go_wp2
    refine bodyPost_ret (v := .tuple #[.agg #[.int .i64 0, .int .i64 0, .bool false, .slice none 0 0], .bool false]) (by first | (simp [results, Tryz.results29, go_sem, br_0_2, br_1_2, br_2_2, br_3_2]; done) | (simp [results, Tryz.results29, go_sem, *]; try rfl)) rfl ?_
    exact retIncident2_mk (piF_no HN.out) rfl (Own.nil _ _ _) (by repeat' (first | exact hk2 | refine bl_alloc ?_ _ | refine bl_drew ?_ | refine bl_set ?_ (by simp only []; have := z1.out; have := z2.out; omega) _))
  by_cases hl2 : n1 = 2
  rotate_left
  · have hd : ((n1 : Int) != 2) = true := by simp; omega
    have HN : Hid (∀ x, ¬ GoodI s x) := fun x hx => by have h1 := (HG.out x hx).2; have h2 := HSL.out.1; rw [h1] at h2; exact hl2 h2.symm
    go_wp2
    refine bodyPost_ret (v := .tuple #[.agg #[.int .i64 0, .int .i64 0, .bool false, .slice none 0 0], .bool false]) (by first | (simp [results, Tryz.results29, go_sem, br_0_2, br_1_2, br_2_2, br_3_2]; done) | (simp [results, Tryz.results29, go_sem, *]; try rfl)) rfl ?_
    exact retIncident2_mk (piF_no HN.out) rfl (Own.nil _ _ _) (by repeat' (first | exact hk2 | refine bl_alloc ?_ _ | refine bl_drew ?_ | refine bl_set ?_ (by simp only []; have := z1.out; have := z2.out; omega) _))
  subst hl2
  obtain ⟨b, o, rfl, hbz, c0⟩ := HSL.out.int (k := 0) (by omega)
  obtain ⟨b', o', e', _, d0⟩ := HSL.out.int (k := 1) (by omega)
  injection e' with e'
  injection e' with e1 e2
  subst e1 e2
  have c0 : V2.cell? ⟨b, o, none⟩ = some (.int .i64 (nth L 0)) := c0
  obtain ⟨p, hp⟩ : ∃ p, p = nth L 0 := ⟨_, rfl⟩
  obtain ⟨q, hq0⟩ : ∃ q, q = nth L 1 := ⟨_, rfl⟩
  rw [← hp] at c0
  rw [← hq0] at d0
  have HQ0 := Lib.hid (px_mk (a := p) (b := q) HH.out HB.out (fun x hx _ => by
    have h1 := (HG.out x hx).2
    rw [hp, hq0, h1]
    exact ⟨rfl, rfl⟩))
  clear hp hq0
  have hcc : (1 : Nat) < 2 := by omega
  go_upto_region 6 with fail
  have hD := bl_drew (bl_refl V2)
  go_region_held3 (fun w' => w'.cell? ⟨b, o, none⟩ = some (.int .i64 p) ∧ w'.cell? ⟨b, o + 1, none⟩ = some (.int .i64 q)) (first | exact ⟨cell_later hD c0, cell_later hD d0⟩ | exact ⟨cell_later (bl_alloc hD _) c0, cell_later (bl_alloc hD _) d0⟩ | go_keep) (first | fail)
  go_upto_region 7 with fail
  refine wp_hide (R := fun X => Below V2.heap.size V2 X ∧ X.cell? ⟨V2.heap.size, 0, none⟩ = some (.int .i64 p) ∧ X.frozen? ⟨V2.heap.size, 0, none⟩ = false ∧ X.cell? ⟨V2.heap.size, 1, none⟩ = some (.int .i64 q) ∧ X.frozen? ⟨V2.heap.size, 1, none⟩ = false ∧ X.cell? ⟨V2.heap.size, 2, none⟩ = some (.bool cl) ∧ X.frozen? ⟨V2.heap.size, 2, none⟩ = false ∧ X.cell? ⟨V2.heap.size, 3, none⟩ = some (.slice none 0 0) ∧ X.frozen? ⟨V2.heap.size, 3, none⟩ = false) ⟨by repeat' (first | exact bl_refl _ | refine bl_alloc ?_ _ | refine bl_drew ?_ | refine bl_drewN ?_ _ | refine bl_set ?_ (by simp) _), by go_simp, by go_simp, by go_simp, by go_simp, by go_simp, by go_simp, by go_simp, by go_simp⟩ (fun V3 ⟨hb3, bx_0, qx_0, bx_1, qx_1, bx_2, qx_2, bx_3, qx_3⟩ => ?_)
  clear hD c0 d0 hbz hcc
  have hWX := lr_2
  have hB3 := bl_trans (a := V2) (bl_refl _) hb3
  have hk3 := bl_trans hk2 hB3
  have z3 := Lib.hid hB3.size
  have br_0_3 : V3.cell? ⟨w.heap.size, 0, none⟩ = some (.int .i64 0) := cell_later hB3 br_0_2
  have qr_0_3 : V3.frozen? ⟨w.heap.size, 0, none⟩ = false := frozen_later hB3 (World.block_lt_of_cell? _ _ br_0_2) qr_0_2
  have br_1_3 : V3.cell? ⟨w.heap.size, 1, none⟩ = some (.int .i64 0) := cell_later hB3 br_1_2
  have qr_1_3 : V3.frozen? ⟨w.heap.size, 1, none⟩ = false := frozen_later hB3 (World.block_lt_of_cell? _ _ br_1_2) qr_1_2
  have br_2_3 : V3.cell? ⟨w.heap.size, 2, none⟩ = some (.bool false) := cell_later hB3 br_2_2
  have qr_2_3 : V3.frozen? ⟨w.heap.size, 2, none⟩ = false := frozen_later hB3 (World.block_lt_of_cell? _ _ br_2_2) qr_2_2
  have br_3_3 : V3.cell? ⟨w.heap.size, 3, none⟩ = some (.slice none 0 0) := cell_later hB3 br_3_2
  have qr_3_3 : V3.frozen? ⟨w.heap.size, 3, none⟩ = false := frozen_later hB3 (World.block_lt_of_cell? _ _ br_3_2) qr_3_2
  have lr_3 : w.heap.size < V3.heap.size := World.block_lt_of_cell? _ _ br_0_3
  clear hk2 br_0_2 qr_0_2 br_1_2 qr_1_2 br_2_2 qr_2_2 br_3_2 qr_3_2 lr_2
  have lx_3 : V2.heap.size < V3.heap.size := World.block_lt_of_cell? _ _ bx_0
  have hX3 := lx_3
  by_cases hm : m.size = 0
  · have hme : m.toList.isEmpty = true := emp0 hm
    have HX := Lib.hid (px_none HQ0.out hm)
    have HNN : Hid ((0 : Int) ≤ 9223372036854775807) := by rw [Hid]; omega
    have HVN : Hid (∀ x : ByteArray, x ∈ ([] : List ByteArray) → x.size ≤ maxLen) := fun x hx => by cases hx
    have HNC : Hid (0 ≤ 0) := Nat.le_refl 0
    clear hm
    go_wp2_with fail
    refine (isIncident_any p q cl [] _ _ _ _ HNN.out (⟨rfl, fun k x hx => by simp at hx⟩ : Sl _ none 0 []) HVN.out).mono ?_
    rintro e V4 ⟨rfl, hb4⟩
    have hB4 := bl_trans (a := V3) (bl_refl _) hb4
    have hk4 := bl_trans hk3 hB4
    have z4 := Lib.hid hB4.size
    have br_0_4 : V4.cell? ⟨w.heap.size, 0, none⟩ = some (.int .i64 0) := cell_later hB4 br_0_3
    have qr_0_4 : V4.frozen? ⟨w.heap.size, 0, none⟩ = false := frozen_later hB4 (World.block_lt_of_cell? _ _ br_0_3) qr_0_3
    have br_1_4 : V4.cell? ⟨w.heap.size, 1, none⟩ = some (.int .i64 0) := cell_later hB4 br_1_3
    have qr_1_4 : V4.frozen? ⟨w.heap.size, 1, none⟩ = false := frozen_later hB4 (World.block_lt_of_cell? _ _ br_1_3) qr_1_3
    have br_2_4 : V4.cell? ⟨w.heap.size, 2, none⟩ = some (.bool false) := cell_later hB4 br_2_3
    have qr_2_4 : V4.frozen? ⟨w.heap.size, 2, none⟩ = false := frozen_later hB4 (World.block_lt_of_cell? _ _ br_2_3) qr_2_3
    have br_3_4 : V4.cell? ⟨w.heap.size, 3, none⟩ = some (.slice none 0 0) := cell_later hB4 br_3_3
    have qr_3_4 : V4.frozen? ⟨w.heap.size, 3, none⟩ = false := frozen_later hB4 (World.block_lt_of_cell? _ _ br_3_3) qr_3_3
    have lr_4 : w.heap.size < V4.heap.size := World.block_lt_of_cell? _ _ br_0_4
    have bx_0_4 : V4.cell? ⟨V2.heap.size, 0, none⟩ = some (.int .i64 p) := cell_later hB4 bx_0
    have qx_0_4 : V4.frozen? ⟨V2.heap.size, 0, none⟩ = false := frozen_later hB4 (World.block_lt_of_cell? _ _ bx_0) qx_0
    have bx_1_4 : V4.cell? ⟨V2.heap.size, 1, none⟩ = some (.int .i64 q) := cell_later hB4 bx_1
    have qx_1_4 : V4.frozen? ⟨V2.heap.size, 1, none⟩ = false := frozen_later hB4 (World.block_lt_of_cell? _ _ bx_1) qx_1
    have bx_2_4 : V4.cell? ⟨V2.heap.size, 2, none⟩ = some (.bool cl) := cell_later hB4 bx_2
    have qx_2_4 : V4.frozen? ⟨V2.heap.size, 2, none⟩ = false := frozen_later hB4 (World.block_lt_of_cell? _ _ bx_2) qx_2
    have bx_3_4 : V4.cell? ⟨V2.heap.size, 3, none⟩ = some (.slice none 0 0) := cell_later hB4 bx_3
    have qx_3_4 : V4.frozen? ⟨V2.heap.size, 3, none⟩ = false := frozen_later hB4 (World.block_lt_of_cell? _ _ bx_3) qx_3
    have lx_4 : V2.heap.size < V4.heap.size := World.block_lt_of_cell? _ _ bx_0_4
    clear hk3 br_0_3 qr_0_3 br_1_3 qr_1_3 br_2_3 qr_2_3 br_3_3 qr_3_3 lr_3 bx_0 qx_0 bx_1 qx_1 bx_2 qx_2 bx_3 qx_3 lx_3
    cases h0 : incB p q cl []
    · have H0 := Lib.hid h0
      clear h0
      have HN : Hid (∀ x, ¬ GoodI s x) := px_bad1 HX.out H0.out
      go_wp2
      refine bodyPost_ret (v := .tuple #[.agg #[.int .i64 0, .int .i64 0, .bool false, .slice none 0 0], .bool false]) (by first | (simp [results, Tryz.results29, go_sem, br_0_4, br_1_4, br_2_4, br_3_4]; done) | (simp [results, Tryz.results29, go_sem, *]; try rfl)) rfl ?_
      exact retIncident2_mk (piF_no HN.out) rfl (Own.nil _ _ _) (by repeat' (first | exact hk4 | refine bl_alloc ?_ _ | refine bl_drew ?_ | refine bl_set ?_ (by simp only []; have := z1.out; have := z2.out; have := z3.out; have := z4.out; omega) _))
    have H0 := Lib.hid h0
    clear h0
    go_wp2_with fail
    refine (incidentText_any p q cl [] _ _ _ _ (⟨rfl, fun k x hx => by simp at hx⟩ : Sl _ none 0 []) H0.out HNC.out (HE.out.tab.below hk4)).mono ?_
    rintro e V5 ⟨rfl, hb5⟩
    have hB5 := bl_trans (a := V4) (bl_refl _) hb5
    have hk5 := bl_trans hk4 hB5
    have z5 := Lib.hid hB5.size
    have br_0_5 : V5.cell? ⟨w.heap.size, 0, none⟩ = some (.int .i64 0) := cell_later hB5 br_0_4
    have qr_0_5 : V5.frozen? ⟨w.heap.size, 0, none⟩ = false := frozen_later hB5 (World.block_lt_of_cell? _ _ br_0_4) qr_0_4
    have br_1_5 : V5.cell? ⟨w.heap.size, 1, none⟩ = some (.int .i64 0) := cell_later hB5 br_1_4
    have qr_1_5 : V5.frozen? ⟨w.heap.size, 1, none⟩ = false := frozen_later hB5 (World.block_lt_of_cell? _ _ br_1_4) qr_1_4
    have br_2_5 : V5.cell? ⟨w.heap.size, 2, none⟩ = some (.bool false) := cell_later hB5 br_2_4
    have qr_2_5 : V5.frozen? ⟨w.heap.size, 2, none⟩ = false := frozen_later hB5 (World.block_lt_of_cell? _ _ br_2_4) qr_2_4
    have br_3_5 : V5.cell? ⟨w.heap.size, 3, none⟩ = some (.slice none 0 0) := cell_later hB5 br_3_4
    have qr_3_5 : V5.frozen? ⟨w.heap.size, 3, none⟩ = false := frozen_later hB5 (World.block_lt_of_cell? _ _ br_3_4) qr_3_4
    have lr_5 : w.heap.size < V5.heap.size := World.block_lt_of_cell? _ _ br_0_5
    have bx_0_5 : V5.cell? ⟨V2.heap.size, 0, none⟩ = some (.int .i64 p) := cell_later hB5 bx_0_4
    have qx_0_5 : V5.frozen? ⟨V2.heap.size, 0, none⟩ = false := frozen_later hB5 (World.block_lt_of_cell? _ _ bx_0_4) qx_0_4
    have bx_1_5 : V5.cell? ⟨V2.heap.size, 1, none⟩ = some (.int .i64 q) := cell_later hB5 bx_1_4
    have qx_1_5 : V5.frozen? ⟨V2.heap.size, 1, none⟩ = false := frozen_later hB5 (World.block_lt_of_cell? _ _ bx_1_4) qx_1_4
    have bx_2_5 : V5.cell? ⟨V2.heap.size, 2, none⟩ = some (.bool cl) := cell_later hB5 bx_2_4
    have qx_2_5 : V5.frozen? ⟨V2.heap.size, 2, none⟩ = false := frozen_later hB5 (World.block_lt_of_cell? _ _ bx_2_4) qx_2_4
    have bx_3_5 : V5.cell? ⟨V2.heap.size, 3, none⟩ = some (.slice none 0 0) := cell_later hB5 bx_3_4
    have qx_3_5 : V5.frozen? ⟨V2.heap.size, 3, none⟩ = false := frozen_later hB5 (World.block_lt_of_cell? _ _ bx_3_4) qx_3_4
    have lx_5 : V2.heap.size < V5.heap.size := World.block_lt_of_cell? _ _ bx_0_5
    clear hk4 br_0_4 qr_0_4 br_1_4 qr_1_4 br_2_4 qr_2_4 br_3_4 qr_3_4 lr_4 bx_0_4 qx_0_4 bx_1_4 qx_1_4 bx_2_4 qx_2_4 bx_3_4 qx_3_4 lx_4
    cases hq : sameB (incT p q cl []) s
    · have HQ := Lib.hid hq
      have hq2 : ((incT p q cl []).toList == s.toList) = false := by rw [bytes_beq]; exact hq
      have hq3 : ((incT p q cl []).toList != s.toList) = true := by simp [bne, hq2]
      clear hq
      have HN : Hid (∀ x, ¬ GoodI s x) := px_bad2 HX.out HQ.out
      go_wp2
      refine bodyPost_ret (v := .tuple #[.agg #[.int .i64 0, .int .i64 0, .bool false, .slice none 0 0], .bool false]) (by first | (simp [results, Tryz.results29, go_sem, br_0_5, br_1_5, br_2_5, br_3_5]; done) | (simp [results, Tryz.results29, go_sem, *]; try rfl)) rfl ?_
      exact retIncident2_mk (piF_no HN.out) rfl (Own.nil _ _ _) (by repeat' (first | exact hk5 | refine bl_alloc ?_ _ | refine bl_drew ?_ | refine bl_set ?_ (by simp only []; have := z1.out; have := z2.out; have := z3.out; have := z4.out; have := z5.out; omega) _))
    have HQ := Lib.hid hq
    have hq2 : ((incT p q cl []).toList == s.toList) = true := by rw [bytes_beq]; exact hq
    have hq3 : ((incT p q cl []).toList != s.toList) = false := by simp [bne, hq2]
    have Hz := Lib.hid (piF_yes (px_good H0.out HQ.out))
    clear hq
    go_wp2
    refine bodyPost_ret (v := .tuple #[.agg #[.int .i64 p, .int .i64 q, .bool cl, .slice none 0 0], .bool true]) (by first | (simp [results, Tryz.results29, go_sem, br_0_5, br_1_5, br_2_5, br_3_5]; done) | (simp [results, Tryz.results29, go_sem, *]; try rfl)) rfl ?_
    exact retIncident2_mk Hz.out rfl (Own.nil _ _ _) (by repeat' (first | exact hk5 | refine bl_alloc ?_ _ | refine bl_drew ?_ | refine bl_set ?_ (by simp only []; have := z1.out; have := z2.out; have := z3.out; have := z4.out; have := z5.out; omega) _))
  have hme : m.toList.isEmpty = false := empN hm
  have HX0 := Lib.hid (px_some HQ0.out hm)
  have HVN0 : Hid (∀ x : ByteArray, x ∈ cutB 44 m → x.size ≤ maxLen) := fun x hx => by have := cut_piece hx; have := HZM.out; unfold maxLen; omega
  have HNN0 : Hid ((cutB 44 m).length ≤ 1048577) := cut_many HZM.out
  clear hm
  go_wp2_with fail
  refine (splitO_any m 44 _ HZM.out (HE.out.below hk3)).mono ?_
  rintro e V6 ⟨A2, c2, rfl, ho2, hb6⟩
  have hB6 := bl_trans (a := V3) (bl_refl _) hb6
  have hk6 := bl_trans hk3 hB6
  have z6 := Lib.hid hB6.size
  have br_0_6 : V6.cell? ⟨w.heap.size, 0, none⟩ = some (.int .i64 0) := cell_later hB6 br_0_3
  have qr_0_6 : V6.frozen? ⟨w.heap.size, 0, none⟩ = false := frozen_later hB6 (World.block_lt_of_cell? _ _ br_0_3) qr_0_3
  have br_1_6 : V6.cell? ⟨w.heap.size, 1, none⟩ = some (.int .i64 0) := cell_later hB6 br_1_3
  have qr_1_6 : V6.frozen? ⟨w.heap.size, 1, none⟩ = false := frozen_later hB6 (World.block_lt_of_cell? _ _ br_1_3) qr_1_3
  have br_2_6 : V6.cell? ⟨w.heap.size, 2, none⟩ = some (.bool false) := cell_later hB6 br_2_3
  have qr_2_6 : V6.frozen? ⟨w.heap.size, 2, none⟩ = false := frozen_later hB6 (World.block_lt_of_cell? _ _ br_2_3) qr_2_3
  have br_3_6 : V6.cell? ⟨w.heap.size, 3, none⟩ = some (.slice none 0 0) := cell_later hB6 br_3_3
  have qr_3_6 : V6.frozen? ⟨w.heap.size, 3, none⟩ = false := frozen_later hB6 (World.block_lt_of_cell? _ _ br_3_3) qr_3_3
  have lr_6 : w.heap.size < V6.heap.size := World.block_lt_of_cell? _ _ br_0_6
  have bx_0_6 : V6.cell? ⟨V2.heap.size, 0, none⟩ = some (.int .i64 p) := cell_later hB6 bx_0
  have qx_0_6 : V6.frozen? ⟨V2.heap.size, 0, none⟩ = false := frozen_later hB6 (World.block_lt_of_cell? _ _ bx_0) qx_0
  have bx_1_6 : V6.cell? ⟨V2.heap.size, 1, none⟩ = some (.int .i64 q) := cell_later hB6 bx_1
  have qx_1_6 : V6.frozen? ⟨V2.heap.size, 1, none⟩ = false := frozen_later hB6 (World.block_lt_of_cell? _ _ bx_1) qx_1
  have bx_2_6 : V6.cell? ⟨V2.heap.size, 2, none⟩ = some (.bool cl) := cell_later hB6 bx_2
  have qx_2_6 : V6.frozen? ⟨V2.heap.size, 2, none⟩ = false := frozen_later hB6 (World.block_lt_of_cell? _ _ bx_2) qx_2
  have bx_3_6 : V6.cell? ⟨V2.heap.size, 3, none⟩ = some (.slice none 0 0) := cell_later hB6 bx_3
  have qx_3_6 : V6.frozen? ⟨V2.heap.size, 3, none⟩ = false := frozen_later hB6 (World.block_lt_of_cell? _ _ bx_3) qx_3
  have lx_6 : V2.heap.size < V6.heap.size := World.block_lt_of_cell? _ _ bx_0_6
  clear hk3 br_0_3 qr_0_3 br_1_3 qr_1_3 br_2_3 qr_2_3 br_3_3 qr_3_3 lr_3 bx_0 qx_0 bx_1 qx_1 bx_2 qx_2 bx_3 qx_3 lx_3
  obtain ⟨M, hM⟩ : ∃ M, M = cutB 44 m := ⟨_, rfl⟩
  rw [← hM] at ho2 HX0 HVN0 HNN0 ⊢
  have HX := HX0
  have HVN := HVN0
  have HNN : Hid ((M.length : Int) ≤ 9223372036854775807) := by have := HNN0.out; rw [Hid]; omega
  have HNC : Hid (M.length ≤ c2) := ho2.cap.1
  have HO2 : Hid (Own V6 (V2.heap.size + 1) 9 (.slice A2 M.length c2) M) := Own.mono ho2 (by have := z1.out; have := z2.out; have := z3.out; have := z6.out; omega)
  clear hM ho2 HX0 HVN0
  go_upto_region 9 with fail
  obtain ⟨V7, hW7⟩ : ∃ V, V = V6.setCell ⟨V2.heap.size, 3, none⟩ (.slice A2 M.length c2) := ⟨_, rfl⟩
  rw [← hW7]
  have hf7 : OnlyF [V2.heap.size] V6 V7 := by rw [hW7]; repeat' (first | exact OnlyF.refl _ _ | refine OnlyF.alloc ?_ _ | refine OnlyF.set ?_ (List.mem_singleton.2 rfl) _ | refine OnlyF.drew ?_)
  have hk7 : Below w.heap.size w V7 := by rw [hW7]; repeat' (first | exact hk6 | refine bl_alloc ?_ _ | refine bl_set ?_ (by simp only []; omega) _)
  have br_0_7 : V7.cell? ⟨w.heap.size, 0, none⟩ = some (.int .i64 0) := hf7.keeps br_0_6 (fun hm => by have hm := List.mem_singleton.1 hm; simp only [] at hm; omega)
  have qr_0_7 : V7.frozen? ⟨w.heap.size, 0, none⟩ = false := (hf7.frozen (World.block_lt_of_cell? _ _ br_0_6) (fun hm => by have hm := List.mem_singleton.1 hm; simp only [] at hm; omega)).trans qr_0_6
  have br_1_7 : V7.cell? ⟨w.heap.size, 1, none⟩ = some (.int .i64 0) := hf7.keeps br_1_6 (fun hm => by have hm := List.mem_singleton.1 hm; simp only [] at hm; omega)
  have qr_1_7 : V7.frozen? ⟨w.heap.size, 1, none⟩ = false := (hf7.frozen (World.block_lt_of_cell? _ _ br_1_6) (fun hm => by have hm := List.mem_singleton.1 hm; simp only [] at hm; omega)).trans qr_1_6
  have br_2_7 : V7.cell? ⟨w.heap.size, 2, none⟩ = some (.bool false) := hf7.keeps br_2_6 (fun hm => by have hm := List.mem_singleton.1 hm; simp only [] at hm; omega)
  have qr_2_7 : V7.frozen? ⟨w.heap.size, 2, none⟩ = false := (hf7.frozen (World.block_lt_of_cell? _ _ br_2_6) (fun hm => by have hm := List.mem_singleton.1 hm; simp only [] at hm; omega)).trans qr_2_6
  have br_3_7 : V7.cell? ⟨w.heap.size, 3, none⟩ = some (.slice none 0 0) := hf7.keeps br_3_6 (fun hm => by have hm := List.mem_singleton.1 hm; simp only [] at hm; omega)
  have qr_3_7 : V7.frozen? ⟨w.heap.size, 3, none⟩ = false := (hf7.frozen (World.block_lt_of_cell? _ _ br_3_6) (fun hm => by have hm := List.mem_singleton.1 hm; simp only [] at hm; omega)).trans qr_3_6
  have lr_7 : w.heap.size < V7.heap.size := World.block_lt_of_cell? _ _ br_0_7
  have bx_0_7 : V7.cell? ⟨V2.heap.size, 0, none⟩ = some (.int .i64 p) := by rw [hW7]; go_simp
  have qx_0_7 : V7.frozen? ⟨V2.heap.size, 0, none⟩ = false := by rw [hW7]; go_simp
  have bx_1_7 : V7.cell? ⟨V2.heap.size, 1, none⟩ = some (.int .i64 q) := by rw [hW7]; go_simp
  have qx_1_7 : V7.frozen? ⟨V2.heap.size, 1, none⟩ = false := by rw [hW7]; go_simp
  have bx_2_7 : V7.cell? ⟨V2.heap.size, 2, none⟩ = some (.bool cl) := by rw [hW7]; go_simp
  have qx_2_7 : V7.frozen? ⟨V2.heap.size, 2, none⟩ = false := by rw [hW7]; go_simp
  have bx_3_7 : V7.cell? ⟨V2.heap.size, 3, none⟩ = some (.slice A2 M.length c2) := by rw [hW7]; go_simp
  have qx_3_7 : V7.frozen? ⟨V2.heap.size, 3, none⟩ = false := by rw [hW7]; go_simp
  have Honm7 : Hid (Own V7 (V2.heap.size + 1) 9 (.slice A2 M.length c2) M) := by rw [hW7]; exact Own.set HO2.out (Nat.lt_succ_self _) _
  have z7 := Lib.hid hf7.size
  have HW7 := Lib.hid hW7
  clear hW7 hk6 br_0_6 qr_0_6 br_1_6 qr_1_6 br_2_6 qr_2_6 br_3_6 qr_3_6 lr_6
  have ho_nm := Honm7.out
  go_wp2_with fail
  refine (isIncident_any p q cl M _ _ _ _ HNN.out ho_nm.sl HVN.out).mono ?_
  rintro e V8 ⟨rfl, hb8⟩
  have hB8 := bl_trans (a := V7) (bl_refl _) hb8
  have hk8 := bl_trans hk7 hB8
  have z8 := Lib.hid hB8.size
  have nm_8 := ho_nm.below hB8
  have br_0_8 : V8.cell? ⟨w.heap.size, 0, none⟩ = some (.int .i64 0) := cell_later hB8 br_0_7
  have qr_0_8 : V8.frozen? ⟨w.heap.size, 0, none⟩ = false := frozen_later hB8 (World.block_lt_of_cell? _ _ br_0_7) qr_0_7
  have br_1_8 : V8.cell? ⟨w.heap.size, 1, none⟩ = some (.int .i64 0) := cell_later hB8 br_1_7
  have qr_1_8 : V8.frozen? ⟨w.heap.size, 1, none⟩ = false := frozen_later hB8 (World.block_lt_of_cell? _ _ br_1_7) qr_1_7
  have br_2_8 : V8.cell? ⟨w.heap.size, 2, none⟩ = some (.bool false) := cell_later hB8 br_2_7
  have qr_2_8 : V8.frozen? ⟨w.heap.size, 2, none⟩ = false := frozen_later hB8 (World.block_lt_of_cell? _ _ br_2_7) qr_2_7
  have br_3_8 : V8.cell? ⟨w.heap.size, 3, none⟩ = some (.slice none 0 0) := cell_later hB8 br_3_7
  have qr_3_8 : V8.frozen? ⟨w.heap.size, 3, none⟩ = false := frozen_later hB8 (World.block_lt_of_cell? _ _ br_3_7) qr_3_7
  have lr_8 : w.heap.size < V8.heap.size := World.block_lt_of_cell? _ _ br_0_8
  have bx_0_8 : V8.cell? ⟨V2.heap.size, 0, none⟩ = some (.int .i64 p) := cell_later hB8 bx_0_7
  have qx_0_8 : V8.frozen? ⟨V2.heap.size, 0, none⟩ = false := frozen_later hB8 (World.block_lt_of_cell? _ _ bx_0_7) qx_0_7
  have bx_1_8 : V8.cell? ⟨V2.heap.size, 1, none⟩ = some (.int .i64 q) := cell_later hB8 bx_1_7
  have qx_1_8 : V8.frozen? ⟨V2.heap.size, 1, none⟩ = false := frozen_later hB8 (World.block_lt_of_cell? _ _ bx_1_7) qx_1_7
  have bx_2_8 : V8.cell? ⟨V2.heap.size, 2, none⟩ = some (.bool cl) := cell_later hB8 bx_2_7
  have qx_2_8 : V8.frozen? ⟨V2.heap.size, 2, none⟩ = false := frozen_later hB8 (World.block_lt_of_cell? _ _ bx_2_7) qx_2_7
  have bx_3_8 : V8.cell? ⟨V2.heap.size, 3, none⟩ = some (.slice A2 M.length c2) := cell_later hB8 bx_3_7
  have qx_3_8 : V8.frozen? ⟨V2.heap.size, 3, none⟩ = false := frozen_later hB8 (World.block_lt_of_cell? _ _ bx_3_7) qx_3_7
  have lx_8 : V2.heap.size < V8.heap.size := World.block_lt_of_cell? _ _ bx_0_8
  clear hk7 ho_nm br_0_7 qr_0_7 br_1_7 qr_1_7 br_2_7 qr_2_7 br_3_7 qr_3_7 lr_7 bx_0_7 qx_0_7 bx_1_7 qx_1_7 bx_2_7 qx_2_7 bx_3_7 qx_3_7
  cases h0 : incB p q cl M
  · have H0 := Lib.hid h0
    clear h0
    have HN : Hid (∀ x, ¬ GoodI s x) := px_bad1 HX.out H0.out
    go_wp2
    refine bodyPost_ret (v := .tuple #[.agg #[.int .i64 0, .int .i64 0, .bool false, .slice none 0 0], .bool false]) (by first | (simp [results, Tryz.results29, go_sem, br_0_8, br_1_8, br_2_8, br_3_8]; done) | (simp [results, Tryz.results29, go_sem, *]; try rfl)) rfl ?_
    exact retIncident2_mk (piF_no HN.out) rfl (Own.nil _ _ _) (by repeat' (first | exact hk8 | refine bl_alloc ?_ _ | refine bl_drew ?_ | refine bl_set ?_ (by simp only []; have := z1.out; have := z2.out; have := z3.out; have := z6.out; have := z7.out; have := z8.out; omega) _))
  have H0 := Lib.hid h0
  clear h0
  go_wp2_with fail
  refine (incidentText_any p q cl M _ _ _ _ nm_8.sl H0.out HNC.out (HE.out.tab.below hk8)).mono ?_
  rintro e V9 ⟨rfl, hb9⟩
  have hB9 := bl_trans (a := V8) (bl_refl _) hb9
  have hk9 := bl_trans hk8 hB9
  have z9 := Lib.hid hB9.size
  have nm_9 := nm_8.below hB9
  have br_0_9 : V9.cell? ⟨w.heap.size, 0, none⟩ = some (.int .i64 0) := cell_later hB9 br_0_8
  have qr_0_9 : V9.frozen? ⟨w.heap.size, 0, none⟩ = false := frozen_later hB9 (World.block_lt_of_cell? _ _ br_0_8) qr_0_8
  have br_1_9 : V9.cell? ⟨w.heap.size, 1, none⟩ = some (.int .i64 0) := cell_later hB9 br_1_8
  have qr_1_9 : V9.frozen? ⟨w.heap.size, 1, none⟩ = false := frozen_later hB9 (World.block_lt_of_cell? _ _ br_1_8) qr_1_8
  have br_2_9 : V9.cell? ⟨w.heap.size, 2, none⟩ = some (.bool false) := cell_later hB9 br_2_8
  have qr_2_9 : V9.frozen? ⟨w.heap.size, 2, none⟩ = false := frozen_later hB9 (World.block_lt_of_cell? _ _ br_2_8) qr_2_8
  have br_3_9 : V9.cell? ⟨w.heap.size, 3, none⟩ = some (.slice none 0 0) := cell_later hB9 br_3_8
  have qr_3_9 : V9.frozen? ⟨w.heap.size, 3, none⟩ = false := frozen_later hB9 (World.block_lt_of_cell? _ _ br_3_8) qr_3_8
  have lr_9 : w.heap.size < V9.heap.size := World.block_lt_of_cell? _ _ br_0_9
  have bx_0_9 : V9.cell? ⟨V2.heap.size, 0, none⟩ = some (.int .i64 p) := cell_later hB9 bx_0_8
  have qx_0_9 : V9.frozen? ⟨V2.heap.size, 0, none⟩ = false := frozen_later hB9 (World.block_lt_of_cell? _ _ bx_0_8) qx_0_8
  have bx_1_9 : V9.cell? ⟨V2.heap.size, 1, none⟩ = some (.int .i64 q) := cell_later hB9 bx_1_8
  have qx_1_9 : V9.frozen? ⟨V2.heap.size, 1, none⟩ = false := frozen_later hB9 (World.block_lt_of_cell? _ _ bx_1_8) qx_1_8
  have bx_2_9 : V9.cell? ⟨V2.heap.size, 2, none⟩ = some (.bool cl) := cell_later hB9 bx_2_8
  have qx_2_9 : V9.frozen? ⟨V2.heap.size, 2, none⟩ = false := frozen_later hB9 (World.block_lt_of_cell? _ _ bx_2_8) qx_2_8
  have bx_3_9 : V9.cell? ⟨V2.heap.size, 3, none⟩ = some (.slice A2 M.length c2) := cell_later hB9 bx_3_8
  have qx_3_9 : V9.frozen? ⟨V2.heap.size, 3, none⟩ = false := frozen_later hB9 (World.block_lt_of_cell? _ _ bx_3_8) qx_3_8
  have lx_9 : V2.heap.size < V9.heap.size := World.block_lt_of_cell? _ _ bx_0_9
  clear hk8 nm_8 br_0_8 qr_0_8 br_1_8 qr_1_8 br_2_8 qr_2_8 br_3_8 qr_3_8 lr_8 bx_0_8 qx_0_8 bx_1_8 qx_1_8 bx_2_8 qx_2_8 bx_3_8 qx_3_8 lx_8
  cases hq : sameB (incT p q cl M) s
  · have HQ := Lib.hid hq
    have hq2 : ((incT p q cl M).toList == s.toList) = false := by rw [bytes_beq]; exact hq
    have hq3 : ((incT p q cl M).toList != s.toList) = true := by simp [bne, hq2]
    clear hq
    have HN : Hid (∀ x, ¬ GoodI s x) := px_bad2 HX.out HQ.out
    go_wp2
    refine bodyPost_ret (v := .tuple #[.agg #[.int .i64 0, .int .i64 0, .bool false, .slice none 0 0], .bool false]) (by first | (simp [results, Tryz.results29, go_sem, br_0_9, br_1_9, br_2_9, br_3_9]; done) | (simp [results, Tryz.results29, go_sem, *]; try rfl)) rfl ?_
    exact retIncident2_mk (piF_no HN.out) rfl (Own.nil _ _ _) (by repeat' (first | exact hk9 | refine bl_alloc ?_ _ | refine bl_drew ?_ | refine bl_set ?_ (by simp only []; have := z1.out; have := z2.out; have := z3.out; have := z6.out; have := z7.out; have := z8.out; have := z9.out; omega) _))
  have HQ := Lib.hid hq
  have hq2 : ((incT p q cl M).toList == s.toList) = true := by rw [bytes_beq]; exact hq
  have hq3 : ((incT p q cl M).toList != s.toList) = false := by simp [bne, hq2]
  have Hz := Lib.hid (piF_yes (px_good H0.out HQ.out))
  clear hq
  have HOW := Lib.hid nm_9
  clear nm_9
  go_wp2
  refine bodyPost_ret (v := .tuple #[.agg #[.int .i64 p, .int .i64 q, .bool cl, .slice A2 M.length c2], .bool true]) (by first | (simp [results, Tryz.results29, go_sem, br_0_9, br_1_9, br_2_9, br_3_9]; done) | (simp [results, Tryz.results29, go_sem, *]; try rfl)) rfl ?_
  refine retIncident2_mk Hz.out rfl (Own.mono (base := w.heap.size + 1) ?_ (by omega)) (by repeat' (first | exact hk9 | refine bl_alloc ?_ _ | refine bl_drew ?_ | refine bl_set ?_ (by simp only []; have := z1.out; have := z2.out; have := z3.out; have := z6.out; have := z7.out; have := z8.out; have := z9.out; omega) _))
  repeat' (first | exact HOW.out.mono (by have := z1.out; have := z2.out; have := z3.out; have := z6.out; have := z7.out; have := z8.out; have := z9.out; omega) | refine Own.set ?_ (Nat.lt_succ_self _) _)

end Go.Proofs.YtpdblmcflniomaaGreatDoor
