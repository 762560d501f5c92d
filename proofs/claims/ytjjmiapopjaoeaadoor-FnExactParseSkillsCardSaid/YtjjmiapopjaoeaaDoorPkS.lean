/-
  ParseSkills: the reference's answer. No conditions.
-/
import Derived.Test.YtjjmiapopjaoeaaDoorPkW
import Derived.Test.YtjjmiapopjaoeaaDoorStSq
import Derived.StillTailTactics
namespace Go.Proofs.YtjjmiapopjaoeaaDoor
open Go.RowKit

set_option maxRecDepth 100000 in
set_option maxHeartbeats 8000000 in
theorem specParseSkills_any (s : ByteArray) (w : World) (hs : s.size ≤ 1048576) :
    Calls Tryd.prog 4 #[.string s] w (RetOwn2 w 32 (pkF s)) := by
  have HCT : Hid (∀ l, GoodK s l → ∀ i, i < l.length → cutB 47 (nth (cutB 59 s) i) = [(nth l i).Person, itB (nth l i).Kind, itB (nth l i).Until]) := fun l hl i hi => piece_parts hl hi
  have HLN : Hid (∀ l, GoodK s l → (cutB 59 s).length = l.length + 1) := fun l hl => by rw [cut_semis hl]; simp
  have HBG : Hid (∀ x, x ∈ cutB 59 s → x.size ≤ 1048576) := fun x hx => by have := cut_piece hx; omega
  have hcn := cutK_many (c := 59) hs
  have hc1 := cutB_ne 59 s
  have HSP : Hid (Calls Tryd.prog 9 #[.string s, .int .u8 59] w (RetOwn w 9 (cutB 59 s))) := l1Split_k59 s w hs
  obtain ⟨P, hP⟩ : ∃ P, P = cutB 59 s := ⟨_, rfl⟩
  rw [← hP] at HCT HLN HBG HSP hcn hc1
  clear hP
  obtain ⟨n, hn⟩ : ∃ n, P.length = n + 1 := ⟨P.length - 1, by omega⟩
  go_enter Tryd.func4, Tryd.ntmps4
  go_wp2_with fail
  refine HSP.out.mono ?_
  rintro e V ⟨A, cc, rfl, ho, hV⟩
  obtain ⟨hca, hcb⟩ := ho.cap
  have HS := Lib.hid ho.sl
  have HV1 := Lib.hid hV
  have hV0 := hV.size
  unfold maxLen at hcb
  rw [hn] at hca ⊢
  clear ho hV
  by_cases h25 : 25 < n + 1
  · have hd0 : decide (((n + 1 : Nat) : Int) > 25) = true := by simp; omega
    have HN : Hid (∀ l, ¬ GoodK s l) := fun l hl => by have h1 := (goodK_at hl).1; have h2 := HLN.out l hl; omega
    go_wp2
    go_ret2
    exact retOwn2_mk (pkF_no HN.out) (Own.nil _ _ _) HV1.out
  · have hd0 : decide (((n + 1 : Nat) : Int) > 25) = false := by simp; omega
    have e1 : IntKind.i64.wrap (((n + 1 : Nat) : Int) - 1) = (n : Int) := by rw [IntWalk.i64_in _ (by omega)]; omega
    have e2 : (0 : Int) ≤ n := by omega
    have e3 : (n : Int) ≤ cc := by omega
    have e4 : n ≤ cc := by omega
    go_wp2
    go_loopw [5, 20] (fun v iv wr => ∃ (i c' : Nat) (A' : Option Addr) (L : List Skill), i ≤ n ∧ iv = .int .i64 i ∧ v = .slice A' L.length c' ∧ Own wr V.heap.size 32 (.slice A' L.length c') L ∧ L.length ≤ i ∧ (∀ x, x ∈ L → x.Person.size ≤ 1048576) ∧ Hid (∀ l, GoodK s l → L = l.take i) ∧ Below V.heap.size V wr) (fun _ iv _ => n - (intOf iv).toNat)
    case atStart => exact ⟨0, 0, none, [], Nat.zero_le _, rfl, rfl, Own.nil _ _ _, Nat.le_refl _, fun x hx => by simp at hx, fun l _ => rfl, bl_refl _⟩
    case round =>
      obtain ⟨i, c', A', L, hi, rfl, rfl, ho, hLi, hpz, hL, hbV⟩ := hrel
      have hb := bl_trans HV1.out hbV
      by_cases hlt : i < n
      · obtain ⟨b, o, rfl, hbz, c0⟩ := (HS.out.below hbV).str (by omega : i < P.length)
        have hsz := HBG.out _ (nth_mem (by omega : i < P.length))
        have HVL := Lib.hid hpz
        have HPJ : Hid (∀ l, GoodK s l → i < l.length ∧ cutB 47 (nth P i) = [(nth l i).Person, itB (nth l i).Kind, itB (nth l i).Until]) := fun l hl => by
          have h1 := HLN.out l hl
          have h2 : i < l.length := by omega
          exact ⟨h2, HCT.out l hl i h2⟩
        obtain ⟨p, hp⟩ : ∃ p, p = nth P i := ⟨_, rfl⟩
        rw [← hp] at HPJ hsz c0
        clear hpz hp
        have HSQ : Hid (Calls Tryd.prog 9 #[.string p, .int .u8 47] wr (RetOwn wr 9 (cutB 47 p))) := l1Split_k47 p wr hsz
        have HBQ : Hid (∀ x, x ∈ cutB 47 p → x.size ≤ 1048576) := fun x hx => by have := cut_piece hx; omega
        have hqn := cutK_many (c := 47) hsz
        obtain ⟨Q, hQ⟩ : ∃ Q, Q = cutB 47 p := ⟨_, rfl⟩
        rw [← hQ] at HSQ HBQ HPJ hqn
        clear hQ
        go_wp2_with fail
        refine HSQ.out.mono ?_
        rintro e V4 ⟨A1, c1, rfl, ho1, hb5⟩
        have hb6 := bl_trans hb hb5
        have hbV6 := bl_trans hbV hb5
        have ho6 := ho.below hb5
        have hca1 := ho1.cap.1
        have HSL := Lib.hid ho1.sl
        have hbn := fun g (hg : A1 = some ⟨g, 0, none⟩) => ho1.lt g (by rw [hg]; rfl)
        have hbo := fun g hg => ho.lt g hg
        have hf1 := ho1.form
        clear ho ho1 c0 hb hbV hb5
        by_cases hl3 : Q.length = 3
        · obtain ⟨g1, hg1⟩ := hf1 (by omega)
          have hgb := (hbn g1 hg1).1
          obtain ⟨b1, o1, rfl, hbz1, d0⟩ := HSL.out.str (k := 0) (by omega)
          have hg2 : b1 = g1 := by injection hg1 with hg1; injection hg1
          subst hg2
          clear hbn hf1 hg1
          obtain ⟨b', o', e', _, d1⟩ := HSL.out.str (k := 1) (by omega)
          injection e' with e'
          injection e' with e1' e2'
          subst e1' e2'
          obtain ⟨b', o', e', _, d2⟩ := HSL.out.str (k := 2) (by omega)
          injection e' with e'
          injection e' with e1' e2'
          subst e1' e2'
          have d0 : V4.cell? ⟨b1, o1, none⟩ = some (.string (nth Q 0)) := d0
          have h0 := HBQ.out _ (nth_mem (by omega : 0 < Q.length))
          have h1 := HBQ.out _ (nth_mem (by omega : 1 < Q.length))
          have h2 := HBQ.out _ (nth_mem (by omega : 2 < Q.length))
          obtain ⟨h, hh⟩ : ∃ q, q = nth Q 0 := ⟨_, rfl⟩
          obtain ⟨q, hq⟩ : ∃ q, q = nth Q 1 := ⟨_, rfl⟩
          obtain ⟨r, hr⟩ : ∃ r, r = nth Q 2 := ⟨_, rfl⟩
          rw [← hh] at d0 h0
          rw [← hq] at d1 h1
          rw [← hr] at d2 h2
          have HX : Hid (∀ l, GoodK s l → L ++ [⟨h, rdV q, rdV r⟩] = l.take (i + 1)) := fun l hl => by
            obtain ⟨g1, g2⟩ := HPJ.out l hl
            obtain ⟨_, ⟨k0, k1⟩, u0, u1⟩ := (goodK_at hl).2 _ (nth_mem g1)
            have e1 : h = (nth l i).Person := by rw [hh, g2]; rfl
            have e2 : rdV q = (nth l i).Kind := by rw [hq, g2]; exact rdV_n k0 (by omega)
            have e3 : rdV r = (nth l i).Until := by rw [hr, g2]; exact rdV_n u0 (by omega)
            rw [take_succ g1, hL.out l hl, e1, e2, e3]
          have HPZ : Hid (h.size ≤ 1048576) := h0
          rw [hl3] at hca1 ⊢
          have hcc : (2 : Nat) < 3 := by omega
          have hcd : (1 : Nat) < 3 := by omega
          clear hh hq hr hl3 h0
          go_upto_region 11 with fail
          have hD := bl_drew (bl_refl V4)
          go_region_held3 (fun w' => w'.cell? ⟨b1, o1, none⟩ = some (.string h) ∧ w'.cell? ⟨b1, o1 + 1, none⟩ = some (.string q) ∧ w'.cell? ⟨b1, o1 + 2, none⟩ = some (.string r)) (first | exact ⟨cell_later hD d0, cell_later hD d1, cell_later hD d2⟩ | exact ⟨cell_later (bl_alloc hD _) d0, cell_later (bl_alloc hD _) d1, cell_later (bl_alloc hD _) d2⟩ | exact ⟨f0, f1, f2⟩ | go_keep)
            (first | (go_at_call 10; refine (l1Read_any _ _ (by assumption)).mono ?_; rintro e V ⟨rfl, rfl⟩) | (refine step_appB rfl (.tmp 29) (.tmp 42) _ _ rfl el_skillq (xs := L) (ys := [(⟨h, rdV q, rdV r⟩ : Skill)]) (w0 := V) rfl rfl (ho6.below (bl_alloc hD _)) (bl_trans hbV6 (bl_alloc hD _)) (sl_skill1 (by go_simp) (by go_simp) (by go_simp)) (by omega) ?_; (intro A3 c3 V7 ho7 hbV7 hg7); have f0 := (hg7.cell_far _ (Nat.lt_of_lt_of_le hbz1 (bl_alloc hD _).size) (fun h => by have := (hbo _ h.symm).2; exact absurd this (by simp only []; omega))).trans (cell_later (bl_alloc hD _) d0); have f1 := (hg7.cell_far _ (Nat.lt_of_lt_of_le hbz1 (bl_alloc hD _).size) (fun h => by have := (hbo _ h.symm).2; exact absurd this (by simp only []; omega))).trans (cell_later (bl_alloc hD _) d1); have f2 := (hg7.cell_far _ (Nat.lt_of_lt_of_le hbz1 (bl_alloc hD _).size) (fun h => by have := (hbo _ h.symm).2; exact absurd this (by simp only []; omega))).trans (cell_later (bl_alloc hD _) d2)))
          go_wp2
          go_roundw
          case rel => exact ⟨i + 1, c3, A3, L ++ [⟨h, rdV q, rdV r⟩], by omega, by go_num, by simp, by simpa using ho7, by simp; omega, fun x hx => by rcases List.mem_append.1 hx with hx | hx; exact HVL.out x hx; rw [List.mem_singleton.1 hx]; exact HPZ.out, HX, hbV7⟩
          case measure => simp [intOf]; omega
        · clear hbn hbo hf1
          have hd : ((Q.length : Int) != 3) = true := by simp; omega
          have HN : Hid (∀ l, ¬ GoodK s l) := fun l hl => by have h1 := (HPJ.out l hl).2; rw [h1] at hl3; exact hl3 rfl
          go_wp2
          go_ret2
          exact retOwn2_mk (pkF_no HN.out) (Own.nil _ _ _) hb6
      · obtain rfl : i = n := by omega
        have hL : Hid (∀ l, GoodK s l → L = l) := fun l hl => by
          have h1 := HLN.out l hl
          rw [hL.out l hl, List.take_of_length_le (by omega)]
        clear hlt
        have HLW := Lib.hid hL
        have HVL := Lib.hid hpz
        clear hL hpz
        go_wp2_with fail
        refine (drGood_any L A' L.length c' _ (by omega) ho.sl (fun x hx => by have := HVL.out x hx; unfold maxLen; omega)).mono ?_
        rintro e V3 ⟨rfl, hb3⟩
        have hb4 := bl_trans hb hb3
        have ho4 := ho.below hb3
        clear ho hb3
        cases h0 : skillsB L
        · have H0 := Lib.hid h0
          clear h0
          have HN : Hid (∀ l, ¬ GoodK s l) := pk_bad1 HLW.out H0.out
          go_wp2
          go_ret2
          exact retOwn2_mk (pkF_no HN.out) (Own.nil _ _ _) hb4
        · have H0 := Lib.hid h0
          clear h0
          go_wp2_with fail
          refine (drText_any L A' L.length c' _ ho4.sl H0.out).mono ?_
          rintro e V4 ⟨rfl, hb5⟩
          have hb6 := bl_trans hb4 hb5
          have ho6 := ho4.below hb5
          clear ho4 hb5
          cases hq : sameB (skText L L.length) s
          · have HQ := Lib.hid hq
            have hq2 : ((skText L L.length).toList == s.toList) = false := by rw [bytes_beq]; exact hq
            have hq3 : ((skText L L.length).toList != s.toList) = true := by simp [bne, hq2]
            clear hq
            have HN : Hid (∀ l, ¬ GoodK s l) := pk_bad2 HLW.out HQ.out
            go_wp2
            go_ret2
            exact retOwn2_mk (pkF_no HN.out) (Own.nil _ _ _) hb6
          · have Hz := Lib.hid (pkF_make H0.out hq)
            have hq2 : ((skText L L.length).toList == s.toList) = true := by rw [bytes_beq]; exact hq
            have hq3 : ((skText L L.length).toList != s.toList) = false := by simp [bne, hq2]
            clear hq
            go_wp2
            go_ret2
            exact retOwn2_mk Hz.out (ho6.mono hV0) hb6

end Go.Proofs.YtjjmiapopjaoeaaDoor
