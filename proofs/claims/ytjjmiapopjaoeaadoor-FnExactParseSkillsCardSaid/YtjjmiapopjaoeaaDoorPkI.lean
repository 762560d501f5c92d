/-
  ParseSkills: the program's answer. No conditions.
-/
import Derived.Test.YtjjmiapopjaoeaaDoorPkW
import Derived.Test.YtjjmiapopjaoeaaDoorStIq
import Derived.StillTailTactics
namespace Go.Proofs.YtjjmiapopjaoeaaDoor
open Go.RowKit

set_option maxRecDepth 100000 in
set_option maxHeartbeats 8000000 in
theorem implParseSkills_any (s : ByteArray) (w : World) (hs : s.size ≤ 1048576) (he : Env w) :
    Calls Tryd.prog 5 #[.string s] w (RetOwn2 w 32 (pkF s)) := by
  have HAT : Hid (∀ l, GoodK s l → ∀ i, i < (partsA s).length → (i < l.length ∧ nth (partsA s) i = ⟨(skL (nth l i) ++ [59]).toArray⟩) ∨ (i = l.length ∧ nth (partsA s) i = ⟨#[]⟩)) := fun l hl i hi => partsA_at hl hi
  have HLN : Hid (∀ l, GoodK s l → (partsA s).length = l.length + 1) := fun l hl => by rw [partsA_good hl]; simp
  have HBG : Hid (∀ x, x ∈ partsA s → x.size ≤ 1048576) := fun x hx => by have := parts_small hx; omega
  have hcn : (partsA s).length ≤ 1048577 := by
    rw [partsA_len]
    have := Lib.countB_le ⟨#[59]⟩ (Nat.le_refl 1) s.size s (Nat.le_refl _)
    omega
  have HSP : Hid (Calls Tryd.prog 13 #[.string s, .string ⟨#[59]⟩] w (RetOwn w 9 (partsA s))) := splitAfter_any s w hs he
  obtain ⟨P, hP⟩ : ∃ P, P = partsA s := ⟨_, rfl⟩
  rw [← hP] at HAT HLN HBG HSP hcn
  have HE := Lib.hid he
  clear hP he
  go_enter Tryd.func5, Tryd.ntmps5
  go_wp2_with fail
  refine HSP.out.mono ?_
  rintro e V ⟨A, cc, rfl, ho, hV⟩
  have HS := Lib.hid ho.sl
  have HV1 := Lib.hid hV
  have hV0 := hV.size
  clear ho hV
  go_wp2
  go_loopw [4, 15] (fun v iv wr => ∃ (i c' : Nat) (A' : Option Addr) (L : List Skill), i ≤ P.length ∧ iv = .int .i64 i ∧ v = .slice A' L.length c' ∧ Own wr V.heap.size 32 (.slice A' L.length c') L ∧ L.length ≤ i ∧ (∀ x, x ∈ L → x.Person.size ≤ 1048576) ∧ Hid (∀ l, GoodK s l → L = l.take i) ∧ Below V.heap.size V wr) (fun _ iv _ => P.length - (intOf iv).toNat)
  case atStart => exact ⟨0, 0, none, [], Nat.zero_le _, rfl, rfl, Own.nil _ _ _, Nat.le_refl _, fun x hx => by simp at hx, fun l _ => rfl, bl_refl _⟩
  case round =>
    obtain ⟨i, c', A', L, hi, rfl, rfl, ho, hLi, hpz, hL, hbV⟩ := hrel
    have hb := bl_trans HV1.out hbV
    by_cases hlt : i < P.length
    · obtain ⟨b, o, rfl, hbz, c0⟩ := (HS.out.below hbV).str hlt
      have hsz := HBG.out _ (nth_mem hlt)
      have HVL := Lib.hid hpz
      have hem := emp_eqK (nth P i)
      have HPI : Hid (∀ l, GoodK s l → (i < l.length ∧ nth P i = ⟨(skL (nth l i) ++ [59]).toArray⟩) ∨ (i = l.length ∧ nth P i = ⟨#[]⟩)) := fun l hl => HAT.out l hl i hlt
      obtain ⟨p, hp⟩ : ∃ p, p = nth P i := ⟨_, rfl⟩
      rw [← hp] at HPI hem hsz c0
      clear hpz hp
      by_cases hz0 : p.size = 0
      · rw [decide_eq_true hz0] at hem
        have HR : Hid (∀ l, GoodK s l → L = l.take (i + 1)) := fun l hl => by
          rcases HPI.out l hl with ⟨_, e⟩ | ⟨e, _⟩
          · rw [e] at hz0; exact absurd hz0 skL_size
          · rw [hL.out l hl, e, List.take_length, List.take_of_length_le (by omega)]
        clear hz0
        go_wp2
        go_roundw
        case rel => exact ⟨i + 1, c', A', L, by omega, by go_num, rfl, ho, by omega, HVL.out, HR.out, hbV⟩
        case measure => simp [intOf]; omega
      · rw [decide_eq_false hz0] at hem
        have HPJ : Hid (∀ l, GoodK s l → i < l.length ∧ p = ⟨(skL (nth l i) ++ [59]).toArray⟩) := fun l hl => by
          rcases HPI.out l hl with h | ⟨_, e⟩
          · exact h
          · rw [e] at hz0; exact absurd rfl hz0
        clear hz0 HPI
        go_wp2_with fail
        refine (trimSuffix_any p _ hsz).mono ?_
        rintro _ V2 ⟨a, rfl, ha, K1, hw2⟩
        obtain rfl := hw2
        have HK1 : Hid (∀ l, GoodK s l → a = ⟨(skL (nth l i)).toArray⟩) := fun l hl => K1.out _ (by rw [(HPJ.out l hl).2])
        clear K1 c0
        go_wp2_with fail
        refine (cut_any a 47 _ ha (HE.out.below hb)).mono ?_
        rintro e V3 ⟨h, m, fd, rfl, ⟨hh, hm⟩, K2, hb3⟩
        have HK2 : Hid (∀ l, GoodK s l → h = (nth l i).Person ∧ m = ⟨(restL (nth l i)).toArray⟩) := fun l hl => by
          have hin := nth_mem (HPJ.out l hl).1
          obtain ⟨e1, e2⟩ := K2.out (nth l i).Person.data.toList (restL (nth l i)) (person_no hl hin) (by rw [HK1.out l hl, ← skL_rest])
          exact ⟨by rw [e1], e2⟩
        have hb4 := bl_trans hb hb3
        have hbV4 := bl_trans hbV hb3
        have ho4 := ho.below hb3
        clear K2 HK1 ho hb hbV hb3
        go_wp2_with fail
        refine (readNumbersO_any m 47 _ hm (HE.out.below hb4)).mono ?_
        rintro e V4 ⟨A1, n1, c1, N, ok, rfl, hn1, hoN, hbd, hb5, K3⟩
        have hsl := hoN.sl
        have hbn := fun g (hg : A1 = some ⟨g, 0, none⟩) => hoN.lt g (by rw [hg]; rfl)
        have hbo := fun g hg => ho4.lt g hg
        have hf1 := hoN.form
        have HG : Hid (∀ l, GoodK s l → ok = true ∧ N = [(nth l i).Kind, (nth l i).Until]) := fun l hl => by
          have hin := nth_mem (HPJ.out l hl).1
          obtain ⟨_, ⟨k0, k1⟩, u0, u1⟩ := (goodK_at hl).2 _ hin
          obtain ⟨u, hu⟩ := Int.eq_ofNat_of_zero_le k0
          obtain ⟨v, hv⟩ := Int.eq_ofNat_of_zero_le u0
          have := K3.out [u, v] (fun y hy => by simp only [List.mem_cons, List.mem_nil_iff, or_false] at hy; omega) (by rw [(HK2.out l hl).2, cut_rest hl hin, hu, hv]; rfl)
          rw [hu, hv]
          exact this
        have hb6 := bl_trans hb4 hb5
        have hbV6 := bl_trans hbV4 hb5
        have ho6 := ho4.below hb5
        have HSL := Lib.hid hsl
        have HBD := Lib.hid hbd
        clear K3 hsl hbd ho4 hb4 hbV4 hb5 hoN
        cases ok
        · clear hbn hbo hf1
          have HN : Hid (∀ l, ¬ GoodK s l) := fun l hl => by have := (HG.out l hl).1; cases this
          go_wp2
          go_ret2
          exact retOwn2_mk (pkF_no HN.out) (Own.nil _ _ _) hb6
        · by_cases hl2 : n1 = 2
          · subst hl2
            obtain ⟨g1, hg1⟩ := hf1 (by omega)
            have hgb := (hbn g1 hg1).1
            obtain ⟨b1, o1, rfl, hbz1, d0⟩ := HSL.out.int (k := 0) (by omega)
            have hg2 : b1 = g1 := by injection hg1 with hg1; injection hg1
            subst hg2
            clear hbn hf1 hg1
            obtain ⟨b', o', e', _, d1⟩ := HSL.out.int (k := 1) (by omega)
            injection e' with e'
            injection e' with e1 e2
            subst e1 e2
            have d0 : V4.cell? ⟨b1, o1, none⟩ = some (.int .i64 (nth N 0)) := d0
            obtain ⟨q, hq⟩ : ∃ q, q = nth N 0 := ⟨_, rfl⟩
            obtain ⟨r, hr⟩ : ∃ r, r = nth N 1 := ⟨_, rfl⟩
            rw [← hq] at d0
            rw [← hr] at d1
            have HX : Hid (∀ l, GoodK s l → L ++ [⟨h, q, r⟩] = l.take (i + 1)) := fun l hl => by
              have e1 := (HG.out l hl).2
              have e2 : q = (nth l i).Kind := by rw [hq, e1]; rfl
              have e3 : r = (nth l i).Until := by rw [hr, e1]; rfl
              rw [take_succ (HPJ.out l hl).1, hL.out l hl, (HK2.out l hl).1, e2, e3]
            have hcc : (1 : Nat) < 2 := by omega
            clear hq hr
            go_upto_region 10 with fail
            have hD := bl_drew (bl_refl V4)
            go_region_held3 (fun w' => w'.cell? ⟨b1, o1, none⟩ = some (.int .i64 q) ∧ w'.cell? ⟨b1, o1 + 1, none⟩ = some (.int .i64 r)) (first | exact ⟨cell_later hD d0, cell_later hD d1⟩ | exact ⟨cell_later (bl_alloc hD _) d0, cell_later (bl_alloc hD _) d1⟩ | exact ⟨f0, f1⟩ | go_keep)
              (first | (refine step_appB rfl (.tmp 40) (.tmp 49) _ _ rfl el_skillq (xs := L) (ys := [(⟨h, q, r⟩ : Skill)]) (w0 := V) rfl rfl (ho6.below (bl_alloc hD _)) (bl_trans hbV6 (bl_alloc hD _)) (sl_skill1 (by go_simp) (by go_simp) (by go_simp)) (by omega) ?_; (intro A3 c3 V7 ho7 hbV7 hg7); have f0 := (hg7.cell_far _ (Nat.lt_of_lt_of_le hbz1 (bl_alloc hD _).size) (fun h => by have := (hbo _ h.symm).2; exact absurd this (by simp only []; omega))).trans (cell_later (bl_alloc hD _) d0); have f1 := (hg7.cell_far _ (Nat.lt_of_lt_of_le hbz1 (bl_alloc hD _).size) (fun h => by have := (hbo _ h.symm).2; exact absurd this (by simp only []; omega))).trans (cell_later (bl_alloc hD _) d1)))
            go_wp2
            go_roundw
            case rel => exact ⟨i + 1, c3, A3, L ++ [⟨h, q, r⟩], by omega, by go_num, by simp, by simpa using ho7, by simp; omega, fun x hx => by rcases List.mem_append.1 hx with hx | hx; exact HVL.out x hx; rw [List.mem_singleton.1 hx]; exact hh, HX, hbV7⟩
            case measure => simp [intOf]; omega
          · clear hbn hbo hf1
            have hd : ((n1 : Int) != 2) = true := by simp; omega
            have HN : Hid (∀ l, ¬ GoodK s l) := fun l hl => by have h1 := (HG.out l hl).2; have h2 := HSL.out.1; rw [h1] at h2; exact hl2 h2.symm
            go_wp2
            go_ret2
            exact retOwn2_mk (pkF_no HN.out) (Own.nil _ _ _) hb6
    · obtain rfl : i = P.length := by omega
      have hL : Hid (∀ l, GoodK s l → L = l) := fun l hl => by rw [hL.out l hl, HLN.out l hl, List.take_of_length_le (by omega)]
      clear hlt
      have HLW := Lib.hid hL
      have HVL := Lib.hid hpz
      clear hL hpz
      go_wp2_with fail
      refine (areSkills_any L A' L.length c' _ (by omega) ho.sl (fun x hx => by have := HVL.out x hx; unfold maxLen; omega)).mono ?_
      rintro e V3 ⟨rfl, hb3⟩
      have hb4 := bl_trans hb hb3
      have ho4 := ho.below hb3
      clear ho hb3
      cases h0 : skillsB L
      · have H0 := Lib.hid h0
        clear h0
        have HN : Hid (∀ l, ¬ GoodK s l) := pk_bad1 HLW.out H0.out
        go_wp2
        go_ret2
        exact retOwn2_mk (pkF_no HN.out) (Own.nil _ _ _) hb4
      · have H0 := Lib.hid h0
        clear h0
        go_wp2_with fail
        refine (skillsText_any L A' L.length c' _ ho4.sl H0.out (HE.out.tab.below hb4)).mono ?_
        rintro e V4 ⟨rfl, hb5⟩
        have hb6 := bl_trans hb4 hb5
        have ho6 := ho4.below hb5
        clear ho4 hb5
        cases hq : sameB (skText L L.length) s
        · have HQ := Lib.hid hq
          have hq2 : ((skText L L.length).toList == s.toList) = false := by rw [bytes_beq]; exact hq
          have hq3 : ((skText L L.length).toList != s.toList) = true := by simp [bne, hq2]
          clear hq
          have HN : Hid (∀ l, ¬ GoodK s l) := pk_bad2 HLW.out HQ.out
          go_wp2
          go_ret2
          exact retOwn2_mk (pkF_no HN.out) (Own.nil _ _ _) hb6
        · have Hz := Lib.hid (pkF_make H0.out hq)
          have hq2 : ((skText L L.length).toList == s.toList) = true := by rw [bytes_beq]; exact hq
          have hq3 : ((skText L L.length).toList != s.toList) = false := by simp [bne, hq2]
          clear hq
          go_wp2
          go_ret2
          exact retOwn2_mk Hz.out (ho6.mono hV0) hb6

end Go.Proofs.YtjjmiapopjaoeaaDoor
