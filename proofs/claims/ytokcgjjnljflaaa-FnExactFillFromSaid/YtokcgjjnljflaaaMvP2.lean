/-
  Filling, the reference's. No conditions.
-/
import Derived.Test.YtokcgjjnljflaaaMvN2
import Derived.Deep.CutBlock
namespace Go.Proofs.Ytokcgjjnljflaaa
open Go.RowKit

set_option maxRecDepth 100000 in
set_option maxHeartbeats 8000000 in
theorem specFillFrom_any (s : ByteArray) (xs wanted : List Thing) (others : List Load) (A B O : Option Addr) (n c m d p q : Nat) (w : World) (hz : s.size ≤ maxLen) (hn : n ≤ 1048576) (hm : m ≤ 1048576) (hp : p ≤ 1048576) (hs : Sl w A n xs) (ht : Sl w B m wanted) (hrs : Sl w O p others) (hvx : ∀ x, x ∈ xs → x.Name.size ≤ maxLen) (hvw : ∀ x, x ∈ wanted → x.Name.size ≤ maxLen) (hvo : ∀ x, x ∈ others → x.Appliance.size ≤ maxLen ∧ ∀ y, y ∈ x.Things → y.Name.size ≤ maxLen) :
    Calls Try.prog 21 #[.agg #[.string s, .slice A n c], .slice B m d, .slice O p q] w (RetFill w (fillT ⟨s, xs⟩ wanted others)) := by
  have HL := Lib.hid hs.1
  have HM := Lib.hid ht.1
  have HO := Lib.hid hrs.1
  have HVX := Lib.hid hvx
  have HVW := Lib.hid hvw
  have HVO := Lib.hid hvo
  clear hvx hvw hvo
  go_enter Try.func21, Try.ntmps21
  go_wp2_with fail
  refine (eqGood_any wanted B m d _ (by omega) (ht.below (by repeat' (first | assumption | exact bl_refl _ | refine bl_alloc ?_ _ | refine bl_drew ?_ | refine bl_set ?_ (by simp only []; omega) _))) HVW.out).mono ?_
  rintro e V0 ⟨rfl, hb0⟩
  have BP : BoxL V0 w.heap.size s A n c := BoxL.below ⟨by go_simp, by go_simp, by go_simp, by go_simp⟩ hb0
  have BR : BoxL V0 (w.heap.size + 1) ⟨#[]⟩ none 0 0 := BoxL.below ⟨by go_simp, by go_simp, by go_simp, by go_simp⟩ hb0
  have hk0 : Below w.heap.size w V0 := bl_trans (by repeat' (first | assumption | exact bl_refl _ | refine bl_alloc ?_ _ | refine bl_drew ?_ | refine bl_set ?_ (by simp only []; omega) _)) hb0
  clear hb0
  have BP0 := BP
  obtain ⟨bp0, bp1, fp0, fp1⟩ := id BP
  cases h1 : thingsB wanted
  · have HZ : Hid (fillT ⟨s, xs⟩ wanted others = noL) := fillT_no (by unfold okFill; rw [h1]; simp)
    obtain ⟨br0, br1, fr0, fr1⟩ := id BR
    go_wp2
    refine bodyPost_ret (by simp [results, Try.results21, go_sem, br0, br1]; try rfl) rfl ?_
    exact retFill_no HZ.out (by repeat' (first | with_reducible exact hk0 | refine bl_set ?_ (by simp only []; omega) _))
  have HWT := Lib.hid h1
  clear h1
  by_cases h6 : 6 < p
  · have h6' : decide ((6 : Int) < (p : Int)) = true := by simp; omega
    have h6'' : decide ((p : Int) > 6) = true := by simp; omega
    have HZ : Hid (fillT ⟨s, xs⟩ wanted others = noL) := fillT_no (by unfold okFill othersB; rw [decide_eq_false (by rw [HO.out]; omega : ¬ ((others.length : Int) ≤ 6))]; simp)
    obtain ⟨br0, br1, fr0, fr1⟩ := id BR
    go_wp2
    refine bodyPost_ret (by simp [results, Try.results21, go_sem, br0, br1]; try rfl) rfl ?_
    exact retFill_no HZ.out (by repeat' (first | with_reducible exact hk0 | refine bl_set ?_ (by simp only []; omega) _))
  have h6' : decide ((6 : Int) < (p : Int)) = false := by simp; omega
  have h6'' : decide ((p : Int) > 6) = false := by simp; omega
  obtain ⟨rs, hrr, hro⟩ := hrs.rows
  obtain ⟨A9, c9, W1, hrun, ho9, hg9⟩ := run_appN (P := Try.prog) 41 41 28 el_load (d := q) (Own.lit1 V0 28 (⟨s, A, n, c⟩ : LoadR)) (by simp) (hrr.below (bl_trans hk0 (bl_alloc (bl_refl _) _))) (by omega)
  have hrun : (Builtin.append_ #[41, 41] 41 #[.slice (some ⟨V0.heap.size, 0, none⟩) 1 1, .slice O p q]).run Try.prog (V0.alloc (.cells #[.string s, .slice A n c] 28)) = .ok (.slice A9 (1 + p) c9) W1 := hrun
  have hb1 : Below V0.heap.size V0 W1 := bl_grown (bl_alloc (bl_refl _) _) hg9 (fun k hk => by have : V0.heap.size = k := Option.some.inj (show some V0.heap.size = some k from hk); omega)
  have hk1 := bl_trans hk0 hb1
  have hall : Sl W1 A9 (1 + p) ((⟨s, xs⟩ : Load) :: others) := Sl.of_rows ho9.sl ((hro.below hk1).cons (r := ⟨s, A, n, c⟩) (x := ⟨s, xs⟩) rfl HL.out.symm (by show Sl W1 A xs.length xs; rw [HL.out]; exact hs.below hk1) (by show xs.length ≤ maxLen; rw [HL.out]; unfold maxLen; omega))
  have HALL := Lib.hid hall
  have HC9 := Lib.hid ho9.cap
  clear hall ho9 hro hrr hg9
  have BP := BP.below hb1
  have BR := BR.below hb1
  clear bp0 bp1 fp0 fp1
  have HB1 := Lib.hid hb1
  clear hb1
  obtain ⟨bp0, bp1, fp0, fp1⟩ : V0.cell? ⟨w.heap.size, 0, none⟩ = some (.string s) ∧ V0.cell? ⟨w.heap.size, 1, none⟩ = some (.slice A n c) ∧ V0.frozen? ⟨w.heap.size, 0, none⟩ = false ∧ V0.frozen? ⟨w.heap.size, 1, none⟩ = false := ⟨BP0.c0, BP0.c1, BP0.f0, BP0.f1⟩
  go_wp2_with ((at_builtin; refine wpList_runW (by rfl) (.tmp 32) (.tmp 33) _ rfl rfl rfl hrun ?_))
  have hvall : ∀ x, x ∈ ((⟨s, xs⟩ : Load) :: others) → x.Appliance.size ≤ maxLen ∧ ∀ y, y ∈ x.Things → y.Name.size ≤ maxLen := fun x hx => by
    rcases List.mem_cons.1 hx with rfl | hx
    · exact ⟨hz, HVX.out⟩
    · exact HVO.out x hx
  have HVA := Lib.hid hvall
  clear hvall hrun bp0 bp1 fp0 fp1
  refine (eqLoads_any ((⟨s, xs⟩ : Load) :: others) 7 A9 (1 + p) c9 _ (by omega) HC9.out.1 HALL.out HVA.out).mono ?_
  rintro e V3 ⟨rfl, hb3⟩
  have BP := BP.below hb3
  have BR := BR.below hb3
  have hk3 := bl_trans hk1 hb3
  clear hb3 hk1 hk0
  cases h7 : loadsB 7 ((⟨s, xs⟩ : Load) :: others)
  · have HZ : Hid (fillT ⟨s, xs⟩ wanted others = noL) := fillT_no (okFill_no h7)
    clear h7
    obtain ⟨br0, br1, fr0, fr1⟩ := id BR
    go_wp2
    refine bodyPost_ret (by simp [results, Try.results21, go_sem, br0, br1]; try rfl) rfl ?_
    exact retFill_no HZ.out (by repeat' (first | with_reducible exact hk3 | refine bl_set ?_ (by simp only []; omega) _))
  have HOK : Hid (loadB s xs = true ∧ othersB s others = true) := by rw [loadsB_cons] at h7; exact (Bool.and_eq_true _ _).mp h7
  have HX := Lib.hid HOK.out.1
  have HR : Hid (AllL others) := fun k hk => okOt_load (othersB_at HOK.out.2 hk)
  have HTT : Hid (fillT ⟨s, xs⟩ wanted others = fillF ⟨s, xs⟩ wanted others) := fillT_yes (by unfold okFill; rw [show loadB (⟨s, xs⟩ : Load).Appliance (⟨s, xs⟩ : Load).Things = true from HX.out, HWT.out, show othersB (⟨s, xs⟩ : Load).Appliance others = true from HOK.out.2]; rfl)
  clear h7
  have hlx := thingsB_len (loadB_things HX.out)
  have hlw := thingsB_len HWT.out
  have hn12 : n ≤ 12 := by have := HL.out; omega
  have hm12 : m ≤ 12 := by have := HM.out; omega
  obtain ⟨bp0, bp1, fp0, fp1⟩ := id BP
  go_wp2_with fail
  refine (eqOwn_any s xs A n c _ hn (hs.below hk3)).mono ?_
  rintro e V4 ⟨A1, c1, rfl, ox1, hb4⟩
  have hR3 := BR.lt
  have BP := BP.below hb4
  have BR := BR.below hb4
  have hk4 := bl_trans hk3 hb4
  have HXG0 := Lib.hid ox1.lt
  have ox1 : Own V4 (w.heap.size + 2) 59 (.slice A1 xs.length c1) xs := ox1.mono (by omega)
  have hR4 := BR.lt
  clear hb4 hk3 bp0 bp1 fp0 fp1
  go_upto_block 0 with fail
  obtain ⟨gx, hgx⟩ : ∃ g, g = V4.heap.size := ⟨_, rfl⟩
  rw [← hgx]
  have hgx2 : w.heap.size + 2 ≤ gx := by omega
  have HXG : Hid (∀ k, Value.ownBlock (.slice A1 xs.length c1) = some k → k < gx) := fun k hk => by rw [hgx]; exact (HXG0.out k hk).2
  refine wp_hide (R := fun U => Below w.heap.size w U ∧ BoxL U gx s A1 xs.length c1 ∧ BoxL U (w.heap.size + 1) ⟨#[]⟩ none 0 0 ∧ Own U (w.heap.size + 2) 59 (.slice A1 xs.length c1) xs ∧ BoxL U w.heap.size s A n c) ⟨?_, ?_, ?_, ?_, ?_⟩ (fun U hU0 => ?_)
  · exact bl_alloc hk4 _
  · exact BoxL.new' hgx
  · exact BR.alloc _
  · exact ox1.alloc _
  · exact BP.alloc _
  clear hgx hk4 ox1 BP BR HXG0 hR3 hR4
  obtain ⟨hkU, BX, BR, oxU, BP⟩ := hU0
  have hUz := BR.lt
  have hgxU := BX.lt
  go_wp2
  go_loopw [10, 43] (fun v iv wr => ∃ (i c' : Nat) (A' : Option Addr) (ps : List (LoadR × List Thing)), i ≤ p ∧ iv = .int .i64 i ∧ v = .slice A' i c' ∧ OwnP loadN wr U.heap.size 28 59 (.slice A' i c') ps ∧ Hid (loadN.plain ps = others.take i) ∧ Below U.heap.size U wr) (fun _ iv _ => p - (intOf iv).toNat)
  case atStart => exact ⟨0, 0, none, [], Nat.zero_le _, rfl, rfl, OwnP.nil _ _ _ (by decide), rfl, bl_refl _⟩
  case round =>
    obtain ⟨i, c', A', ps, hin, rfl, rfl, ho, hpl, hb⟩ := hrel
    by_cases hlt : i < p
    · have hkx : Hid (i < others.length) := by rw [Hid, HO.out]; exact hlt
      obtain ⟨b, o, A2, c2, rfl, hbz, c0, c1x, hi, hil⟩ := (hrs.below (bl_trans hkU hb)).load hlt
      have hil2 := thingsB_len (loadB_things (HR.out i hkx.out))
      clear hrs hil
      go_wp2_with fail
      refine (eqOwn_any (nth others i).Appliance (nth others i).Things _ _ _ _ (by omega) (hi.below (bl_alloc (bl_refl _) _))).mono ?_
      rintro e V ⟨A3, c3, rfl, ho1, hV⟩
      have hbV : Below wr.heap.size wr V := bl_trans (bl_alloc (bl_refl _) _) hV
      have HoS := Lib.hid (ho.below hbV)
      have hbS := bl_trans hb hbV
      have Ho := Lib.hid ho
      have HI1 : Hid (Own V (wr.heap.size + 1) 59 (.slice A3 (nth others i).Things.length c3) (nth others i).Things) := ho1.mono (by simp)
      clear hV hi c0 c1x ho ho1
      go_wp2_with ((at_builtin; refine wpList_app1g rfl (.tmp 47) (.tmp 50) _ _ rfl el_load (⟨(nth others i).Appliance, A3, (nth others i).Things.length, c3⟩ : LoadR) rfl HoS.out.out hbS rfl (by simp) (by omega) ?_; intro A4 c4 w2 ho2 hb2 hg2))
      have hgO : OnlyF (Value.ownBlock (.slice A' i c')).toList V w2 := (OnlyF.alloc (OnlyF.refl _ _) _).trans (OnlyF.of_gb hg2)
      have HGO := Lib.hid hgO
      clear hgO hg2
      go_roundw
      case rel =>
        refine ⟨i + 1, c4, A4, ps ++ [(⟨(nth others i).Appliance, A3, (nth others i).Things.length, c3⟩, (nth others i).Things)], by omega, by go_num, rfl, HoS.out.snoc ho2 ?_ HGO.out ?_, ?_, hb2⟩
        · refine Own.mono (base := wr.heap.size + 1) ?_ (by have := hb.size; omega)
          refine HI1.out.only HGO.out (fun y hy hm => ?_)
          have h1 := (HI1.out.lt y (by simpa using hy)).1
          have h2 := (Ho.out.out.lt y (by simpa using hm)).2
          omega
        · intro x hx j q hq hq'
          have h1 := (HI1.out.lt x hx).1
          have h2 := ((Ho.out.inn j q hq).lt x hq').2
          omega
        · rw [Hid]; unfold Nest.plain at hpl ⊢; rw [List.map_append, hpl.out, take_succ hkx.out]; rfl
      case measure => simp [intOf]; omega
    · obtain rfl : i = p := by omega
      have hfin : Hid (loadN.plain ps = others) := by have h := hpl.out; rw [List.take_of_length_le (by rw [HO.out]; exact Nat.le_refl _)] at h; exact h
      have BX := BX.below hb
      have BP := BP.below hb
      have BR := BR.below hb
      have oxW := oxU.below hb
      have hkW := bl_trans hkU hb
      have hOL := ho.lies
      have HOL := Lib.hid hOL
      obtain ⟨bx0, bx1, fx0, fx1⟩ := id BP
      clear hpl hOL
      go_wp2_with fail
      refine (eqMissing_any wanted xs _ _ _ _ _ _ _ (by omega) (by omega) (ht.below hkW) (hs.below hkW) HWT.out (loadB_things HX.out)).mono ?_
      rintro e Y ⟨A5, c5, rfl, hms, hbY⟩
      obtain ⟨ms, hmE⟩ : ∃ ms, ms = moreL false xs wanted := ⟨_, rfl⟩
      rw [← hmE] at hms ⊢
      have HME := Lib.hid hmE
      have hml : ms.length ≤ 12 := by rw [hmE]; exact moreL_len false HWT.out
      clear hmE
      have hkY := bl_trans hkW hbY
      have HMB := Lib.hid hms.lt
      have HMS := Lib.hid hms
      have hUU : U.heap.size ≤ wr.heap.size := hb.size
      have hF : Fill Y (w.heap.size + 2) A' c' i gx ⟨s, xs⟩ others A1 c1 ps Y := by
        refine ⟨OnlyF.refl _ _, BX.below hbY, oxW.below hbY, (ho.below hbY).mono (by omega), hfin.out, HX.out, HR.out, HO.out, fun hm => ?_, fun k hk => ⟨?_, fun hm => ?_⟩⟩
        · have := (HOL.out _ hm).1; omega
        · have := HXG.out k hk; omega
        · have h1 := (HOL.out _ hm).1; have h2 := (oxU.lt k hk).2; omega
      have BR := BR.below hbY
      have hYz : w.heap.size + 2 ≤ Y.heap.size := by have := hbY.size; omega
      have hms0 : ∀ y, y ∈ (Value.ownBlock (.slice A5 ms.length c5)).toList → y ∉ (gx :: (Value.ownBlock (.slice A' i c')).toList) := fun y hy hm => by
        have h1 := (HMB.out y (by simpa using hy)).1
        rcases List.mem_cons.1 hm with rfl | hm
        · have := hkW.size; have := BX.lt; omega
        · have h2 := (ho.out.lt y (by simpa using hm)).2; omega
      have HMA := Lib.hid hms0
      have hrr : w.heap.size + 1 ∉ (gx :: (Value.ownBlock (.slice A' i c')).toList) := fun hm => by
        rcases List.mem_cons.1 hm with e | hm
        · omega
        · have h2 := (ho.out.lt _ (by simpa using hm)).1; omega
      have HRR := Lib.hid hrr
      have hFL : ∀ y, y ∈ (gx :: (Value.ownBlock (.slice A' i c')).toList) → w.heap.size ≤ y := fun y hm => by
        rcases List.mem_cons.1 hm with rfl | hm
        · omega
        · have h2 := (ho.out.lt y (by simpa using hm)).1; have := hkU.size; omega
      have HFL := Lib.hid hFL
      have HF := Lib.hid hF
      have HBR := Lib.hid BR
      clear hFL hms0 hrr hms hF ho BX bx0 bx1 fx0 fx1 oxW hbY hb hkW oxU hkU BR
      go_wp2
      obtain ⟨wo, hwo⟩ : ∃ W, W = wr := ⟨_, rfl⟩
      subst hwo
      go_loopw [58] (fun iv wr2 => ∃ (k : Nat) (x : Load) (rest : List Load) (A1 : Option Addr) (c1 : Nat) (ps : List (LoadR × List Thing)), k ≤ ms.length ∧ iv = .int .i64 k ∧ Hid (outerF ms ((⟨s, xs⟩ : Load), others) k = some (x, rest)) ∧ Fill Y (w.heap.size + 2) A' c' i gx x rest A1 c1 ps wr2) (fun iv _ => ms.length - (intOf iv).toNat)
      case atStart => exact ⟨0, (⟨s, xs⟩ : Load), others, A1, c1, ps, Nat.zero_le _, rfl, rfl, HF.out⟩
      case round =>
        clear HF HXG HOL hfin
        obtain ⟨k, x, rest, A1, c1, ps, hk, rfl, hout, hF⟩ := hrel
        have HF := Lib.hid hF
        have hwF := HF.out.of.size
        have hbxl := HF.out.xb.lt
        clear hF
        by_cases hlt : k < ms.length
        · have hmsW := HMS.out.only HF.out.of HMA.out
          obtain ⟨b, o, rfl, hbz, c0, c1m, c2m⟩ := hmsW.sl.thing hlt
          have hmat := more_at (keep := false) (ys := xs) HWT.out (loadB_things HX.out) (k := k) (by rw [← HME.out]; exact hlt)
          rw [← HME.out] at hmat
          obtain ⟨hm1, hm2, hm3⟩ := hmat
          clear hmsW
          obtain ⟨t, htE⟩ : ∃ t, t = nth ms k := ⟨_, rfl⟩
          rw [← htE] at hm1 hm2 hm3 c0 c1m c2m
          have HTE := Lib.hid htE
          clear htE
          have hn8 : t.Name.size ≤ maxLen := by unfold maxLen; omega
          go_upto_block 4 with fail
          refine wp_hide (R := fun Z => Below wr.heap.size wr Z ∧ Z.cell? ⟨wr.heap.size, 0, none⟩ = some (.string t.Name)) ⟨bl_alloc (bl_refl _) _, by go_simp⟩ (fun Z hZ0 => ?_)
          obtain ⟨hbZ, z0⟩ := hZ0
          have HFZ := Lib.hid (HF.out.below hbZ)
          clear c0 c1m c2m
          obtain ⟨wq, hwq⟩ : ∃ W, W = wr := ⟨_, rfl⟩
          subst hwq
          have HGq := Lib.hid HF.out.op.out.lt
          have hbxq := HF.out.xb.lt
          go_wp2
          go_loopw [15, 66] (fun lv iv wr => ∃ (j : Nat) (x2 : Load) (rest2 : List Load) (left : Int) (A2 : Option Addr) (c2 : Nat) (ps2 : List (LoadR × List Thing)), j ≤ i ∧ iv = .int .i64 j ∧ lv = .int .i64 left ∧ 0 ≤ left ∧ left ≤ 99 ∧ Hid (innerF t.Name (x, rest, t.Count) j = some (x2, rest2, left)) ∧ Fill Y (w.heap.size + 2) A' c' i gx x2 rest2 A2 c2 ps2 wr ∧ wr.cell? ⟨wq.heap.size, 0, none⟩ = some (.string t.Name)) (fun _ iv _ => i - (intOf iv).toNat)
          case atStart => exact ⟨0, x, rest, t.Count, A1, c1, ps, Nat.zero_le _, rfl, rfl, by omega, hm3, rfl, HFZ.out, z0⟩
          case round =>
            clear HFZ z0 hbZ
            obtain ⟨j, x2, rest2, left, A2, c2, ps2, hj, rfl, rfl, hl0, hl9, hinn, hF2, z0⟩ := hrel
            have HF2 := Lib.hid hF2
            have hzq : wq.heap.size < wr.heap.size := World.block_lt_of_cell? _ _ z0
            clear hF2
            by_cases hjl : j < i
            · obtain ⟨g, rfl⟩ := HF2.out.op.out.form (by omega)
              obtain ⟨A6, c6, r0, r1, ho6, f0, f1, hv6⟩ := HF2.out.at hjl
              have hl6 := thingsB_len (loadB_things hv6)
              have hct := countF_in (loadB_things hv6) t.Name
              have hgw : g < wr.heap.size := (HF2.out.op.out.lt g rfl).2
              have hjI : (j : Int) < (i : Int) := by omega
              obtain ⟨cn, hcn⟩ : ∃ cn, cn = countF (nth rest2 j).Things t.Name := ⟨_, rfl⟩
              rw [← hcn] at hct
              have HCN := Lib.hid hcn
              clear hcn
              have HO6 := Lib.hid ho6
              have HV6 := Lib.hid hv6
              clear ho6 hv6
              go_wp2_with fail
              refine (eqHas_any (nth rest2 j).Things A6 _ c6 t.Name _ (by omega) (HO6.out.sl.below (bl_alloc (bl_refl _) _)) (things_rise (loadB_things HV6.out))).mono ?_
              rintro e V ⟨rfl, hV⟩
              rw [← HCN.out]
              go_wp2_with fail
              refine (l1Least_any left cn _).mono ?_
              rintro _ V ⟨rfl, rfl⟩
              rw [lessI_min]
              have hbV : Below wr.heap.size wr V := bl_trans (bl_alloc (bl_refl _) _) hV
              have BY : BoxL V wr.heap.size (nth rest2 j).Appliance A6 (nth rest2 j).Things.length c6 := BoxL.below ⟨by go_simp, by go_simp, by go_simp, by go_simp⟩ hV
              have HFV := Lib.hid (HF2.out.below hbV)
              have HO7 := Lib.hid (HO6.out.below hbV)
              have z1 := cell_later hbV z0
              have hzV := hbV.size
              have hzl : wr.heap.size < V.heap.size := BY.lt
              clear hV r0 r1 z0 f0 f1
              go_upto_if 79 with fail
              obtain ⟨nn, hnn⟩ : ∃ nn, nn = min left cn := ⟨_, rfl⟩
              rw [← hnn]
              have hnb : 0 ≤ nn ∧ nn ≤ left ∧ nn ≤ cn := by rw [hnn]; omega
              have HNN : Hid (nn = min left (countF (nth rest2 j).Things t.Name)) := by rw [Hid, hnn, HCN.out]
              clear hnn
              by_cases hz : nn = 0
              · have hzb : (nn == 0) = true := by simp [hz]
                have HS : Hid (innerF t.Name (x, rest, t.Count) (j + 1) = some (x2, rest2, left)) := by rw [Hid, innerF_succ hinn.out]; exact stepF_zero (by rw [← HNN.out]; exact hz)
                clear hz
                go_wp2
                go_roundw
                case rel => exact ⟨j + 1, x2, rest2, left, A2, c2, ps2, by omega, by go_num, rfl, hl0, hl9, HS.out, HFV.out, z1⟩
                case measure => simp [intOf]; omega
              · have hzb : (nn == 0) = false := by simp [hz]
                have hv2 := HFV.out.vx
                have hl2 := thingsB_len (loadB_things hv2)
                have HV2 := Lib.hid hv2
                obtain ⟨by0, by1, fy0, fy1⟩ := id BY
                obtain ⟨bx0, bx1, fx0, fx1⟩ := id HFV.out.xb
                have HOX := Lib.hid HFV.out.ox
                have HNZ := Lib.hid hz
                clear hv2 hz
                go_wp2_with fail
                refine (eqMove_any (nth rest2 j).Appliance x2.Appliance (nth rest2 j).Things x2.Things t.Name nn A6 A2 _ c6 _ c2 _ (by omega) (by omega) HO7.out.cap.1 (by have := HO7.out.cap.2; unfold maxLen at this; omega) HOX.out.cap.1 (by have := HOX.out.cap.2; unfold maxLen at this; omega) HO7.out.sl HOX.out.sl HV6.out HV2.out (by have := HNZ.out; omega) (loadB_sz HV6.out) (loadB_sz HV2.out) (loadB_szs HV6.out) (loadB_szs HV2.out) hn8).mono ?_
                rintro e V2 ⟨A3, c3, B3, d3, rfl, oa, ob, hap, hb2⟩
                obtain ⟨r, hr⟩ : ∃ r, r = mvF (nth rest2 j) x2 t.Name nn := ⟨_, rfl⟩
                have hr1 : mvF ⟨(nth rest2 j).Appliance, (nth rest2 j).Things⟩ ⟨x2.Appliance, x2.Things⟩ t.Name nn = r := hr.symm
                rw [hr1] at oa ob hap ⊢
                have HRR2 := Lib.hid hr
                have HOA := Lib.hid oa
                have HOB := Lib.hid ob
                have HAP := Lib.hid hap
                have HB2 := Lib.hid hb2
                have HFW := Lib.hid (HFV.out.below hb2)
                have BR := HBR.out.only HFW.out.of HRR.out
                have hzz := hb2.size
                have z2 := cell_later hb2 z1
                clear hr hr1 oa ob hap hb2 by0 by1 fy0 fy1 bx0 bx1 fx0 fx1 z1
                go_upto_if 91 with fail
                refine wp_hide (R := fun X => Below V2.heap.size V2 X ∧ BoxL X V2.heap.size r.1.Appliance A3 r.1.Things.length c3 ∧ BoxL X (V2.heap.size + 1) r.2.1.Appliance B3 r.2.1.Things.length d3) ⟨bl_alloc (bl_alloc (bl_refl _) _) _, BoxL.alloc (BoxL.new' rfl) _, BoxL.new' (by simp)⟩ (fun X hX0 => ?_)
                obtain ⟨hbX, B8, B9⟩ := hX0
                have HFX := Lib.hid (HFW.out.below hbX)
                have BR := BR.below hbX
                have z3 := cell_later hbX z2
                have hzX := hbX.size
                clear z2
                cases hok : r.2.2
                · have HZ : Hid (fillF ⟨s, xs⟩ wanted others = noL) := by
                    have h1 : innerF t.Name (x, rest, t.Count) (j + 1) = none := by rw [innerF_succ hinn.out]; exact stepF_fail HNN.out HNZ.out (by rw [← HRR2.out]; exact hok)
                    have h2 : outerF ms (⟨s, xs⟩, others) (k + 1) = none := by rw [outerF_succ hout.out, ← HTE.out]; exact kindF_none h1 (by rw [HF.out.ln]; omega)
                    have e : moreL false (⟨s, xs⟩ : Load).Things wanted = ms := HME.out.symm
                    exact fillF_none (by rw [e]; exact h2) (by rw [e]; omega)
                  clear hok
                  obtain ⟨br0, br1, fr0, fr1⟩ := id BR
                  have hkX := bl_only hkY HFX.out.of HFL.out
                  clear B8 B9 z3
                  go_wp2
                  refine bodyPost_ret (by simp [results, Try.results21, go_sem, br0, br1]; try rfl) rfl ?_
                  exact retFill_no (HTT.out.trans HZ.out) (by repeat' (first | with_reducible exact hkX | refine bl_set ?_ (by simp only []; omega) _))
                · obtain ⟨b80, b81, f80, f81⟩ := id B8
                  obtain ⟨b90, b91, f90, f91⟩ := id B9
                  obtain ⟨bx0, bx1, fx0, fx1⟩ := id HFX.out.xb
                  obtain ⟨A6', c6', r0, r1, ho6', f0, f1, hv6'⟩ := HFX.out.at hjl
                  clear ho6' hv6'
                  have hval := mv_valid (x := nth rest2 j) (y := x2) (nm := t.Name) (q := nn) HV6.out (by have := HNZ.out; omega) (by rw [← HRR2.out]; exact hok)
                  rw [← HRR2.out] at hval
                  have HVAL := Lib.hid hval
                  have HS : Hid (innerF t.Name (x, rest, t.Count) (j + 1) = some (r.2.1, rest2.set j r.1, left - nn)) := by rw [Hid, innerF_succ hinn.out, HRR2.out]; exact stepF_go HNN.out HNZ.out (by rw [← HRR2.out]; exact hok)
                  clear hok hval
                  have hgX : g < X.heap.size := by omega
                  have ngb : g ≠ gx := fun e => HFX.out.nb (loadN.mem_foot.2 (.inl (by rw [← e]; rfl)))
                  have ngb2 : gx ≠ g := fun e => ngb e.symm
                  have ng1 : g ≠ V2.heap.size := by omega
                  have ng2 : g ≠ V2.heap.size + 1 := by omega
                  have nb1 : gx ≠ V2.heap.size := by omega
                  have nb2 : gx ≠ V2.heap.size + 1 := by omega
                  have hbxX : gx < X.heap.size := by omega
                  go_upto_region 24 with fail
                  obtain ⟨ps', hps⟩ := Fill.move HFV.out (bl_trans HB2.out hbX) hjl (HOA.out.below hbX) (HOB.out.below hbX) HAP.out HVAL.out.1 HVAL.out.2 (by omega)
                  refine wp_hide (R := fun wx => FillP Y (w.heap.size + 2) (some ⟨g, 0, none⟩) c' i gx r.2.1 (rest2.set j r.1) B3 d3 wq.heap.size t.Name wx) ⟨⟨ps', hps⟩, ?_⟩ (fun wx hcut => ?_)
                  focus
                    have qg : g ≠ wq.heap.size := by have := (HGq.out g rfl).2; omega
                    have qb : gx ≠ wq.heap.size := by omega
                    rw [World.cell?_setCell_other _ _ _ _ (fun e => qb (by injection e)), World.cell?_setCell_other _ _ _ _ (fun e => qb (by injection e)), World.cell?_setCell_other _ _ _ _ (fun e => qg (by injection e)), World.cell?_setCell_other _ _ _ _ (fun e => qg (by injection e))]
                    exact z3
                  obtain ⟨⟨ps3, hF3⟩, z4⟩ := hcut
                  have HF3 := Lib.hid hF3
                  clear hF3 b80 b81 f80 f81 b90 b91 f90 f91 bx0 bx1 fx0 fx1 r0 r1 f0 f1 z3
                  go_wp2
                  go_roundw
                  case rel => exact ⟨j + 1, r.2.1, rest2.set j r.1, left - nn, B3, d3, ps3, by omega, by go_num, rfl, by omega, by omega, HS.out, HF3.out, z4⟩
                  case measure => simp [intOf]; omega
            · obtain rfl : i = j := by omega
              have HI : Hid (innerF t.Name (x, rest, t.Count) rest.length = some (x2, rest2, left)) := by rw [Hid, HF.out.ln]; exact hinn.out
              have BR := HBR.out.only HF2.out.of HRR.out
              have hkX := bl_only hkY HF2.out.of HFL.out
              have hwF2 := HF2.out.of.size
              by_cases hgt : 0 < left
              · have HZ : Hid (fillF ⟨s, xs⟩ wanted others = noL) := by
                  have h2 : outerF ms (⟨s, xs⟩, others) (k + 1) = none := by rw [outerF_succ hout.out, ← HTE.out]; exact kindF_left (p := (x, rest)) (q := (x2, rest2, left)) HI.out hgt
                  have e : moreL false (⟨s, xs⟩ : Load).Things wanted = ms := HME.out.symm
                  exact fillF_none (by rw [e]; exact h2) (by rw [e]; omega)
                obtain ⟨br0, br1, fr0, fr1⟩ := id BR
                go_wp2
                refine bodyPost_ret (by simp [results, Try.results21, go_sem, br0, br1]; try rfl) rfl ?_
                exact retFill_no (HTT.out.trans HZ.out) (by repeat' (first | with_reducible exact hkX | refine bl_set ?_ (by simp only []; omega) _))
              · have HK : Hid (outerF ms (⟨s, xs⟩, others) (k + 1) = some (x2, rest2)) := by rw [Hid, outerF_succ hout.out, ← HTE.out]; exact kindF_some (p := (x, rest)) (q := (x2, rest2, left)) HI.out hgt
                clear BR
                go_wp2
                go_roundw
                case rel => exact ⟨k + 1, x2, rest2, A2, c2, ps2, by omega, by go_num, HK.out, HF2.out⟩
                case measure => simp [intOf]; omega
        · obtain rfl : k = ms.length := by omega
          have HZ : Hid (fillF ⟨s, xs⟩ wanted others = (x, rest, true)) := by
            have e : moreL false (⟨s, xs⟩ : Load).Things wanted = ms := HME.out.symm
            exact fillF_some (by rw [e]; exact hout.out)
          have BR := HBR.out.only HF.out.of HRR.out
          have hkX := bl_only hkY HF.out.of HFL.out
          obtain ⟨br0, br1, fr0, fr1⟩ := id BR
          obtain ⟨bx0, bx1, fx0, fx1⟩ := id HF.out.xb
          have hlies := HF.out.op.lies
          have HLI := Lib.hid hlies
          have HLI := Lib.hid HF.out.op.lies
          go_wp2
          refine bodyPost_ret (v := .tuple #[.agg #[.string x.Appliance, .slice A1 x.Things.length c1], .slice A' i c', .bool true]) (by simp [results, Try.results21, go_sem, br0, br1]; try rfl) rfl ?_
          refine retFill_mk (HTT.out.trans HZ.out) (Own.mono (base := w.heap.size + 2) (Own.set (Own.set HF.out.ox (by omega) _) (by omega) _) (by omega)) (OwnP.mono (base := w.heap.size + 2) (HF.out.op.only (OnlyF.set (OnlyF.set (OnlyF.refl _ _) (List.mem_singleton.2 rfl) _) (List.mem_singleton.2 rfl) _) (fun y hy hm => by have h1 := (HLI.out y hy).1; rw [List.mem_singleton.1 hm] at h1; omega)) (by omega)) HF.out.pl (fun y hy => (HF.out.nx y hy).2) ?_
          repeat' (first | with_reducible exact hkX | refine bl_set ?_ (by simp only []; omega) _)

end Go.Proofs.Ytokcgjjnljflaaa
