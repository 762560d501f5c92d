/-
  Filling, the program's. No conditions.
-/
import Derived.Test.YtokcgjjnljflaaaMvN2
import Derived.Test.YtokcgjjnljflaaaMvI
import Derived.Deep.CutBlock
namespace Go.Proofs.Ytokcgjjnljflaaa
open Go.RowKit

set_option maxRecDepth 100000 in
set_option maxHeartbeats 8000000 in
theorem implFill_any (s : ByteArray) (xs wanted : List Thing) (others : List Load) (A B O : Option Addr) (n c m d p q : Nat) (w : World) (hx : loadB s xs = true) (hw : thingsB wanted = true) (hr : AllL others) (hp : p ≤ 6) (hs : Sl w A n xs) (ht : Sl w B m wanted) (hrs : Sl w O p others) :
    Calls Try.prog 41 #[.agg #[.string s, .slice A n c], .slice B m d, .slice O p q] w (RetFill w (fillF ⟨s, xs⟩ wanted others)) := by
  have HL := Lib.hid hs.1
  have HM := Lib.hid ht.1
  have HO := Lib.hid hrs.1
  have HX := Lib.hid hx
  have HWT := Lib.hid hw
  have HR := Lib.hid hr
  have hlx := thingsB_len (loadB_things hx)
  have hlw := thingsB_len hw
  have hn12 : n ≤ 12 := by have := HL.out; omega
  have hm12 : m ≤ 12 := by have := HM.out; omega
  clear hx hw hr
  go_enter Try.func41, Try.ntmps41
  go_wp2_with fail
  refine (copyLoad_any s xs A n c _ (by omega) (hs.below (by repeat' (first | assumption | exact bl_refl _ | refine bl_alloc ?_ _ | refine bl_drew ?_ | refine bl_set ?_ (by simp only []; omega) _)))).mono ?_
  rintro e V1 ⟨A1, c1, rfl, ox1, hb1⟩
  have BX : BoxL V1 w.heap.size s A n c := BoxL.below ⟨by go_simp, by go_simp, by go_simp, by go_simp⟩ hb1
  have BR : BoxL V1 (w.heap.size + 1) ⟨#[]⟩ none 0 0 := BoxL.below ⟨by go_simp, by go_simp, by go_simp, by go_simp⟩ hb1
  have hk1 : Below w.heap.size w V1 := bl_trans (by repeat' (first | assumption | exact bl_refl _ | refine bl_alloc ?_ _ | refine bl_drew ?_ | refine bl_set ?_ (by simp only []; omega) _)) hb1
  have HXB : Hid (∀ k, Value.ownBlock (.slice A1 xs.length c1) = some k → w.heap.size + 2 ≤ k) := fun k hk => by have h1 := (ox1.lt k hk).1; simp only [World.size_alloc] at h1; omega
  have ox1 : Own V1 (w.heap.size + 2) 59 (.slice A1 xs.length c1) xs := ox1.mono (by simp only [World.size_alloc]; omega)
  clear hb1
  obtain ⟨bx0, bx1, fx0, fx1⟩ := id BX
  go_upto_block 0 with fail
  refine wp_hide (R := fun U => Below w.heap.size w U ∧ BoxL U w.heap.size s A1 xs.length c1 ∧ BoxL U (w.heap.size + 1) ⟨#[]⟩ none 0 0 ∧ Own U (w.heap.size + 2) 59 (.slice A1 xs.length c1) xs) ⟨?_, ?_, ?_, ?_⟩ (fun U hU0 => ?_)
  · refine bl_set (bl_set hk1 ?_ _) ?_ _ <;> (simp only []; omega)
  · exact (BX.set0 _).set1 _ _ _
  · exact (BR.set_ne (by omega) _ _).set_ne (by omega) _ _
  · exact Own.set_ne (Own.set_ne ox1 (fun h => by have := HXB.out _ h; omega) _ _) (fun h => by have := HXB.out _ h; omega) _ _
  obtain ⟨hkU, BX, BR, oxU⟩ := hU0
  clear ox1 hk1 bx0 bx1 fx0 fx1
  have hUz := BR.lt
  go_wp2
  go_loopw [9, 25] (fun v iv wr => ∃ (i c' : Nat) (A' : Option Addr) (ps : List (LoadR × List Thing)), i ≤ p ∧ iv = .int .i64 i ∧ v = .slice A' i c' ∧ OwnP loadN wr U.heap.size 28 59 (.slice A' i c') ps ∧ Hid (loadN.plain ps = others.take i) ∧ Below U.heap.size U wr) (fun _ iv _ => p - (intOf iv).toNat)
  case atStart => exact ⟨0, 0, none, [], Nat.zero_le _, rfl, rfl, OwnP.nil _ _ _ (by decide), rfl, bl_refl _⟩
  case round =>
    obtain ⟨i, c', A', ps, hin, rfl, rfl, ho, hpl, hb⟩ := hrel
    by_cases hlt : i < p
    · have hkx : Hid (i < others.length) := by rw [Hid, HO.out]; exact hlt
      obtain ⟨b, o, A2, c2, rfl, hbz, c0, c1x, hi, hil⟩ := (hrs.below (bl_trans hkU hb)).load hlt
      have hil2 := thingsB_len (loadB_things (HR.out i hkx.out))
      clear hrs hil
      go_wp2_with fail
      refine (copyLoad_any (nth others i).Appliance (nth others i).Things _ _ _ _ (by omega) (hi.below (bl_alloc (bl_refl _) _))).mono ?_
      rintro e V ⟨A3, c3, rfl, ho1, hV⟩
      have hbV : Below wr.heap.size wr V := bl_trans (bl_alloc (bl_refl _) _) hV
      have HoS := Lib.hid (ho.below hbV)
      have hbS := bl_trans hb hbV
      have Ho := Lib.hid ho
      have HI1 : Hid (Own V (wr.heap.size + 1) 59 (.slice A3 (nth others i).Things.length c3) (nth others i).Things) := ho1.mono (by simp)
      clear hV hi c0 c1x ho ho1
      go_wp2_with ((at_builtin; refine wpList_app1g rfl (.tmp 29) (.tmp 32) _ _ rfl el_load (⟨(nth others i).Appliance, A3, (nth others i).Things.length, c3⟩ : LoadR) rfl HoS.out.out hbS rfl (by simp) (by omega) ?_; intro A4 c4 w2 ho2 hb2 hg2))
      have hgO : OnlyF (Value.ownBlock (.slice A' i c')).toList V w2 := (OnlyF.alloc (OnlyF.refl _ _) _).trans (OnlyF.of_gb hg2)
      have HGO := Lib.hid hgO
      clear hgO hg2
      go_roundw
      case rel =>
        refine ⟨i + 1, c4, A4, ps ++ [(⟨(nth others i).Appliance, A3, (nth others i).Things.length, c3⟩, (nth others i).Things)], by omega, by go_num, rfl, HoS.out.snoc ho2 ?_ HGO.out ?_, ?_, hb2⟩
        · refine Own.mono (base := wr.heap.size + 1) ?_ (by have := hb.size; omega)
          refine HI1.out.only HGO.out (fun y hy hm => ?_)
          have h1 := (HI1.out.lt y (by simpa using hy)).1
          have h2 := (Ho.out.out.lt y (by simpa using hm)).2
          omega
        · intro x hx j q hq hq'
          have h1 := (HI1.out.lt x hx).1
          have h2 := ((Ho.out.inn j q hq).lt x hq').2
          omega
        · rw [Hid]; unfold Nest.plain at hpl ⊢; rw [List.map_append, hpl.out, take_succ hkx.out]; rfl
      case measure => simp [intOf]; omega
    · obtain rfl : i = p := by omega
      have hfin : Hid (loadN.plain ps = others) := by have h := hpl.out; rw [List.take_of_length_le (by rw [HO.out]; exact Nat.le_refl _)] at h; exact h
      have BX := BX.below hb
      have BR := BR.below hb
      have oxW := oxU.below hb
      have hkW := bl_trans hkU hb
      have hOL := ho.lies
      have HOL := Lib.hid hOL
      obtain ⟨bx0, bx1, fx0, fx1⟩ := id BX
      clear hpl hOL
      go_wp2_with fail
      refine (missingThings_any wanted xs _ _ _ _ _ _ _ (by omega) (by omega) (ht.below hkW) oxW.sl HWT.out (loadB_things HX.out)).mono ?_
      rintro e Y ⟨A5, c5, rfl, hms, hbY⟩
      obtain ⟨ms, hmE⟩ : ∃ ms, ms = moreL false xs wanted := ⟨_, rfl⟩
      rw [← hmE] at hms ⊢
      have HME := Lib.hid hmE
      have hml : ms.length ≤ 12 := by rw [hmE]; exact moreL_len false HWT.out
      clear hmE
      have hkY := bl_trans hkW hbY
      have HMB := Lib.hid hms.lt
      have HMS := Lib.hid hms
      have hUU : U.heap.size ≤ wr.heap.size := hb.size
      have hF : Fill Y (w.heap.size + 2) A' c' i w.heap.size ⟨s, xs⟩ others A1 c1 ps Y := by
        refine ⟨OnlyF.refl _ _, BX.below hbY, oxW.below hbY, (ho.below hbY).mono (by omega), hfin.out, HX.out, HR.out, HO.out, fun hm => ?_, fun k hk => ⟨?_, fun hm => ?_⟩⟩
        · have := (HOL.out _ hm).1; omega
        · have := HXB.out k hk; omega
        · have h1 := (HOL.out _ hm).1; have h2 := (oxU.lt k hk).2; omega
      have BR := BR.below hbY
      have hYz : w.heap.size + 2 ≤ Y.heap.size := by have := hbY.size; omega
      have hms0 : ∀ y, y ∈ (Value.ownBlock (.slice A5 ms.length c5)).toList → y ∉ (w.heap.size :: (Value.ownBlock (.slice A' i c')).toList) := fun y hy hm => by
        have h1 := (HMB.out y (by simpa using hy)).1
        rcases List.mem_cons.1 hm with rfl | hm
        · have := hkW.size; have := BX.lt; omega
        · have h2 := (ho.out.lt y (by simpa using hm)).2; omega
      have HMA := Lib.hid hms0
      have hrr : w.heap.size + 1 ∉ (w.heap.size :: (Value.ownBlock (.slice A' i c')).toList) := fun hm => by
        rcases List.mem_cons.1 hm with e | hm
        · omega
        · have h2 := (ho.out.lt _ (by simpa using hm)).1; omega
      have HRR := Lib.hid hrr
      have hFL : ∀ y, y ∈ (w.heap.size :: (Value.ownBlock (.slice A' i c')).toList) → w.heap.size ≤ y := fun y hm => by
        rcases List.mem_cons.1 hm with rfl | hm
        · exact Nat.le_refl _
        · have h2 := (ho.out.lt y (by simpa using hm)).1; have := hkU.size; omega
      have HFL := Lib.hid hFL
      have HF := Lib.hid hF
      have HBR := Lib.hid BR
      clear hFL hms0 hrr hms hF ho BX bx0 bx1 fx0 fx1 oxW hbY hb hkW oxU hkU BR
      go_wp2
      obtain ⟨wo, hwo⟩ : ∃ W, W = wr := ⟨_, rfl⟩
      subst hwo
      go_loopw [40] (fun iv wr2 => ∃ (k : Nat) (x : Load) (rest : List Load) (A1 : Option Addr) (c1 : Nat) (ps : List (LoadR × List Thing)), k ≤ ms.length ∧ iv = .int .i64 k ∧ Hid (outerF ms ((⟨s, xs⟩ : Load), others) k = some (x, rest)) ∧ Fill Y (w.heap.size + 2) A' c' i w.heap.size x rest A1 c1 ps wr2) (fun iv _ => ms.length - (intOf iv).toNat)
      case atStart => exact ⟨0, (⟨s, xs⟩ : Load), others, A1, c1, ps, Nat.zero_le _, rfl, rfl, HF.out⟩
      case round =>
        clear HF HXB HOL hfin
        obtain ⟨k, x, rest, A1, c1, ps, hk, rfl, hout, hF⟩ := hrel
        have HF := Lib.hid hF
        have hwF := HF.out.of.size
        have hbxl := HF.out.xb.lt
        clear hF
        by_cases hlt : k < ms.length
        · have hmsW := HMS.out.only HF.out.of HMA.out
          obtain ⟨b, o, rfl, hbz, c0, c1m, c2m⟩ := hmsW.sl.thing hlt
          have hmat := more_at (keep := false) (ys := xs) HWT.out (loadB_things HX.out) (k := k) (by rw [← HME.out]; exact hlt)
          rw [← HME.out] at hmat
          obtain ⟨hm1, hm2, hm3⟩ := hmat
          clear hmsW
          obtain ⟨t, htE⟩ : ∃ t, t = nth ms k := ⟨_, rfl⟩
          rw [← htE] at hm1 hm2 hm3 c0 c1m c2m
          have HTE := Lib.hid htE
          clear htE
          have hn8 : t.Name.size ≤ maxLen := by unfold maxLen; omega
          go_upto_block 4 with fail
          refine wp_hide (R := fun Z => Below wr.heap.size wr Z ∧ Z.cell? ⟨wr.heap.size, 0, none⟩ = some (.string t.Name)) ⟨bl_alloc (bl_refl _) _, by go_simp⟩ (fun Z hZ0 => ?_)
          obtain ⟨hbZ, z0⟩ := hZ0
          have HFZ := Lib.hid (HF.out.below hbZ)
          clear c0 c1m c2m
          obtain ⟨wq, hwq⟩ : ∃ W, W = wr := ⟨_, rfl⟩
          subst hwq
          have HGq := Lib.hid HF.out.op.out.lt
          have hbxq := HF.out.xb.lt
          go_wp2
          go_loopw [14, 48] (fun lv iv wr => ∃ (j : Nat) (x2 : Load) (rest2 : List Load) (left : Int) (A2 : Option Addr) (c2 : Nat) (ps2 : List (LoadR × List Thing)), j ≤ i ∧ iv = .int .i64 j ∧ lv = .int .i64 left ∧ 0 ≤ left ∧ left ≤ 99 ∧ Hid (innerF t.Name (x, rest, t.Count) j = some (x2, rest2, left)) ∧ Fill Y (w.heap.size + 2) A' c' i w.heap.size x2 rest2 A2 c2 ps2 wr ∧ wr.cell? ⟨wq.heap.size, 0, none⟩ = some (.string t.Name)) (fun _ iv _ => i - (intOf iv).toNat)
          case atStart => exact ⟨0, x, rest, t.Count, A1, c1, ps, Nat.zero_le _, rfl, rfl, by omega, hm3, rfl, HFZ.out, z0⟩
          case round =>
            clear HFZ z0 hbZ
            obtain ⟨j, x2, rest2, left, A2, c2, ps2, hj, rfl, rfl, hl0, hl9, hinn, hF2, z0⟩ := hrel
            have HF2 := Lib.hid hF2
            have hzq : wq.heap.size < wr.heap.size := World.block_lt_of_cell? _ _ z0
            clear hF2
            by_cases hjl : j < i
            · obtain ⟨g, rfl⟩ := HF2.out.op.out.form (by omega)
              obtain ⟨A6, c6, r0, r1, ho6, f0, f1, hv6⟩ := HF2.out.at hjl
              have hl6 := thingsB_len (loadB_things hv6)
              have hct := countF_in (loadB_things hv6) t.Name
              have hgw : g < wr.heap.size := (HF2.out.op.out.lt g rfl).2
              have hjI : (j : Int) < (i : Int) := by omega
              obtain ⟨cn, hcn⟩ : ∃ cn, cn = countF (nth rest2 j).Things t.Name := ⟨_, rfl⟩
              rw [← hcn] at hct
              have HCN := Lib.hid hcn
              clear hcn
              have HO6 := Lib.hid ho6
              have HV6 := Lib.hid hv6
              clear ho6 hv6
              go_wp2_with fail
              refine (countOf_any (nth rest2 j).Things A6 _ c6 t.Name _ (by omega) (HO6.out.sl.below (bl_alloc (bl_refl _) _))).mono ?_
              rintro e V ⟨rfl, hV⟩
              rw [← HCN.out]
              have hbV : Below wr.heap.size wr V := bl_trans (bl_alloc (bl_refl _) _) hV
              have BY : BoxL V wr.heap.size (nth rest2 j).Appliance A6 (nth rest2 j).Things.length c6 := BoxL.below ⟨by go_simp, by go_simp, by go_simp, by go_simp⟩ hV
              have HFV := Lib.hid (HF2.out.below hbV)
              have HO7 := Lib.hid (HO6.out.below hbV)
              have z1 := cell_later hbV z0
              have hzV := hbV.size
              have hzl : wr.heap.size < V.heap.size := BY.lt
              clear hV r0 r1 z0 f0 f1
              go_upto_if 61 with fail
              obtain ⟨nn, hnn⟩ : ∃ nn, nn = min left cn := ⟨_, rfl⟩
              rw [← hnn]
              have hnb : 0 ≤ nn ∧ nn ≤ left ∧ nn ≤ cn := by rw [hnn]; omega
              have HNN : Hid (nn = min left (countF (nth rest2 j).Things t.Name)) := by rw [Hid, hnn, HCN.out]
              clear hnn
              by_cases hz : nn = 0
              · have hzb : (nn == 0) = true := by simp [hz]
                have HS : Hid (innerF t.Name (x, rest, t.Count) (j + 1) = some (x2, rest2, left)) := by rw [Hid, innerF_succ hinn.out]; exact stepF_zero (by rw [← HNN.out]; exact hz)
                clear hz
                go_wp2
                go_roundw
                case rel => exact ⟨j + 1, x2, rest2, left, A2, c2, ps2, by omega, by go_num, rfl, hl0, hl9, HS.out, HFV.out, z1⟩
                case measure => simp [intOf]; omega
              · have hzb : (nn == 0) = false := by simp [hz]
                have hv2 := HFV.out.vx
                have hl2 := thingsB_len (loadB_things hv2)
                have HV2 := Lib.hid hv2
                obtain ⟨by0, by1, fy0, fy1⟩ := id BY
                obtain ⟨bx0, bx1, fx0, fx1⟩ := id HFV.out.xb
                have HOX := Lib.hid HFV.out.ox
                have HNZ := Lib.hid hz
                clear hv2 hz
                go_wp2_with fail
                refine (moveThing_any (nth rest2 j).Appliance x2.Appliance (nth rest2 j).Things x2.Things t.Name nn A6 A2 _ c6 _ c2 _ (by omega) (by omega) HO7.out.cap.1 (by have := HO7.out.cap.2; unfold maxLen at this; omega) HOX.out.cap.1 (by have := HOX.out.cap.2; unfold maxLen at this; omega) HO7.out.sl HOX.out.sl HV6.out HV2.out (by have := HNZ.out; omega) (loadB_sz HV6.out) (loadB_sz HV2.out) (loadB_szs HV6.out) (loadB_szs HV2.out) hn8).mono ?_
                rintro e V2 ⟨A3, c3, B3, d3, rfl, oa, ob, hap, hb2⟩
                obtain ⟨r, hr⟩ : ∃ r, r = mvF (nth rest2 j) x2 t.Name nn := ⟨_, rfl⟩
                have hr1 : mvF ⟨(nth rest2 j).Appliance, (nth rest2 j).Things⟩ ⟨x2.Appliance, x2.Things⟩ t.Name nn = r := hr.symm
                rw [hr1] at oa ob hap ⊢
                have HRR2 := Lib.hid hr
                have HOA := Lib.hid oa
                have HOB := Lib.hid ob
                have HAP := Lib.hid hap
                have HB2 := Lib.hid hb2
                have HFW := Lib.hid (HFV.out.below hb2)
                have BR := HBR.out.only HFW.out.of HRR.out
                have hzz := hb2.size
                have z2 := cell_later hb2 z1
                clear hr hr1 oa ob hap hb2 by0 by1 fy0 fy1 bx0 bx1 fx0 fx1 z1
                go_upto_if 73 with fail
                refine wp_hide (R := fun X => Below V2.heap.size V2 X ∧ BoxL X V2.heap.size r.1.Appliance A3 r.1.Things.length c3 ∧ BoxL X (V2.heap.size + 1) r.2.1.Appliance B3 r.2.1.Things.length d3) ⟨bl_alloc (bl_alloc (bl_refl _) _) _, BoxL.alloc (BoxL.new' rfl) _, BoxL.new' (by simp)⟩ (fun X hX0 => ?_)
                obtain ⟨hbX, B8, B9⟩ := hX0
                have HFX := Lib.hid (HFW.out.below hbX)
                have BR := BR.below hbX
                have z3 := cell_later hbX z2
                have hzX := hbX.size
                clear z2
                cases hok : r.2.2
                · have HZ : Hid (fillF ⟨s, xs⟩ wanted others = noL) := by
                    have h1 : innerF t.Name (x, rest, t.Count) (j + 1) = none := by rw [innerF_succ hinn.out]; exact stepF_fail HNN.out HNZ.out (by rw [← HRR2.out]; exact hok)
                    have h2 : outerF ms (⟨s, xs⟩, others) (k + 1) = none := by rw [outerF_succ hout.out, ← HTE.out]; exact kindF_none h1 (by rw [HF.out.ln]; omega)
                    have e : moreL false (⟨s, xs⟩ : Load).Things wanted = ms := HME.out.symm
                    exact fillF_none (by rw [e]; exact h2) (by rw [e]; omega)
                  clear hok
                  obtain ⟨br0, br1, fr0, fr1⟩ := id BR
                  have hkX := bl_only hkY HFX.out.of HFL.out
                  clear B8 B9 z3
                  go_wp2
                  refine bodyPost_ret (by simp [results, Try.results41, go_sem, br0, br1]; try rfl) rfl ?_
                  exact retFill_no HZ.out (by repeat' (first | with_reducible exact hkX | refine bl_set ?_ (by simp only []; omega) _))
                · obtain ⟨b80, b81, f80, f81⟩ := id B8
                  obtain ⟨b90, b91, f90, f91⟩ := id B9
                  obtain ⟨bx0, bx1, fx0, fx1⟩ := id HFX.out.xb
                  obtain ⟨A6', c6', r0, r1, ho6', f0, f1, hv6'⟩ := HFX.out.at hjl
                  clear ho6' hv6'
                  have hval := mv_valid (x := nth rest2 j) (y := x2) (nm := t.Name) (q := nn) HV6.out (by have := HNZ.out; omega) (by rw [← HRR2.out]; exact hok)
                  rw [← HRR2.out] at hval
                  have HVAL := Lib.hid hval
                  have HS : Hid (innerF t.Name (x, rest, t.Count) (j + 1) = some (r.2.1, rest2.set j r.1, left - nn)) := by rw [Hid, innerF_succ hinn.out, HRR2.out]; exact stepF_go HNN.out HNZ.out (by rw [← HRR2.out]; exact hok)
                  clear hok hval
                  have hgX : g < X.heap.size := by omega
                  have ngb : g ≠ w.heap.size := fun e => HFX.out.nb (loadN.mem_foot.2 (.inl (by rw [← e]; rfl)))
                  have ngb2 : w.heap.size ≠ g := fun e => ngb e.symm
                  have ng1 : g ≠ V2.heap.size := by omega
                  have ng2 : g ≠ V2.heap.size + 1 := by omega
                  have nb1 : w.heap.size ≠ V2.heap.size := by omega
                  have nb2 : w.heap.size ≠ V2.heap.size + 1 := by omega
                  have hbxX : w.heap.size < X.heap.size := by omega
                  go_upto_region 20 with fail
                  go_cut [] (fun wx => FillP Y (w.heap.size + 2) (some ⟨g, 0, none⟩) c' i w.heap.size r.2.1 (rest2.set j r.1) B3 d3 wq.heap.size t.Name wx)
                  case first =>
                    go_region_held3 (fun w' => w'.cell? ⟨V2.heap.size, 0, none⟩ = some (.string r.1.Appliance) ∧ w'.cell? ⟨V2.heap.size, 1, none⟩ = some (.slice A3 r.1.Things.length c3) ∧ w'.cell? ⟨V2.heap.size + 1, 0, none⟩ = some (.string r.2.1.Appliance) ∧ w'.cell? ⟨V2.heap.size + 1, 1, none⟩ = some (.slice B3 r.2.1.Things.length d3)) (refine ⟨BoxL.c0 (A := A3) (n := r.1.Things.length) (c := c3) ?_, BoxL.c1 (s := r.1.Appliance) ?_, BoxL.c0 (A := B3) (n := r.2.1.Things.length) (c := d3) ?_, BoxL.c1 (s := r.2.1.Appliance) ?_⟩ <;> (repeat' (first | with_reducible exact B8 | with_reducible exact B9 | with_reducible refine BoxL.drew ?_ | with_reducible refine BoxL.set_ne ?_ ng1 _ _ | with_reducible refine BoxL.set_ne ?_ ng2 _ _ | with_reducible refine BoxL.set_ne ?_ nb1 _ _ | with_reducible refine BoxL.set_ne ?_ nb2 _ _))) (first | fail)
                    all_goals (go_wp2_with fail; go_meet)
                    obtain ⟨ps', hps⟩ := Fill.move HFV.out (bl_trans HB2.out hbX) hjl (HOA.out.below hbX) (HOB.out.below hbX) HAP.out HVAL.out.1 HVAL.out.2 (by omega)
                    refine ⟨⟨ps', hps.below (bl_drew (bl_refl _))⟩, cell_later (bl_drew (bl_refl _)) ?_⟩
                    have qg : g ≠ wq.heap.size := by have := (HGq.out g rfl).2; omega
                    have qb : w.heap.size ≠ wq.heap.size := by omega
                    rw [World.cell?_setCell_other _ _ _ _ (fun e => qb (by injection e)), World.cell?_setCell_other _ _ _ _ (fun e => qb (by injection e)), World.cell?_setCell_other _ _ _ _ (fun e => qg (by injection e)), World.cell?_setCell_other _ _ _ _ (fun e => qg (by injection e))]
                    exact z3
                  case rest =>
                    obtain ⟨⟨ps3, hF3⟩, z4⟩ := hcut
                    have HF3 := Lib.hid hF3
                    clear hF3 b80 b81 f80 f81 b90 b91 f90 f91 bx0 bx1 fx0 fx1 r0 r1 f0 f1 z3
                    go_wp2
                    go_roundw
                    case rel => exact ⟨j + 1, r.2.1, rest2.set j r.1, left - nn, B3, d3, ps3, by omega, by go_num, rfl, by omega, by omega, HS.out, HF3.out, z4⟩
                    case measure => simp [intOf]; omega
            · obtain rfl : i = j := by omega
              have HI : Hid (innerF t.Name (x, rest, t.Count) rest.length = some (x2, rest2, left)) := by rw [Hid, HF.out.ln]; exact hinn.out
              have BR := HBR.out.only HF2.out.of HRR.out
              have hkX := bl_only hkY HF2.out.of HFL.out
              have hwF2 := HF2.out.of.size
              by_cases hgt : 0 < left
              · have HZ : Hid (fillF ⟨s, xs⟩ wanted others = noL) := by
                  have h2 : outerF ms (⟨s, xs⟩, others) (k + 1) = none := by rw [outerF_succ hout.out, ← HTE.out]; exact kindF_left (p := (x, rest)) (q := (x2, rest2, left)) HI.out hgt
                  have e : moreL false (⟨s, xs⟩ : Load).Things wanted = ms := HME.out.symm
                  exact fillF_none (by rw [e]; exact h2) (by rw [e]; omega)
                obtain ⟨br0, br1, fr0, fr1⟩ := id BR
                go_wp2
                refine bodyPost_ret (by simp [results, Try.results41, go_sem, br0, br1]; try rfl) rfl ?_
                exact retFill_no HZ.out (by repeat' (first | with_reducible exact hkX | refine bl_set ?_ (by simp only []; omega) _))
              · have HK : Hid (outerF ms (⟨s, xs⟩, others) (k + 1) = some (x2, rest2)) := by rw [Hid, outerF_succ hout.out, ← HTE.out]; exact kindF_some (p := (x, rest)) (q := (x2, rest2, left)) HI.out hgt
                clear BR
                go_wp2
                go_roundw
                case rel => exact ⟨k + 1, x2, rest2, A2, c2, ps2, by omega, by go_num, HK.out, HF2.out⟩
                case measure => simp [intOf]; omega
        · obtain rfl : k = ms.length := by omega
          have HZ : Hid (fillF ⟨s, xs⟩ wanted others = (x, rest, true)) := by
            have e : moreL false (⟨s, xs⟩ : Load).Things wanted = ms := HME.out.symm
            exact fillF_some (by rw [e]; exact hout.out)
          have BR := HBR.out.only HF.out.of HRR.out
          have hkX := bl_only hkY HF.out.of HFL.out
          obtain ⟨br0, br1, fr0, fr1⟩ := id BR
          obtain ⟨bx0, bx1, fx0, fx1⟩ := id HF.out.xb
          have hlies := HF.out.op.lies
          have HLI := Lib.hid hlies
          have HLI := Lib.hid HF.out.op.lies
          go_wp2
          refine bodyPost_ret (v := .tuple #[.agg #[.string x.Appliance, .slice A1 x.Things.length c1], .slice A' i c', .bool true]) (by simp [results, Try.results41, go_sem, br0, br1]; try rfl) rfl ?_
          refine retFill_mk HZ.out (Own.mono (base := w.heap.size + 2) (Own.set (Own.set HF.out.ox (by omega) _) (by omega) _) (by omega)) (OwnP.mono (base := w.heap.size + 2) (HF.out.op.only (OnlyF.set (OnlyF.set (OnlyF.refl _ _) (List.mem_singleton.2 rfl) _) (List.mem_singleton.2 rfl) _) (fun y hy hm => by have h1 := (HLI.out y hy).1; rw [List.mem_singleton.1 hm] at h1; omega)) (by omega)) HF.out.pl (fun y hy => (HF.out.nx y hy).2) ?_
          repeat' (first | with_reducible exact hkX | refine bl_set ?_ (by simp only []; omega) _)

end Go.Proofs.Ytokcgjjnljflaaa
