/-
  Several texts in one. No conditions.
-/
import Derived.Test.YtokcgjjnljflaaaMvL
import Derived.Test.YtokcgjjnljflaaaMvP2
import Derived.Test.YtokcgjjnljflaaaOpL
import Derived.Test.YtokcgjjnljflaaaMem3
import Derived.Test.YtokcgjjnljflaaaLoadN
import Derived.Test.YtokcgjjnljflaaaMvN2
namespace Go.Proofs.Ytokcgjjnljflaaa
open Go.RowKit

theorem OwnX.capm {R α X : Type} [Flat R] [Flat α] [Deep X] {N : Nest R α X} {w : World} {base : Nat} {E E' : TypeId} {A : Option Addr} {n c : Nat} {xs : List X} {F : List Nat} (h : OwnX N w base E E' (.slice A n c) xs F) : (c : Int) ≤ 9223372036854775807 := by
  obtain ⟨ps, _, _, h3⟩ := h
  have := h3.out.cap.2
  unfold maxLen at this; omega
set_option maxRecDepth 100000 in
set_option maxHeartbeats 8000000 in
theorem implCanFill_any (s : ByteArray) (xs wanted : List Thing) (others : List Load) (A B O : Option Addr) (n c m d p q : Nat) (w : World) (hz : s.size ≤ maxLen) (hn : n ≤ 1048576) (hm : m ≤ 1048576) (hp : p ≤ 1048576) (hq : p ≤ q) (hqm : (q : Int) ≤ 9223372036854775807) (hs : Sl w A n xs) (ht : Sl w B m wanted) (hrs : Sl w O p others) (hvx : ∀ x, x ∈ xs → x.Name.size ≤ maxLen) (hvw : ∀ x, x ∈ wanted → x.Name.size ≤ maxLen) (hvo : ∀ x, x ∈ others → x.Appliance.size ≤ maxLen ∧ ∀ y, y ∈ x.Things → y.Name.size ≤ maxLen) :
    Calls Try.prog 18 #[.agg #[.string s, .slice A n c], .slice B m d, .slice O p q] w fun e w' => e = .returned (.tuple #[.bool (canF ⟨s, xs⟩ wanted others).1, .bool (canF ⟨s, xs⟩ wanted others).2]) ∧ Below w.heap.size w w' := by
  have HL := Lib.hid hs.1
  have HM := Lib.hid ht.1
  have HO := Lib.hid hrs.1
  have HVX := Lib.hid hvx
  have HVW := Lib.hid hvw
  have HVO := Lib.hid hvo
  clear hvx hvw hvo
  go_enter Try.func18, Try.ntmps18
  go_wp2_with fail
  refine (isLd_any s xs A n c _ hz (by omega) (hs.below (by repeat' (first | assumption | exact bl_refl _ | refine bl_alloc ?_ _ | refine bl_drew ?_ | refine bl_set ?_ (by simp only []; omega) _))) HVX.out).mono ?_
  rintro e V0 ⟨rfl, hb0⟩
  have BP : BoxL V0 w.heap.size s A n c := BoxL.below ⟨by go_simp, by go_simp, by go_simp, by go_simp⟩ hb0
  have hk0 : Below w.heap.size w V0 := bl_trans (by repeat' (first | assumption | exact bl_refl _ | refine bl_alloc ?_ _ | refine bl_drew ?_ | refine bl_set ?_ (by simp only []; omega) _)) hb0
  clear hb0
  obtain ⟨bp0, bp1, fp0, fp1⟩ := id BP
  cases h1 : loadB s xs
  · have HN : Hid (okFill ⟨s, xs⟩ wanted others = false) := okF1 h1
    have HZ : Hid (fillT ⟨s, xs⟩ wanted others = noL) := fillT_no HN.out
    clear h1
    go_wp2
    go_ret2
    exact ⟨ret_bbc (by rw [canF_no HN.out]) (by rw [canF_no HN.out]), hk0⟩
  have H1 := Lib.hid h1
  clear h1
  go_wp2_with fail
  refine (areThings_any wanted B m d _ (by omega) (ht.below hk0) HVW.out).mono ?_
  rintro e V1 ⟨rfl, hb1⟩
  have BP := BP.below hb1
  have hk1 := bl_trans hk0 hb1
  clear hb1 hk0 bp0 bp1 fp0 fp1
  obtain ⟨bp0, bp1, fp0, fp1⟩ := id BP
  cases h2 : thingsB wanted
  · have HN : Hid (okFill ⟨s, xs⟩ wanted others = false) := okF2 h2
    have HZ : Hid (fillT ⟨s, xs⟩ wanted others = noL) := fillT_no HN.out
    clear h2
    go_wp2
    go_ret2
    exact ⟨ret_bbc (by rw [canF_no HN.out]) (by rw [canF_no HN.out]), hk1⟩
  have H2 := Lib.hid h2
  clear h2
  go_wp2_with fail
  refine (areOthers_any s _ _ _ others O p q _ (by omega) hq hqm (hrs.below hk1) HVO.out).mono ?_
  rintro e V2 ⟨rfl, hb2⟩
  have BP := BP.below hb2
  have hk2 := bl_trans hk1 hb2
  clear hb2 hk1 bp0 bp1 fp0 fp1
  obtain ⟨bp0, bp1, fp0, fp1⟩ := id BP
  cases h3 : othersB s others
  · have HN : Hid (okFill ⟨s, xs⟩ wanted others = false) := okF3 h3
    have HZ : Hid (fillT ⟨s, xs⟩ wanted others = noL) := fillT_no HN.out
    clear h3
    go_wp2
    go_ret2
    exact ⟨ret_bbc (by rw [canF_no HN.out]) (by rw [canF_no HN.out]), hk2⟩
  have H3 := Lib.hid h3
  have HN : Hid (okFill ⟨s, xs⟩ wanted others = true) := by unfold okFill; rw [show loadB (⟨s, xs⟩ : Load).Appliance (⟨s, xs⟩ : Load).Things = true from H1.out, H2.out, show othersB (⟨s, xs⟩ : Load).Appliance others = true from h3]; rfl
  have HR : Hid (AllL others) := fun k hk => okOt_load (othersB_at h3 hk)
  have HTT : Hid (fillT ⟨s, xs⟩ wanted others = fillF ⟨s, xs⟩ wanted others) := fillT_yes HN.out
  have hp6 : p ≤ 6 := by have := othersB_len h3; have := HO.out; omega
  clear h3
  go_wp2_with fail
  refine (implFill_any s xs wanted others A B O n c m d p q _ H1.out H2.out HR.out hp6 (hs.below hk2) (ht.below hk2) (hrs.below hk2)).mono ?_
  rintro e V3 ⟨A2, c2, B2, d2, F, rfl, ho, hx, hap, hb3⟩
  rw [← HTT.out] at ho hx hap ⊢
  have hk3 := bl_trans hk2 hb3
  have hz3 := hk2.size
  clear ho hx hap
  go_wp2
  go_ret2
  exact ⟨ret_bbc rfl HN.out.symm, by repeat' (first | with_reducible exact hk3 | refine bl_alloc ?_ _ | refine bl_set ?_ (by simp only []; omega) _)⟩
theorem okFill_yes {x : Load} {wanted : List Thing} {others : List Load} (h : loadsB 7 (x :: others) = true) (h' : thingsB wanted = true) : okFill x wanted others = true := by
  rw [loadsB_cons] at h
  obtain ⟨h1, h2⟩ := (Bool.and_eq_true _ _).mp h
  unfold okFill
  rw [h1, h2, h']; rfl
set_option maxRecDepth 100000 in
set_option maxHeartbeats 8000000 in
theorem specCanFill_any (s : ByteArray) (xs wanted : List Thing) (others : List Load) (A B O : Option Addr) (n c m d p q : Nat) (w : World) (hz : s.size ≤ maxLen) (hn : n ≤ 1048576) (hm : m ≤ 1048576) (hp : p ≤ 1048576) (hs : Sl w A n xs) (ht : Sl w B m wanted) (hrs : Sl w O p others) (hvx : ∀ x, x ∈ xs → x.Name.size ≤ maxLen) (hvw : ∀ x, x ∈ wanted → x.Name.size ≤ maxLen) (hvo : ∀ x, x ∈ others → x.Appliance.size ≤ maxLen ∧ ∀ y, y ∈ x.Things → y.Name.size ≤ maxLen) :
    Calls Try.prog 15 #[.agg #[.string s, .slice A n c], .slice B m d, .slice O p q] w fun e w' => e = .returned (.tuple #[.bool (canF ⟨s, xs⟩ wanted others).1, .bool (canF ⟨s, xs⟩ wanted others).2]) ∧ Below w.heap.size w w' := by
  have HL := Lib.hid hs.1
  have HM := Lib.hid ht.1
  have HO := Lib.hid hrs.1
  have HVX := Lib.hid hvx
  have HVW := Lib.hid hvw
  have HVO := Lib.hid hvo
  clear hvx hvw hvo
  go_enter Try.func15, Try.ntmps15
  go_wp2_with fail
  refine (eqGood_any wanted B m d _ (by omega) (ht.below (by repeat' (first | assumption | exact bl_refl _ | refine bl_alloc ?_ _ | refine bl_drew ?_ | refine bl_set ?_ (by simp only []; omega) _))) HVW.out).mono ?_
  rintro e V0 ⟨rfl, hb0⟩
  have BP : BoxL V0 w.heap.size s A n c := BoxL.below ⟨by go_simp, by go_simp, by go_simp, by go_simp⟩ hb0
  have hk0 : Below w.heap.size w V0 := bl_trans (by repeat' (first | assumption | exact bl_refl _ | refine bl_alloc ?_ _ | refine bl_drew ?_ | refine bl_set ?_ (by simp only []; omega) _)) hb0
  clear hb0
  have BP0 := BP
  obtain ⟨bp0, bp1, fp0, fp1⟩ := id BP
  cases h1 : thingsB wanted
  · have HN : Hid (okFill ⟨s, xs⟩ wanted others = false) := okF2 h1
    clear h1
    go_wp2
    go_ret2
    exact ⟨ret_bbc (by rw [canF_no HN.out]) (by rw [canF_no HN.out]), hk0⟩
  have HWT := Lib.hid h1
  clear h1
  by_cases h6 : 6 < p
  · have h6' : decide ((6 : Int) < (p : Int)) = true := by simp; omega
    have h6'' : decide ((p : Int) > 6) = true := by simp; omega
    have HN : Hid (okFill ⟨s, xs⟩ wanted others = false) := okF3 (by unfold othersB; rw [decide_eq_false (by rw [HO.out]; omega : ¬ ((others.length : Int) ≤ 6))]; simp)
    go_wp2
    go_ret2
    exact ⟨ret_bbc (by rw [canF_no HN.out]) (by rw [canF_no HN.out]), hk0⟩
  have h6' : decide ((6 : Int) < (p : Int)) = false := by simp; omega
  have h6'' : decide ((p : Int) > 6) = false := by simp; omega
  obtain ⟨rs, hrr, hro⟩ := hrs.rows
  obtain ⟨A9, c9, W1, hrun, ho9, hg9⟩ := run_appN (P := Try.prog) 41 41 28 el_load (d := q) (Own.lit1 V0 28 (⟨s, A, n, c⟩ : LoadR)) (by simp) (hrr.below (bl_trans hk0 (bl_alloc (bl_refl _) _))) (by omega)
  have hrun : (Builtin.append_ #[41, 41] 41 #[.slice (some ⟨V0.heap.size, 0, none⟩) 1 1, .slice O p q]).run Try.prog (V0.alloc (.cells #[.string s, .slice A n c] 28)) = .ok (.slice A9 (1 + p) c9) W1 := hrun
  have hb1 : Below V0.heap.size V0 W1 := bl_grown (bl_alloc (bl_refl _) _) hg9 (fun k hk => by have : V0.heap.size = k := Option.some.inj (show some V0.heap.size = some k from hk); omega)
  have hk1 := bl_trans hk0 hb1
  have hall : Sl W1 A9 (1 + p) ((⟨s, xs⟩ : Load) :: others) := Sl.of_rows ho9.sl ((hro.below hk1).cons (r := ⟨s, A, n, c⟩) (x := ⟨s, xs⟩) rfl HL.out.symm (by show Sl W1 A xs.length xs; rw [HL.out]; exact hs.below hk1) (by show xs.length ≤ maxLen; rw [HL.out]; unfold maxLen; omega))
  have HALL := Lib.hid hall
  have HC9 := Lib.hid ho9.cap
  clear hall ho9 hro hrr hg9
  have BP := BP.below hb1
  have HB1 := Lib.hid hb1
  clear hb1
  go_wp2_with ((at_builtin; refine wpList_runW (by rfl) (.tmp 21) (.tmp 22) _ rfl rfl rfl hrun ?_))
  have hvall : ∀ x, x ∈ ((⟨s, xs⟩ : Load) :: others) → x.Appliance.size ≤ maxLen ∧ ∀ y, y ∈ x.Things → y.Name.size ≤ maxLen := fun x hx => by
    rcases List.mem_cons.1 hx with rfl | hx
    · exact ⟨hz, HVX.out⟩
    · exact HVO.out x hx
  have HVA := Lib.hid hvall
  clear hvall hrun bp0 bp1 fp0 fp1
  refine (eqLoads_any ((⟨s, xs⟩ : Load) :: others) 7 A9 (1 + p) c9 _ (by omega) HC9.out.1 HALL.out HVA.out).mono ?_
  rintro e V3 ⟨rfl, hb3⟩
  have BP := BP.below hb3
  have hk3 := bl_trans hk1 hb3
  clear hb3 hk1 hk0
  cases h7 : loadsB 7 ((⟨s, xs⟩ : Load) :: others)
  · have HN : Hid (okFill ⟨s, xs⟩ wanted others = false) := okFill_no h7
    clear h7
    go_wp2
    go_ret2
    exact ⟨ret_bbc (by rw [canF_no HN.out]) (by rw [canF_no HN.out]), hk3⟩
  have HN : Hid (okFill ⟨s, xs⟩ wanted others = true) := okFill_yes h7 HWT.out
  clear h7
  obtain ⟨bp0, bp1, fp0, fp1⟩ := id BP
  go_wp2_with fail
  refine (specFillFrom_any s xs wanted others A B O n c m d p q _ hz hn hm hp (hs.below hk3) (ht.below hk3) (hrs.below hk3) HVX.out HVW.out HVO.out).mono ?_
  rintro e V4 ⟨A2, c2, B2, d2, F, rfl, ho, hx, hap, hb4⟩
  have hk4 := bl_trans hk3 hb4
  have hz4 := hk3.size
  clear ho hx hap
  go_wp2
  go_ret2
  exact ⟨ret_bbc rfl HN.out.symm, by repeat' (first | with_reducible exact hk4 | refine bl_alloc ?_ _ | refine bl_set ?_ (by simp only []; omega) _)⟩

end Go.Proofs.Ytokcgjjnljflaaa

namespace Go.Proofs.Ytokcgjjnljflaaa
open Go.RowKit

set_option maxRecDepth 100000 in
set_option maxHeartbeats 8000000 in
theorem implFillFrom_any (s : ByteArray) (xs wanted : List Thing) (others : List Load) (A B O : Option Addr) (n c m d p q : Nat) (w : World) (hz : s.size ≤ maxLen) (hn : n ≤ 1048576) (hm : m ≤ 1048576) (hp : p ≤ 1048576) (hq : p ≤ q) (hqm : (q : Int) ≤ 9223372036854775807) (hs : Sl w A n xs) (ht : Sl w B m wanted) (hrs : Sl w O p others) (hvx : ∀ x, x ∈ xs → x.Name.size ≤ maxLen) (hvw : ∀ x, x ∈ wanted → x.Name.size ≤ maxLen) (hvo : ∀ x, x ∈ others → x.Appliance.size ≤ maxLen ∧ ∀ y, y ∈ x.Things → y.Name.size ≤ maxLen) :
    Calls Try.prog 22 #[.agg #[.string s, .slice A n c], .slice B m d, .slice O p q] w (RetFill w (fillT ⟨s, xs⟩ wanted others)) := by
  have HL := Lib.hid hs.1
  have HM := Lib.hid ht.1
  have HO := Lib.hid hrs.1
  have HVX := Lib.hid hvx
  have HVW := Lib.hid hvw
  have HVO := Lib.hid hvo
  clear hvx hvw hvo
  go_enter Try.func22, Try.ntmps22
  go_wp2_with fail
  refine (isLd_any s xs A n c _ hz (by omega) (hs.below (by repeat' (first | assumption | exact bl_refl _ | refine bl_alloc ?_ _ | refine bl_drew ?_ | refine bl_set ?_ (by simp only []; omega) _))) HVX.out).mono ?_
  rintro e V0 ⟨rfl, hb0⟩
  have BP : BoxL V0 w.heap.size s A n c := BoxL.below ⟨by go_simp, by go_simp, by go_simp, by go_simp⟩ hb0
  have hk0 : Below w.heap.size w V0 := bl_trans (by repeat' (first | assumption | exact bl_refl _ | refine bl_alloc ?_ _ | refine bl_drew ?_ | refine bl_set ?_ (by simp only []; omega) _)) hb0
  have BR : BoxL V0 (w.heap.size + 1) ⟨#[]⟩ none 0 0 := BoxL.below ⟨by go_simp, by go_simp, by go_simp, by go_simp⟩ hb0
  clear hb0
  obtain ⟨bp0, bp1, fp0, fp1⟩ := id BP
  cases h1 : loadB s xs
  · have HN : Hid (okFill ⟨s, xs⟩ wanted others = false) := okF1 h1
    have HZ : Hid (fillT ⟨s, xs⟩ wanted others = noL) := fillT_no HN.out
    clear h1
    obtain ⟨br0, br1, fr0, fr1⟩ := id BR
    go_wp2
    refine bodyPost_ret (by simp [results, Try.results22, go_sem, br0, br1]; try rfl) rfl ?_
    exact retFill_no HZ.out (by repeat' (first | with_reducible exact hk0 | refine bl_set ?_ (by simp only []; omega) _))
  have H1 := Lib.hid h1
  clear h1
  go_wp2_with fail
  refine (areThings_any wanted B m d _ (by omega) (ht.below hk0) HVW.out).mono ?_
  rintro e V1 ⟨rfl, hb1⟩
  have BP := BP.below hb1
  have BR := BR.below hb1
  have hk1 := bl_trans hk0 hb1
  clear hb1 hk0 bp0 bp1 fp0 fp1
  obtain ⟨bp0, bp1, fp0, fp1⟩ := id BP
  cases h2 : thingsB wanted
  · have HN : Hid (okFill ⟨s, xs⟩ wanted others = false) := okF2 h2
    have HZ : Hid (fillT ⟨s, xs⟩ wanted others = noL) := fillT_no HN.out
    clear h2
    obtain ⟨br0, br1, fr0, fr1⟩ := id BR
    go_wp2
    refine bodyPost_ret (by simp [results, Try.results22, go_sem, br0, br1]; try rfl) rfl ?_
    exact retFill_no HZ.out (by repeat' (first | with_reducible exact hk1 | refine bl_set ?_ (by simp only []; omega) _))
  have H2 := Lib.hid h2
  clear h2
  go_wp2_with fail
  refine (areOthers_any s _ _ _ others O p q _ (by omega) hq hqm (hrs.below hk1) HVO.out).mono ?_
  rintro e V2 ⟨rfl, hb2⟩
  have BP := BP.below hb2
  have BR := BR.below hb2
  have hk2 := bl_trans hk1 hb2
  clear hb2 hk1 bp0 bp1 fp0 fp1
  obtain ⟨bp0, bp1, fp0, fp1⟩ := id BP
  cases h3 : othersB s others
  · have HN : Hid (okFill ⟨s, xs⟩ wanted others = false) := okF3 h3
    have HZ : Hid (fillT ⟨s, xs⟩ wanted others = noL) := fillT_no HN.out
    clear h3
    obtain ⟨br0, br1, fr0, fr1⟩ := id BR
    go_wp2
    refine bodyPost_ret (by simp [results, Try.results22, go_sem, br0, br1]; try rfl) rfl ?_
    exact retFill_no HZ.out (by repeat' (first | with_reducible exact hk2 | refine bl_set ?_ (by simp only []; omega) _))
  have H3 := Lib.hid h3
  have HN : Hid (okFill ⟨s, xs⟩ wanted others = true) := by unfold okFill; rw [show loadB (⟨s, xs⟩ : Load).Appliance (⟨s, xs⟩ : Load).Things = true from H1.out, H2.out, show othersB (⟨s, xs⟩ : Load).Appliance others = true from h3]; rfl
  have HR : Hid (AllL others) := fun k hk => okOt_load (othersB_at h3 hk)
  have HTT : Hid (fillT ⟨s, xs⟩ wanted others = fillF ⟨s, xs⟩ wanted others) := fillT_yes HN.out
  have hp6 : p ≤ 6 := by have := othersB_len h3; have := HO.out; omega
  clear h3
  go_wp2_with fail
  refine (implFill_any s xs wanted others A B O n c m d p q _ H1.out H2.out HR.out hp6 (hs.below hk2) (ht.below hk2) (hrs.below hk2)).mono ?_
  rintro e V3 ⟨A2, c2, B2, d2, F, rfl, ho, hx, hap, hb3⟩
  rw [← HTT.out] at ho hx hap ⊢
  have hk3 := bl_trans hk2 hb3
  have hz3 := hk2.size
  have hR2 := BR.lt
  have BR := BR.below hb3
  obtain ⟨br0, br1, fr0, fr1⟩ := id BR
  have HO3 := Lib.hid ho
  have HX3 := Lib.hid hx
  have HAP := Lib.hid hap
  have HLI := Lib.hid hx.lies
  clear ho hx hap hb3 bp0 bp1 fp0 fp1
  obtain ⟨r, hr⟩ : ∃ r, r = fillT ⟨s, xs⟩ wanted others := ⟨_, rfl⟩
  rw [← hr] at HO3 HX3 HAP ⊢
  have HRR := Lib.hid hr
  clear hr
  go_wp2
  refine ex_hideK (R := fun X => Below w.heap.size w X ∧ BoxL X (w.heap.size + 1) r.1.Appliance A2 r.1.Things.length c2 ∧ Own X V2.heap.size 59 (.slice A2 r.1.Things.length c2) r.1.Things ∧ OwnX loadN X V2.heap.size 28 59 (.slice B2 r.2.1.length d2) r.2.1 F) ⟨?_, ?_, ?_, ?_⟩ (fun X hX => ?_)
  · repeat' (first | with_reducible exact hk3 | refine bl_set ?_ (by simp only []; omega) _)
  · exact BR.put _ _ _ _
  · exact Own.set (Own.set HO3.out (by omega) _) (by omega) _
  · exact HX3.out.only (OnlyF.set (OnlyF.set (OnlyF.refl _ _) (List.mem_singleton.2 rfl) _) (List.mem_singleton.2 rfl) _) (fun y hy hm => by have h1 := (HLI.out y hy).1; rw [List.mem_singleton.1 hm] at h1; omega)
  obtain ⟨hWX, BRX, hoX, hxX⟩ := hX
  clear br0 br1 fr0 fr1
  obtain ⟨br0, br1, fr0, fr1⟩ := BRX
  refine bodyPost_ret (v := .tuple #[.agg #[.string r.1.Appliance, .slice A2 r.1.Things.length c2], .slice B2 r.2.1.length d2, .bool r.2.2]) (by simp [results, Try.results22, go_sem, br0, br1]; try rfl) rfl ?_
  rw [← HRR.out]
  exact ⟨A2, c2, B2, d2, F, rfl, hoX.mono (by omega), hxX.mono (by omega), HAP.out, hWX⟩

end Go.Proofs.Ytokcgjjnljflaaa

namespace Go.Proofs.Ytokcgjjnljflaaa
open Go.RowKit

/-- What a mark of a list handed in leaves. -/
def MarkPost (w : World) (F : List Nat) (bound : Int) (e : Ending) (w' : World) : Prop := ∃ r : Int, e = .returned (.int .i64 r) ∧ 0 ≤ r ∧ r ≤ bound ∧ OnlyF F w w'
theorem nth_set_self {α : Type} [Inhabited α] {L : List α} {i : Nat} {y : α} (h : i < L.length) : nth (L.set i y) i = y := nth_get (by rw [List.getElem?_set_self h])
theorem sum_take_le (L : List Nat) (i : Nat) : (L.take i).sum ≤ L.sum := by
  conv => rhs; rw [← List.take_append_drop i L, List.sum_append]
  omega
set_option maxHeartbeats 4000000 in
theorem markLoadS_args (A : Option Addr) (n c base : Nat) (k : Int) (xs : List Load) (F : List Nat) (w : World) (hk0 : 0 ≤ k) (hk1 : k ≤ 4194304) (hsum : (n : Int) + sumLoad xs ≤ 1048576) (ho : OwnX loadN w base 28 59 (.slice A n c) xs F) :
    Calls Try.prog 24 #[.slice A n c, .int .i64 k] w (MarkPost w F 12582912) := by
  obtain ⟨ps, hp, hF, h⟩ := ho
  have hps : (ps.map fun p => p.2.length).sum = sumLoad xs := by
    rw [← hp]; unfold sumLoad Nest.plain; rw [List.map_map]; rfl
  obtain ⟨ls, hls⟩ : ∃ ls, ls = ps.map fun p => p.2.length := ⟨_, rfl⟩
  rw [← hls] at hps
  have HPS := Lib.hid hps
  have HSUM := Lib.hid hsum
  have HFF := Lib.hid hF
  have hn : n ≤ 1048576 := by omega
  have HLS := Lib.hid hls.symm
  clear hps hsum hls hp hF
  go_enter Try.func24, Try.ntmps24
  go_wp2
  go_loopw [1, 5] (fun u v wr => ∃ (i : Nat) (m : Int) (qs : List (LoadR × List Thing)), i ≤ n ∧ v = .int .i64 i ∧ u = .int .i64 m ∧ 0 ≤ m ∧ m ≤ 12582912 ∧ Hid (m = k + 1 * (i : Int) + 3 * ((ls.take i).sum : Nat)) ∧ OwnP loadN wr base 28 59 (.slice A n c) qs ∧ Hid (qs.map (fun p => p.2.length) = ls) ∧ Hid (loadN.foot (.slice A n c) qs = F) ∧ OnlyF F w wr) (fun _ v _ => n - (intOf v).toNat)
  case atStart => exact ⟨0, k, ps, Nat.zero_le _, rfl, rfl, hk0, by omega, by rw [Hid]; simp, h, HLS, HFF, OnlyF.refl _ _⟩
  case round =>
    obtain ⟨i, m, qs, hi, rfl, rfl, hm0, hm1, hm, hq, hlq, hfq, hof⟩ := hrel
    by_cases hlt : i < n
    · obtain ⟨g, rfl⟩ := hq.out.form (by omega)
      go_wp2_with fail
      refine (markText_any m _ hm0 (by omega)).mono ?_
      rintro _ W0 ⟨rfl, hbT⟩
      have hq := hq.below hbT
      have hof := hof.trans (.below hbT)
      clear hbT
      obtain ⟨wr, hwr⟩ : ∃ V, V = W0 := ⟨_, rfl⟩
      subst hwr
      have hql : i < qs.length := by rw [hq.len]; exact hlt
      obtain ⟨p, hpq⟩ : ∃ p, qs[i]? = some p := ⟨_, List.getElem?_eq_getElem hql⟩
      have e : nth (qs.map Prod.fst) i = p.1 := nth_get (by rw [List.getElem?_map, hpq]; rfl)
      have hin := hq.inn i p hpq
      have hpn : p.2.length = p.1.n := hin.sl.1
      have hsl : ls[i]? = some p.2.length := by rw [← hlq.out, List.getElem?_map, hpq]; rfl
      have hstep : (ls.take (i + 1)).sum = (ls.take i).sum + p.1.n := by rw [List.take_add_one, hsl, List.sum_append, hpn]; simp
      have hle := sum_take_le ls (i + 1)
      have hbnd : (i : Int) + (ls.take (i + 1)).sum ≤ 1048576 := by have := HSUM.out; have := HPS.out; omega
      have hm2 : m + 1 + 3 * p.1.n ≤ 12582912 := by have := hm.out; omega
      have hpnn : p.1.n ≤ 1048576 := by omega
      have Hstep := Lib.hid hstep
      have hsep : ∀ y, (.slice p.1.A p.1.n p.1.c : Value).ownBlock = some y → y ≠ g := fun y hy hyg => hq.sep (k := g) rfl hpq (by rw [← hyg]; exact hy)
      have Hsep := Lib.hid hsep
      have hgz : g < wr.heap.size := (hq.out.lt g rfl).2
      have d0 : wr.cell? ⟨g, i * 2, none⟩ = some (.string (p.1.Appliance)) := by have h0 := hq.out.cellAt hlt 0 _ rfl; rw [e] at h0; exact h0
      have f0 := hq.out.frozenAt (i * 2)
      have d1 : wr.cell? ⟨g, i * 2 + 1, none⟩ = some (.slice p.1.A p.1.n p.1.c) := by have h0 := hq.out.cellAt hlt 1 _ rfl; rw [e] at h0; exact h0
      have f1 := hq.out.frozenAt (i * 2 + 1)
      have HQ := Lib.hid hq
      have Hin := Lib.hid hin
      have Hpq := Lib.hid hpq
      have He := Lib.hid e
      have Hlq2 := Lib.hid hpn
      clear hq hin hpq e hsep hstep hle hbnd hsl hpn
      go_wp2_with fail
      have hf1 : OnlyF [g] wr (wr.setCell ⟨g, i * 2, none⟩ (.string (mkT (m)))) := by repeat' (first | with_reducible exact OnlyF.refl _ _ | with_reducible refine OnlyF.set ?_ (List.mem_singleton.2 rfl) _)
      refine (markThingS_any p.1.A p.1.n p.1.c base (m + 1) p.2 _ hpnn (by omega) (by omega) (Own.only Hin.out hf1 (fun y hy hm => Hsep.out y (by simpa using hy) (List.mem_singleton.1 hm)))).mono ?_
      rintro e V ⟨rfl, ho2, hg2⟩
      have hf2 := OnlyF.of_gb hg2
      go_wp2
      go_roundw
      case rel =>
        have hlen : (qs.map Prod.fst).length = n := by rw [List.length_map, HQ.out.len]
        have h1 : Own (wr.setCell ⟨g, i * 2, none⟩ (.string (mkT (m)))) base 28 (.slice (some ⟨g, 0, none⟩) n c) ((qs.map Prod.fst).set i (⟨(mkT (m)), p.1.A, p.1.n, p.1.c⟩ : LoadR)) := by
          have hh := (HQ.out.out).put1 hlt 0 (by decide) (y := (⟨(mkT (m)), p.1.A, p.1.n, p.1.c⟩ : LoadR)) (v := .string (mkT (m))) (by rw [He.out]; rfl)
          exact hh
        have hn2 : g ∈ F := by rw [← hfq.out]; exact Nest.mem_foot _ |>.2 (.inl rfl)
        have hn3 : ∀ y, (.slice p.1.A p.1.n p.1.c : Value).ownBlock = some y → y ∈ F := fun y hy => by rw [← hfq.out]; exact Nest.mem_foot _ |>.2 (.inr ⟨i, p, Hpq.out, hy⟩)
        have hF2 : OnlyF (g :: (.slice p.1.A p.1.n p.1.c : Value).ownBlock.toList) wr V := (hf1.mono (fun y hy => by rw [List.mem_singleton.1 hy]; exact List.mem_cons_self)).trans (hf2.mono (fun y hy => List.mem_cons_of_mem _ hy))
        have hown : Own V base 28 (.slice (some ⟨g, 0, none⟩) n c) ((qs.map Prod.fst).set i (⟨(mkT (m)), p.1.A, p.1.n, p.1.c⟩ : LoadR)) := by
          refine Own.only h1 hf2 (fun y hy hm => ?_)
          have hy' : y = g := by simpa [Value.ownBlock] using hy
          exact Hsep.out y (by simpa using hm) hy'
        have hup := HQ.out.upd (p' := ((⟨(mkT (m)), p.1.A, p.1.n, p.1.c⟩ : LoadR), marks mkThing 3 (m + 1) p.1.n)) Hpq.out hown ho2 (fun y hy => .inl hy) hF2
        refine ⟨i + 1, m + 1 + 3 * p.1.n, qs.set i ((⟨(mkT (m)), p.1.A, p.1.n, p.1.c⟩ : LoadR), marks mkThing 3 (m + 1) p.1.n), by omega, by go_num, rfl, by omega, by omega, ?_, hup, ?_, ?_, hof.trans (hF2.mono (fun y hy => ?_))⟩
        · have h1 := hm.out
          have h2 := Hstep.out
          rw [Hid, h2]; omega
        · rw [Hid, List.map_set, marks_len, ← hlq.out]
          apply List.ext_getElem?
          intro j
          rw [List.getElem?_set]
          by_cases hj : i = j
          · subst hj; rw [if_pos rfl, if_pos (by rw [List.length_map]; exact hql), List.getElem?_map, Hpq.out, ← Hlq2.out]; rfl
          · rw [if_neg hj]
        · rw [Hid, ← hfq.out]; unfold Nest.foot; congr 1
          rw [List.flatMap_def, List.flatMap_def, List.map_set]
          congr 1
          apply List.ext_getElem?
          intro j
          rw [List.getElem?_set]
          by_cases hj : i = j
          · subst hj; rw [if_pos rfl, if_pos (by rw [List.length_map]; exact hql), List.getElem?_map, Hpq.out]; rfl
          · rw [if_neg hj]
        · rcases List.mem_cons.1 hy with rfl | hy
          · exact hn2
          · exact hn3 y (by simpa using hy)
      case measure => simp [intOf]; omega
    · obtain rfl : i = n := by omega
      go_wp2
      go_ret
      exact ⟨m, rfl, hm0, hm1, hof⟩
theorem set_mix {α : Type} {L a b : List α} {i : Nat} (hL : L = a.take i ++ b.drop i) (hl : a.length = b.length) (hi : i < a.length) {x : α} (hx : a[i]? = some x) : L.set i x = a.take (i + 1) ++ b.drop (i + 1) := by
  subst hL
  rw [List.set_append_right _ _ (by rw [List.length_take]; omega), List.length_take, Nat.min_eq_left (by omega), Nat.sub_self, List.drop_eq_getElem_cons (by omega), List.set_cons_zero, List.take_add_one, hx]
  simp
/-- what a mark leaves at one -/
def mkXLoad (m : Int) (l : Nat) : Load := ⟨mkT (m), marks mkThing 3 (m + 1) l⟩
def marksLoadS (k : Int) (ls : List Nat) : List Load := (List.range ls.length).map fun j : Nat => mkXLoad (k + 1 * (j : Int) + 3 * ((ls.take j).sum : Nat)) (nth ls j)
theorem marksLoadS_len (k : Int) (ls : List Nat) : (marksLoadS k ls).length = ls.length := by simp [marksLoadS]
theorem marksLoadS_get (k : Int) (ls : List Nat) {j : Nat} (h : j < ls.length) : (marksLoadS k ls)[j]? = some (mkXLoad (k + 1 * (j : Int) + 3 * ((ls.take j).sum : Nat)) (nth ls j)) := by simp [marksLoadS, h]
set_option maxHeartbeats 4000000 in
theorem markLoadS_any (A : Option Addr) (n c base : Nat) (k : Int) (xs : List Load) (F : List Nat) (w : World) (hk0 : 0 ≤ k) (hk1 : k ≤ 4194304) (hsum : (n : Int) + sumLoad xs ≤ 1048576) (ho : OwnX loadN w base 28 59 (.slice A n c) xs F) :
    Calls Try.prog 24 #[.slice A n c, .int .i64 k] w fun e w' => e = .returned (.int .i64 (k + 1 * n + 3 * (sumLoad xs : Nat))) ∧ OwnX loadN w' base 28 59 (.slice A n c) (marksLoadS k (xs.map fun x => x.Things.length)) F ∧ OnlyF F w w' := by
  obtain ⟨ps, hp, hF, h⟩ := ho
  have HP0 := Lib.hid hp
  have hps : (ps.map fun p => p.2.length).sum = sumLoad xs := by
    rw [← hp]; unfold sumLoad Nest.plain; rw [List.map_map]; rfl
  obtain ⟨ls, hls⟩ : ∃ ls, ls = ps.map fun p => p.2.length := ⟨_, rfl⟩
  rw [← hls] at hps
  have HLX : Hid (xs.map (fun x => x.Things.length) = ls) := by rw [Hid, hls, ← hp]; unfold Nest.plain; rw [List.map_map]; rfl
  have HPS := Lib.hid hps
  have HSUM := Lib.hid hsum
  have HFF := Lib.hid hF
  have hn : n ≤ 1048576 := by omega
  have HLS := Lib.hid hls.symm
  clear hps hsum hls hp hF
  go_enter Try.func24, Try.ntmps24
  go_wp2
  go_loopw [1, 5] (fun u v wr => ∃ (i : Nat) (m : Int) (qs : List (LoadR × List Thing)), i ≤ n ∧ v = .int .i64 i ∧ u = .int .i64 m ∧ 0 ≤ m ∧ m ≤ 12582912 ∧ Hid (m = k + 1 * (i : Int) + 3 * ((ls.take i).sum : Nat)) ∧ OwnP loadN wr base 28 59 (.slice A n c) qs ∧ Hid (qs.map (fun p => p.2.length) = ls) ∧ Hid (loadN.foot (.slice A n c) qs = F) ∧ OnlyF F w wr ∧ Hid (loadN.plain qs = (marksLoadS k ls).take i ++ xs.drop i)) (fun _ v _ => n - (intOf v).toNat)
  case atStart => exact ⟨0, k, ps, Nat.zero_le _, rfl, rfl, hk0, by omega, by rw [Hid]; simp, h, HLS, HFF, OnlyF.refl _ _, by rw [Hid, HP0.out]; simp⟩
  case round =>
    obtain ⟨i, m, qs, hi, rfl, rfl, hm0, hm1, hm, hq, hlq, hfq, hof, hpl⟩ := hrel
    by_cases hlt : i < n
    · obtain ⟨g, rfl⟩ := hq.out.form (by omega)
      go_wp2_with fail
      refine (markText_any m _ hm0 (by omega)).mono ?_
      rintro _ W0 ⟨rfl, hbT⟩
      have hq := hq.below hbT
      have hof := hof.trans (.below hbT)
      clear hbT
      obtain ⟨wr, hwr⟩ : ∃ V, V = W0 := ⟨_, rfl⟩
      subst hwr
      have hql : i < qs.length := by rw [hq.len]; exact hlt
      obtain ⟨p, hpq⟩ : ∃ p, qs[i]? = some p := ⟨_, List.getElem?_eq_getElem hql⟩
      have e : nth (qs.map Prod.fst) i = p.1 := nth_get (by rw [List.getElem?_map, hpq]; rfl)
      have hin := hq.inn i p hpq
      have hpn : p.2.length = p.1.n := hin.sl.1
      have hsl : ls[i]? = some p.2.length := by rw [← hlq.out, List.getElem?_map, hpq]; rfl
      have hstep : (ls.take (i + 1)).sum = (ls.take i).sum + p.1.n := by rw [List.take_add_one, hsl, List.sum_append, hpn]; simp
      have hle := sum_take_le ls (i + 1)
      have hbnd : (i : Int) + (ls.take (i + 1)).sum ≤ 1048576 := by have := HSUM.out; have := HPS.out; omega
      have hm2 : m + 1 + 3 * p.1.n ≤ 12582912 := by have := hm.out; omega
      have hpnn : p.1.n ≤ 1048576 := by omega
      have Hstep := Lib.hid hstep
      have hsep : ∀ y, (.slice p.1.A p.1.n p.1.c : Value).ownBlock = some y → y ≠ g := fun y hy hyg => hq.sep (k := g) rfl hpq (by rw [← hyg]; exact hy)
      have Hsep := Lib.hid hsep
      have hgz : g < wr.heap.size := (hq.out.lt g rfl).2
      have d0 : wr.cell? ⟨g, i * 2, none⟩ = some (.string (p.1.Appliance)) := by have h0 := hq.out.cellAt hlt 0 _ rfl; rw [e] at h0; exact h0
      have f0 := hq.out.frozenAt (i * 2)
      have d1 : wr.cell? ⟨g, i * 2 + 1, none⟩ = some (.slice p.1.A p.1.n p.1.c) := by have h0 := hq.out.cellAt hlt 1 _ rfl; rw [e] at h0; exact h0
      have f1 := hq.out.frozenAt (i * 2 + 1)
      have HQ := Lib.hid hq
      have Hin := Lib.hid hin
      have Hpq := Lib.hid hpq
      have He := Lib.hid e
      have Hlq2 := Lib.hid hpn
      clear hq hin hpq e hsep hstep hle hbnd hsl hpn
      go_wp2_with fail
      have hf1 : OnlyF [g] wr (wr.setCell ⟨g, i * 2, none⟩ (.string (mkT (m)))) := by repeat' (first | with_reducible exact OnlyF.refl _ _ | with_reducible refine OnlyF.set ?_ (List.mem_singleton.2 rfl) _)
      refine (markThingS_any p.1.A p.1.n p.1.c base (m + 1) p.2 _ hpnn (by omega) (by omega) (Own.only Hin.out hf1 (fun y hy hm => Hsep.out y (by simpa using hy) (List.mem_singleton.1 hm)))).mono ?_
      rintro e V ⟨rfl, ho2, hg2⟩
      have hf2 := OnlyF.of_gb hg2
      go_wp2
      go_roundw
      case rel =>
        have hlen : (qs.map Prod.fst).length = n := by rw [List.length_map, HQ.out.len]
        have h1 : Own (wr.setCell ⟨g, i * 2, none⟩ (.string (mkT (m)))) base 28 (.slice (some ⟨g, 0, none⟩) n c) ((qs.map Prod.fst).set i (⟨(mkT (m)), p.1.A, p.1.n, p.1.c⟩ : LoadR)) := by
          have hh := (HQ.out.out).put1 hlt 0 (by decide) (y := (⟨(mkT (m)), p.1.A, p.1.n, p.1.c⟩ : LoadR)) (v := .string (mkT (m))) (by rw [He.out]; rfl)
          exact hh
        have hn2 : g ∈ F := by rw [← hfq.out]; exact Nest.mem_foot _ |>.2 (.inl rfl)
        have hn3 : ∀ y, (.slice p.1.A p.1.n p.1.c : Value).ownBlock = some y → y ∈ F := fun y hy => by rw [← hfq.out]; exact Nest.mem_foot _ |>.2 (.inr ⟨i, p, Hpq.out, hy⟩)
        have hF2 : OnlyF (g :: (.slice p.1.A p.1.n p.1.c : Value).ownBlock.toList) wr V := (hf1.mono (fun y hy => by rw [List.mem_singleton.1 hy]; exact List.mem_cons_self)).trans (hf2.mono (fun y hy => List.mem_cons_of_mem _ hy))
        have hown : Own V base 28 (.slice (some ⟨g, 0, none⟩) n c) ((qs.map Prod.fst).set i (⟨(mkT (m)), p.1.A, p.1.n, p.1.c⟩ : LoadR)) := by
          refine Own.only h1 hf2 (fun y hy hm => ?_)
          have hy' : y = g := by simpa [Value.ownBlock] using hy
          exact Hsep.out y (by simpa using hm) hy'
        have hup := HQ.out.upd (p' := ((⟨(mkT (m)), p.1.A, p.1.n, p.1.c⟩ : LoadR), marks mkThing 3 (m + 1) p.1.n)) Hpq.out hown ho2 (fun y hy => .inl hy) hF2
        refine ⟨i + 1, m + 1 + 3 * p.1.n, qs.set i ((⟨(mkT (m)), p.1.A, p.1.n, p.1.c⟩ : LoadR), marks mkThing 3 (m + 1) p.1.n), by omega, by go_num, rfl, by omega, by omega, ?_, hup, ?_, ?_, hof.trans (hF2.mono (fun y hy => ?_)), ?_⟩
        · have h1 := hm.out
          have h2 := Hstep.out
          rw [Hid, h2]; omega
        · rw [Hid, List.map_set, marks_len, ← hlq.out]
          apply List.ext_getElem?
          intro j
          rw [List.getElem?_set]
          by_cases hj : i = j
          · subst hj; rw [if_pos rfl, if_pos (by rw [List.length_map]; exact hql), List.getElem?_map, Hpq.out, ← Hlq2.out]; rfl
          · rw [if_neg hj]
        · rw [Hid, ← hfq.out]; unfold Nest.foot; congr 1
          rw [List.flatMap_def, List.flatMap_def, List.map_set]
          congr 1
          apply List.ext_getElem?
          intro j
          rw [List.getElem?_set]
          by_cases hj : i = j
          · subst hj; rw [if_pos rfl, if_pos (by rw [List.length_map]; exact hql), List.getElem?_map, Hpq.out]; rfl
          · rw [if_neg hj]
        · rcases List.mem_cons.1 hy with rfl | hy
          · exact hn2
          · exact hn3 y (by simpa using hy)
        · have hll : ls.length = n := by rw [← hlq.out, List.length_map, HQ.out.len]
          have hnl : nth ls i = p.1.n := by rw [← Hlq2.out]; exact nth_get (by rw [← hlq.out, List.getElem?_map, Hpq.out]; rfl)
          have hxl : xs.length = n := by rw [← hll, ← HLX.out, List.length_map]
          rw [Hid]; unfold Nest.plain at hpl ⊢
          rw [List.map_set]
          refine set_mix hpl.out (by rw [marksLoadS_len, hll, hxl]) (by rw [marksLoadS_len, hll]; exact hlt) ?_
          rw [marksLoadS_get _ _ (by rw [hll]; exact hlt), hnl, ← hm.out]
          rfl
      case measure => simp [intOf]; omega
    · obtain rfl : i = n := by omega
      go_wp2
      go_ret
      have hll : ls.length = i := by rw [← hlq.out, List.length_map, hq.len]
      have hxl : xs.length = i := by rw [← hll, ← HLX.out, List.length_map]
      have e1 : m = k + 1 * (i : Int) + 3 * (sumLoad xs : Nat) := by
        have h1 := hm.out
        rw [List.take_of_length_le (by omega), HPS.out] at h1
        exact h1
      have e2 : loadN.plain qs = marksLoadS k (xs.map fun x => x.Things.length) := by
        rw [HLX.out, hpl.out, List.take_of_length_le (by rw [marksLoadS_len]; omega), List.drop_of_length_le (by omega), List.append_nil]
      exact ⟨ret_i64 e1, ⟨qs, e2, hfq.out, hq⟩, hof⟩
set_option maxRecDepth 100000 in
set_option maxHeartbeats 4000000 in
theorem heldLoadS_any (A : Option Addr) (n c : Nat) (k : Int) (ls : List Nat) (w : World) (hk0 : 0 ≤ k) (hk1 : k ≤ 4194304) (hln : ls.length = n) (hsum : (n : Int) + (ls.sum : Nat) ≤ 1048576) (hs : Sl w A n (marksLoadS k ls)) :
    Calls Try.prog 25 #[.slice A n c, .int .i64 k] w fun e w' => e = .returned (.int .i64 (k + 1 * n + 3 * (ls.sum : Nat))) ∧ Below w.heap.size w w' := by
  have HLN := Lib.hid hln
  have HSUM := Lib.hid hsum
  have hn : n ≤ 1048576 := by omega
  clear hln hsum
  go_enter Try.func25, Try.ntmps25
  go_wp2
  go_loopw [1, 5] (fun u v wr => ∃ (i : Nat) (m : Int), i ≤ n ∧ v = .int .i64 i ∧ u = .int .i64 m ∧ 0 ≤ m ∧ m ≤ 12582912 ∧ Hid (m = k + 1 * (i : Int) + 3 * ((ls.take i).sum : Nat)) ∧ Below w.heap.size w wr) (fun _ v _ => n - (intOf v).toNat)
  case atStart => exact ⟨0, k, Nat.zero_le _, rfl, rfl, hk0, by omega, by rw [Hid]; simp, bl_refl _⟩
  case round =>
    obtain ⟨i, m, hi, rfl, rfl, hm0, hm1, hm, hb⟩ := hrel
    by_cases hlt : i < n
    · obtain ⟨b, o, A', c', rfl, hbz, c0, c1, hin, _⟩ := (hs.below hb).load hlt
      have hlx : i < ls.length := by rw [HLN.out]; exact hlt
      have e : nth (marksLoadS k ls) i = mkXLoad m (nth ls i) := nth_get (by rw [marksLoadS_get _ _ hlx, ← hm.out])
      have he2 : (mkXLoad m (nth ls i)).Things.length = nth ls i := marks_len _ _ _ _
      have d0 : wr.cell? ⟨b, o + i * 2, none⟩ = some (.string (mkT (m))) := by rw [e] at c0; exact c0
      have d1 : wr.cell? ⟨b, o + i * 2 + 1, none⟩ = some (.slice A' (nth ls i) c') := by rw [e, he2] at c1; exact c1
      have hi2 : Hid (Sl wr A' (nth ls i) (marks mkThing 3 (m + 1) (nth ls i))) := by rw [Hid]; rw [e, he2] at hin; exact hin
      have hstep : (ls.take (i + 1)).sum = (ls.take i).sum + nth ls i := by rw [List.take_add_one, get_nth hlx, List.sum_append]; simp
      have hle := sum_take_le ls (i + 1)
      have hm2 : m + 1 + 3 * (nth ls i : Nat) ≤ 12582912 := by have := hm.out; have := HSUM.out; omega
      have hml : nth ls i ≤ 1048576 := by have := HSUM.out; omega
      have Hstep := Lib.hid hstep
      clear hs hin e he2 c0 c1 hstep hle hlx
      go_wp2_with fail
      refine wp_region_grow (by kernel_rfl) (by kernel_rfl) (fun W hW => ?_)
      have g0 := Gw.cell (by rw [hW]; exact d0 : W.cell? _ = _)
      have HW := Lib.hid hW
      clear hW
      repeat (go_big_quiet_step ((go_at_call 47; exact Calls.grow_of (markText_any m _ hm0 (by omega)))))
      refine wpGrow_nil (fun V0 hV0 => ?_)
      have hV0 : Below wr.heap.size wr V0 := by rw [← HW.out]; exact hV0
      clear g0
      have d1 := cell_later hV0 d1
      clear d0
      go_wp2_with fail
      refine (heldThingS_any A' (nth ls i) c' (m + 1) _ hml (by omega) (by omega) (hi2.out.below hV0)).mono ?_
      rintro e V ⟨rfl, hV⟩
      have hbV := bl_trans hb (bl_trans hV0 hV)
      clear hV hi2 d1
      go_wp2
      go_roundw
      case rel => exact ⟨i + 1, m + 1 + 3 * (nth ls i : Nat), by omega, by go_num, rfl, by omega, by omega, by have h1 := hm.out; have h2 := Hstep.out; rw [Hid, h2]; omega, hbV⟩
      case measure => simp [intOf]; omega
    · obtain rfl : i = n := by omega
      have e1 : Hid (m = k + 1 * (i : Int) + 3 * (ls.sum : Nat)) := by
        have h1 := hm.out
        rw [List.take_of_length_le (by rw [HLN.out]; exact Nat.le_refl _)] at h1
        exact h1
      clear hs
      go_wp2
      go_ret
      exact ⟨ret_i64 e1.out, hb⟩
theorem heldLoadS_x (A : Option Addr) (n c : Nat) (k : Int) (xs : List Load) (w : World) (hk0 : 0 ≤ k) (hk1 : k ≤ 4194304) (hln : xs.length = n) (hsum : (n : Int) + sumLoad xs ≤ 1048576) (hs : Sl w A n (marksLoadS k (xs.map fun x => x.Things.length))) :
    Calls Try.prog 25 #[.slice A n c, .int .i64 k] w fun e w' => e = .returned (.int .i64 (k + 1 * n + 3 * (sumLoad xs : Nat))) ∧ Below w.heap.size w w' :=
  heldLoadS_any A n c k _ w hk0 hk1 (by rw [List.length_map]; exact hln) hsum hs
theorem sumLoad_le {xs : List Load} {m : Nat} (h : ∀ x, x ∈ xs → x.Things.length ≤ m) : sumLoad xs ≤ m * xs.length := by
  unfold sumLoad
  induction xs with
  | nil => simp
  | cons x xs ih =>
    have h1 := ih (fun y hy => h y (List.mem_cons_of_mem _ hy))
    have h2 := h x List.mem_cons_self
    simp only [List.map_cons, List.sum_cons, List.length_cons, Nat.mul_add, Nat.mul_one]
    omega

end Go.Proofs.Ytokcgjjnljflaaa

namespace Go.Proofs.Ytokcgjjnljflaaa
open Go.RowKit

theorem stepF_keeps {nm : ByteArray} {k : Nat} {st st' : FSt} (h : stepF nm k st = some st') (hx : loadB st.1.Appliance st.1.Things = true) (hr : AllL st.2.1) (h0 : 0 ≤ st.2.2) (hk : k < st.2.1.length) : loadB st'.1.Appliance st'.1.Things = true ∧ AllL st'.2.1 ∧ st'.2.1.length = st.2.1.length ∧ 0 ≤ st'.2.2 := by
  obtain ⟨x, rest, left⟩ := st
  have hc := countF_in (loadB_things (hr k hk)) nm
  obtain ⟨n, hn⟩ : ∃ n, n = min left (countF (nth rest k).Things nm) := ⟨_, rfl⟩
  by_cases hz : n = 0
  · rw [stepF_zero (by rw [← hn]; exact hz)] at h
    injection h with h
    subst h
    exact ⟨hx, hr, rfl, h0⟩
  · have hl : 0 ≤ left := h0
    have hc' : 0 ≤ countF (nth rest k).Things nm := hc.1
    cases hb : (mvF (nth rest k) x nm n).2.2 with
    | false => rw [stepF_fail hn hz hb] at h; cases h
    | true =>
      rw [stepF_go hn hz hb] at h
      injection h with h
      subst h
      obtain ⟨h1, h2⟩ := mv_valid (x := nth rest k) (y := x) (nm := nm) (q := n) (hr k hk) (by omega) hb
      exact ⟨h2, AllL.set hr hk h1, List.length_set .., by show 0 ≤ left - n; omega⟩
theorem innerF_keeps {nm : ByteArray} {st : FSt} (hx : loadB st.1.Appliance st.1.Things = true) (hr : AllL st.2.1) (h0 : 0 ≤ st.2.2) : ∀ {k : Nat} {st' : FSt}, k ≤ st.2.1.length → innerF nm st k = some st' → loadB st'.1.Appliance st'.1.Things = true ∧ AllL st'.2.1 ∧ st'.2.1.length = st.2.1.length ∧ 0 ≤ st'.2.2
  | 0, st', _, h => by
    have h : some st = some st' := h
    injection h with h
    subst h
    exact ⟨hx, hr, rfl, h0⟩
  | k + 1, st', hk, h => by
    cases h1 : innerF nm st k with
    | none => rw [innerF_none h1 (Nat.le_succ k)] at h; cases h
    | some q =>
      obtain ⟨a, b, c, d⟩ := innerF_keeps hx hr h0 (by omega) h1
      rw [innerF_succ h1] at h
      obtain ⟨a', b', c', d'⟩ := stepF_keeps h a b d (by rw [c]; omega)
      exact ⟨a', b', c'.trans c, d'⟩
theorem kindF_keeps {t : Thing} {p p' : Load × List Load} (h : kindF t p = some p') (hx : loadB p.1.Appliance p.1.Things = true) (hr : AllL p.2) (h0 : 0 ≤ t.Count) : loadB p'.1.Appliance p'.1.Things = true ∧ AllL p'.2 ∧ p'.2.length = p.2.length := by
  cases h1 : innerF t.Name (p.1, p.2, t.Count) p.2.length with
  | none => rw [kindF_none h1 (Nat.le_refl _)] at h; cases h
  | some q =>
    obtain ⟨a, b, c, _⟩ := innerF_keeps (st := (p.1, p.2, t.Count)) hx hr h0 (Nat.le_refl _) h1
    by_cases hl : 0 < q.2.2
    · rw [kindF_left h1 hl] at h; cases h
    · rw [kindF_some h1 hl] at h
      injection h with h
      subst h
      exact ⟨a, b, c⟩
theorem outerF_keeps {ms : List Thing} {p : Load × List Load} (hx : loadB p.1.Appliance p.1.Things = true) (hr : AllL p.2) (hm : ∀ k, k < ms.length → 0 ≤ (nth ms k).Count) : ∀ {k : Nat} {p' : Load × List Load}, k ≤ ms.length → outerF ms p k = some p' → loadB p'.1.Appliance p'.1.Things = true ∧ AllL p'.2 ∧ p'.2.length = p.2.length
  | 0, p', _, h => by
    have h : some p = some p' := h
    injection h with h
    subst h
    exact ⟨hx, hr, rfl⟩
  | k + 1, p', hk, h => by
    cases h1 : outerF ms p k with
    | none => rw [outerF_none h1 (Nat.le_succ k)] at h; cases h
    | some q =>
      obtain ⟨a, b, c⟩ := outerF_keeps hx hr hm (by omega) h1
      rw [outerF_succ h1] at h
      obtain ⟨a', b', c'⟩ := kindF_keeps h a b (hm k (by omega))
      exact ⟨a', b', c'.trans c⟩
theorem sum_all {xs : List Load} (h : AllL xs) : sumLoad xs ≤ 12 * xs.length := by
  induction xs with
  | nil => exact Nat.le_refl _
  | cons x xs ih =>
    have h0 := thingsB_len (loadB_things (h 0 (by simp)))
    have h1 : AllL xs := fun k hk => by have := h (k + 1) (by simpa using hk); rwa [nth_consS] at this
    have := ih h1
    unfold sumLoad at this ⊢
    rw [nth_cons0] at h0
    simp only [List.map_cons, List.sum_cons, List.length_cons]
    omega
theorem fillT_len (x : Load) (wanted : List Thing) (others : List Load) : (fillT x wanted others).1.Things.length ≤ 1048576 ∧ (fillT x wanted others).2.1.length ≤ 1048576 ∧ ((fillT x wanted others).2.1.length : Int) + sumLoad (fillT x wanted others).2.1 ≤ 1048576 := by
  have hno : (noL.1.Things.length ≤ 1048576) ∧ noL.2.1.length ≤ 1048576 ∧ (noL.2.1.length : Int) + sumLoad noL.2.1 ≤ 1048576 := ⟨Nat.zero_le _, Nat.zero_le _, by unfold noL sumLoad; simp⟩
  cases h : okFill x wanted others with
  | false => rw [fillT_no h]; exact hno
  | true =>
    rw [fillT_yes h]
    unfold okFill at h
    simp only [Bool.and_eq_true] at h
    obtain ⟨⟨h1, h2⟩, h3⟩ := h
    have h6 := othersB_len h3
    unfold fillF
    cases ho : outerF (moreL false x.Things wanted) (x, others) (moreL false x.Things wanted).length with
    | none => exact hno
    | some p =>
      obtain ⟨a, b, c⟩ := outerF_keeps (p := (x, others)) h1 (fun k hk => okOt_load (othersB_at h3 hk)) (fun k hk => by have := (more_at (keep := false) (ys := x.Things) h2 (loadB_things h1) hk).2.1; omega) (Nat.le_refl _) ho
      have c : p.2.length = others.length := c
      have h7 := thingsB_len (loadB_things a)
      have h8 := sum_all b
      refine ⟨?_, ?_, ?_⟩
      · show p.1.Things.length ≤ _; omega
      · show p.2.length ≤ _; omega
      · show (p.2.length : Int) + sumLoad p.2 ≤ _; omega

end Go.Proofs.Ytokcgjjnljflaaa

namespace Go.Proofs.Ytokcgjjnljflaaa
open Go.RowKit

theorem apN1 {v : Value} {F : List Nat} (h : ∀ k, v.ownBlock = some k → k ∉ F) : ∀ k, k ∈ F → k ∉ v.ownBlock.toList := fun k hk hm => h k (by simpa using hm) hk
theorem apN2 {v : Value} {F : List Nat} (h : ∀ k, v.ownBlock = some k → k ∉ F) : ∀ k, k ∈ v.ownBlock.toList → k ∉ F := fun k hk => h k (by simpa using hk)

end Go.Proofs.Ytokcgjjnljflaaa
