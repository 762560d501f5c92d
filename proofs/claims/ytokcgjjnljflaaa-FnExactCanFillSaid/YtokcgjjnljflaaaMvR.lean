/-
  CanFill, both texts. No conditions.
-/
import Derived.Test.YtokcgjjnljflaaaMvL
import Derived.Test.YtokcgjjnljflaaaMvP2
import Derived.Test.YtokcgjjnljflaaaOpL
import Derived.Test.YtokcgjjnljflaaaMem3
namespace Go.Proofs.Ytokcgjjnljflaaa
open Go.RowKit

theorem OwnX.capm {R α X : Type} [Flat R] [Flat α] [Deep X] {N : Nest R α X} {w : World} {base : Nat} {E E' : TypeId} {A : Option Addr} {n c : Nat} {xs : List X} {F : List Nat} (h : OwnX N w base E E' (.slice A n c) xs F) : (c : Int) ≤ 9223372036854775807 := by
  obtain ⟨ps, _, _, h3⟩ := h
  have := h3.out.cap.2
  unfold maxLen at this; omega
set_option maxRecDepth 100000 in
set_option maxHeartbeats 8000000 in
theorem implCanFill_any (s : ByteArray) (xs wanted : List Thing) (others : List Load) (A B O : Option Addr) (n c m d p q : Nat) (w : World) (hz : s.size ≤ maxLen) (hn : n ≤ 1048576) (hm : m ≤ 1048576) (hp : p ≤ 1048576) (hq : p ≤ q) (hqm : (q : Int) ≤ 9223372036854775807) (hs : Sl w A n xs) (ht : Sl w B m wanted) (hrs : Sl w O p others) (hvx : ∀ x, x ∈ xs → x.Name.size ≤ maxLen) (hvw : ∀ x, x ∈ wanted → x.Name.size ≤ maxLen) (hvo : ∀ x, x ∈ others → x.Appliance.size ≤ maxLen ∧ ∀ y, y ∈ x.Things → y.Name.size ≤ maxLen) :
    Calls Try.prog 18 #[.agg #[.string s, .slice A n c], .slice B m d, .slice O p q] w fun e w' => e = .returned (.tuple #[.bool (canF ⟨s, xs⟩ wanted others).1, .bool (canF ⟨s, xs⟩ wanted others).2]) ∧ Below w.heap.size w w' := by
  have HL := Lib.hid hs.1
  have HM := Lib.hid ht.1
  have HO := Lib.hid hrs.1
  have HVX := Lib.hid hvx
  have HVW := Lib.hid hvw
  have HVO := Lib.hid hvo
  clear hvx hvw hvo
  go_enter Try.func18, Try.ntmps18
  go_wp2_with fail
  refine (isLd_any s xs A n c _ hz (by omega) (hs.below (by repeat' (first | assumption | exact bl_refl _ | refine bl_alloc ?_ _ | refine bl_drew ?_ | refine bl_set ?_ (by simp only []; omega) _))) HVX.out).mono ?_
  rintro e V0 ⟨rfl, hb0⟩
  have BP : BoxL V0 w.heap.size s A n c := BoxL.below ⟨by go_simp, by go_simp, by go_simp, by go_simp⟩ hb0
  have hk0 : Below w.heap.size w V0 := bl_trans (by repeat' (first | assumption | exact bl_refl _ | refine bl_alloc ?_ _ | refine bl_drew ?_ | refine bl_set ?_ (by simp only []; omega) _)) hb0
  clear hb0
  obtain ⟨bp0, bp1, fp0, fp1⟩ := id BP
  cases h1 : loadB s xs
  · have HN : Hid (okFill ⟨s, xs⟩ wanted others = false) := okF1 h1
    have HZ : Hid (fillT ⟨s, xs⟩ wanted others = noL) := fillT_no HN.out
    clear h1
    go_wp2
    go_ret2
    exact ⟨ret_bbc (by rw [canF_no HN.out]) (by rw [canF_no HN.out]), hk0⟩
  have H1 := Lib.hid h1
  clear h1
  go_wp2_with fail
  refine (areThings_any wanted B m d _ (by omega) (ht.below hk0) HVW.out).mono ?_
  rintro e V1 ⟨rfl, hb1⟩
  have BP := BP.below hb1
  have hk1 := bl_trans hk0 hb1
  clear hb1 hk0 bp0 bp1 fp0 fp1
  obtain ⟨bp0, bp1, fp0, fp1⟩ := id BP
  cases h2 : thingsB wanted
  · have HN : Hid (okFill ⟨s, xs⟩ wanted others = false) := okF2 h2
    have HZ : Hid (fillT ⟨s, xs⟩ wanted others = noL) := fillT_no HN.out
    clear h2
    go_wp2
    go_ret2
    exact ⟨ret_bbc (by rw [canF_no HN.out]) (by rw [canF_no HN.out]), hk1⟩
  have H2 := Lib.hid h2
  clear h2
  go_wp2_with fail
  refine (areOthers_any s _ _ _ others O p q _ (by omega) hq hqm (hrs.below hk1) HVO.out).mono ?_
  rintro e V2 ⟨rfl, hb2⟩
  have BP := BP.below hb2
  have hk2 := bl_trans hk1 hb2
  clear hb2 hk1 bp0 bp1 fp0 fp1
  obtain ⟨bp0, bp1, fp0, fp1⟩ := id BP
  cases h3 : othersB s others
  · have HN : Hid (okFill ⟨s, xs⟩ wanted others = false) := okF3 h3
    have HZ : Hid (fillT ⟨s, xs⟩ wanted others = noL) := fillT_no HN.out
    clear h3
    go_wp2
    go_ret2
    exact ⟨ret_bbc (by rw [canF_no HN.out]) (by rw [canF_no HN.out]), hk2⟩
  have H3 := Lib.hid h3
  have HN : Hid (okFill ⟨s, xs⟩ wanted others = true) := by unfold okFill; rw [show loadB (⟨s, xs⟩ : Load).Appliance (⟨s, xs⟩ : Load).Things = true from H1.out, H2.out, show othersB (⟨s, xs⟩ : Load).Appliance others = true from h3]; rfl
  have HR : Hid (AllL others) := fun k hk => okOt_load (othersB_at h3 hk)
  have HTT : Hid (fillT ⟨s, xs⟩ wanted others = fillF ⟨s, xs⟩ wanted others) := fillT_yes HN.out
  have hp6 : p ≤ 6 := by have := othersB_len h3; have := HO.out; omega
  clear h3
  go_wp2_with fail
  refine (implFill_any s xs wanted others A B O n c m d p q _ H1.out H2.out HR.out hp6 (hs.below hk2) (ht.below hk2) (hrs.below hk2)).mono ?_
  rintro e V3 ⟨A2, c2, B2, d2, F, rfl, ho, hx, hap, hb3⟩
  rw [← HTT.out] at ho hx hap ⊢
  have hk3 := bl_trans hk2 hb3
  have hz3 := hk2.size
  clear ho hx hap
  go_wp2
  go_ret2
  exact ⟨ret_bbc rfl HN.out.symm, by repeat' (first | with_reducible exact hk3 | refine bl_alloc ?_ _ | refine bl_set ?_ (by simp only []; omega) _)⟩
theorem okFill_yes {x : Load} {wanted : List Thing} {others : List Load} (h : loadsB 7 (x :: others) = true) (h' : thingsB wanted = true) : okFill x wanted others = true := by
  rw [loadsB_cons] at h
  obtain ⟨h1, h2⟩ := (Bool.and_eq_true _ _).mp h
  unfold okFill
  rw [h1, h2, h']; rfl
set_option maxRecDepth 100000 in
set_option maxHeartbeats 8000000 in
theorem specCanFill_any (s : ByteArray) (xs wanted : List Thing) (others : List Load) (A B O : Option Addr) (n c m d p q : Nat) (w : World) (hz : s.size ≤ maxLen) (hn : n ≤ 1048576) (hm : m ≤ 1048576) (hp : p ≤ 1048576) (hs : Sl w A n xs) (ht : Sl w B m wanted) (hrs : Sl w O p others) (hvx : ∀ x, x ∈ xs → x.Name.size ≤ maxLen) (hvw : ∀ x, x ∈ wanted → x.Name.size ≤ maxLen) (hvo : ∀ x, x ∈ others → x.Appliance.size ≤ maxLen ∧ ∀ y, y ∈ x.Things → y.Name.size ≤ maxLen) :
    Calls Try.prog 15 #[.agg #[.string s, .slice A n c], .slice B m d, .slice O p q] w fun e w' => e = .returned (.tuple #[.bool (canF ⟨s, xs⟩ wanted others).1, .bool (canF ⟨s, xs⟩ wanted others).2]) ∧ Below w.heap.size w w' := by
  have HL := Lib.hid hs.1
  have HM := Lib.hid ht.1
  have HO := Lib.hid hrs.1
  have HVX := Lib.hid hvx
  have HVW := Lib.hid hvw
  have HVO := Lib.hid hvo
  clear hvx hvw hvo
  go_enter Try.func15, Try.ntmps15
  go_wp2_with fail
  refine (eqGood_any wanted B m d _ (by omega) (ht.below (by repeat' (first | assumption | exact bl_refl _ | refine bl_alloc ?_ _ | refine bl_drew ?_ | refine bl_set ?_ (by simp only []; omega) _))) HVW.out).mono ?_
  rintro e V0 ⟨rfl, hb0⟩
  have BP : BoxL V0 w.heap.size s A n c := BoxL.below ⟨by go_simp, by go_simp, by go_simp, by go_simp⟩ hb0
  have hk0 : Below w.heap.size w V0 := bl_trans (by repeat' (first | assumption | exact bl_refl _ | refine bl_alloc ?_ _ | refine bl_drew ?_ | refine bl_set ?_ (by simp only []; omega) _)) hb0
  clear hb0
  have BP0 := BP
  obtain ⟨bp0, bp1, fp0, fp1⟩ := id BP
  cases h1 : thingsB wanted
  · have HN : Hid (okFill ⟨s, xs⟩ wanted others = false) := okF2 h1
    clear h1
    go_wp2
    go_ret2
    exact ⟨ret_bbc (by rw [canF_no HN.out]) (by rw [canF_no HN.out]), hk0⟩
  have HWT := Lib.hid h1
  clear h1
  by_cases h6 : 6 < p
  · have h6' : decide ((6 : Int) < (p : Int)) = true := by simp; omega
    have h6'' : decide ((p : Int) > 6) = true := by simp; omega
    have HN : Hid (okFill ⟨s, xs⟩ wanted others = false) := okF3 (by unfold othersB; rw [decide_eq_false (by rw [HO.out]; omega : ¬ ((others.length : Int) ≤ 6))]; simp)
    go_wp2
    go_ret2
    exact ⟨ret_bbc (by rw [canF_no HN.out]) (by rw [canF_no HN.out]), hk0⟩
  have h6' : decide ((6 : Int) < (p : Int)) = false := by simp; omega
  have h6'' : decide ((p : Int) > 6) = false := by simp; omega
  obtain ⟨rs, hrr, hro⟩ := hrs.rows
  obtain ⟨A9, c9, W1, hrun, ho9, hg9⟩ := run_appN (P := Try.prog) 41 41 28 el_load (d := q) (Own.lit1 V0 28 (⟨s, A, n, c⟩ : LoadR)) (by simp) (hrr.below (bl_trans hk0 (bl_alloc (bl_refl _) _))) (by omega)
  have hrun : (Builtin.append_ #[41, 41] 41 #[.slice (some ⟨V0.heap.size, 0, none⟩) 1 1, .slice O p q]).run Try.prog (V0.alloc (.cells #[.string s, .slice A n c] 28)) = .ok (.slice A9 (1 + p) c9) W1 := hrun
  have hb1 : Below V0.heap.size V0 W1 := bl_grown (bl_alloc (bl_refl _) _) hg9 (fun k hk => by have : V0.heap.size = k := Option.some.inj (show some V0.heap.size = some k from hk); omega)
  have hk1 := bl_trans hk0 hb1
  have hall : Sl W1 A9 (1 + p) ((⟨s, xs⟩ : Load) :: others) := Sl.of_rows ho9.sl ((hro.below hk1).cons (r := ⟨s, A, n, c⟩) (x := ⟨s, xs⟩) rfl HL.out.symm (by show Sl W1 A xs.length xs; rw [HL.out]; exact hs.below hk1) (by show xs.length ≤ maxLen; rw [HL.out]; unfold maxLen; omega))
  have HALL := Lib.hid hall
  have HC9 := Lib.hid ho9.cap
  clear hall ho9 hro hrr hg9
  have BP := BP.below hb1
  have HB1 := Lib.hid hb1
  clear hb1
  go_wp2_with ((at_builtin; refine wpList_runW (by rfl) (.tmp 21) (.tmp 22) _ rfl rfl rfl hrun ?_))
  have hvall : ∀ x, x ∈ ((⟨s, xs⟩ : Load) :: others) → x.Appliance.size ≤ maxLen ∧ ∀ y, y ∈ x.Things → y.Name.size ≤ maxLen := fun x hx => by
    rcases List.mem_cons.1 hx with rfl | hx
    · exact ⟨hz, HVX.out⟩
    · exact HVO.out x hx
  have HVA := Lib.hid hvall
  clear hvall hrun bp0 bp1 fp0 fp1
  refine (eqLoads_any ((⟨s, xs⟩ : Load) :: others) 7 A9 (1 + p) c9 _ (by omega) HC9.out.1 HALL.out HVA.out).mono ?_
  rintro e V3 ⟨rfl, hb3⟩
  have BP := BP.below hb3
  have hk3 := bl_trans hk1 hb3
  clear hb3 hk1 hk0
  cases h7 : loadsB 7 ((⟨s, xs⟩ : Load) :: others)
  · have HN : Hid (okFill ⟨s, xs⟩ wanted others = false) := okFill_no h7
    clear h7
    go_wp2
    go_ret2
    exact ⟨ret_bbc (by rw [canF_no HN.out]) (by rw [canF_no HN.out]), hk3⟩
  have HN : Hid (okFill ⟨s, xs⟩ wanted others = true) := okFill_yes h7 HWT.out
  clear h7
  obtain ⟨bp0, bp1, fp0, fp1⟩ := id BP
  go_wp2_with fail
  refine (specFillFrom_any s xs wanted others A B O n c m d p q _ hz hn hm hp (hs.below hk3) (ht.below hk3) (hrs.below hk3) HVX.out HVW.out HVO.out).mono ?_
  rintro e V4 ⟨A2, c2, B2, d2, F, rfl, ho, hx, hap, hb4⟩
  have hk4 := bl_trans hk3 hb4
  have hz4 := hk3.size
  clear ho hx hap
  go_wp2
  go_ret2
  exact ⟨ret_bbc rfl HN.out.symm, by repeat' (first | with_reducible exact hk4 | refine bl_alloc ?_ _ | refine bl_set ?_ (by simp only []; omega) _)⟩

end Go.Proofs.Ytokcgjjnljflaaa
