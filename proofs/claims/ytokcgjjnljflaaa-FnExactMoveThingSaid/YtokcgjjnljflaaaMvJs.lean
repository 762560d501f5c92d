/-
  MoveThing, the reference's. No conditions.
-/
import Derived.Test.YtokcgjjnljflaaaMvK
namespace Go.Proofs.Ytokcgjjnljflaaa
open Go.RowKit

set_option maxRecDepth 100000 in
set_option maxHeartbeats 8000000 in
theorem specMoveThing_any (s u : ByteArray) (xs ys : List Thing) (nm : ByteArray) (q : Int) (A B : Option Addr) (n c m d : Nat) (w : World) (hn : n ≤ 1048576) (hm : m ≤ 1048576) (hc : n ≤ c) (hcm : (c : Int) ≤ 9223372036854775807) (hd : m ≤ d) (hdm : (d : Int) ≤ 9223372036854775807) (hs : Sl w A n xs) (ht : Sl w B m ys) (hz : s.size ≤ maxLen) (hz' : u.size ≤ maxLen) (hv : ∀ x, x ∈ xs → x.Name.size ≤ maxLen) (hv' : ∀ x, x ∈ ys → x.Name.size ≤ maxLen) (hnm : nm.size ≤ maxLen) :
    Calls Try.prog 7 #[.agg #[.string s, .slice A n c], .agg #[.string u, .slice B m d], .string nm, .int .i64 q] w (RetLoad3 w 59 (moveF ⟨s, xs⟩ ⟨u, ys⟩ nm q)) := by
  have HVx := Lib.hid hv
  have HVy := Lib.hid hv'
  clear hv hv'
  go_enter Try.func7, Try.ntmps7
  go_wp2_with fail
  refine (eqLd_any s xs A n _ _ hz (by omega) (hs.below (by repeat' (first | assumption | exact bl_refl _ | refine bl_alloc ?_ _ | refine bl_drew ?_ | refine bl_set ?_ (by simp only []; omega) _))) HVx.out).mono ?_
  rintro e V0 ⟨rfl, hb1⟩
  have BP : BoxL V0 (w.heap.size) s A n c := BoxL.below ⟨by go_simp, by go_simp, by go_simp, by go_simp⟩ hb1
  have BQ : BoxL V0 (w.heap.size + 1) u B m d := BoxL.below ⟨by go_simp, by go_simp, by go_simp, by go_simp⟩ hb1
  have BR : BoxL V0 (w.heap.size + 1 + 1) ⟨#[]⟩ none 0 0 := BoxL.below ⟨by go_simp, by go_simp, by go_simp, by go_simp⟩ hb1
  have BT : BoxL V0 (w.heap.size + 1 + 1 + 1) ⟨#[]⟩ none 0 0 := BoxL.below ⟨by go_simp, by go_simp, by go_simp, by go_simp⟩ hb1
  have hk0 : Below w.heap.size w V0 := bl_trans (by repeat' (first | assumption | exact bl_refl _ | refine bl_alloc ?_ _ | refine bl_drew ?_ | refine bl_set ?_ (by simp only []; omega) _)) hb1
  clear hb1
  obtain ⟨bp0, bp1, fp0, fp1⟩ := id BP
  obtain ⟨bq0, bq1, fq0, fq1⟩ := id BQ
  cases h1 : loadB s xs
  · have HZ : Hid (moveF ⟨s, xs⟩ ⟨u, ys⟩ nm q = no3) := moveF_no (okMv1 h1)
    clear h1
    obtain ⟨br0, br1, fr0, fr1⟩ := id BR
    obtain ⟨bt0, bt1, ft0, ft1⟩ := id BT
    go_wp2
    refine bodyPost_ret (by simp [results, Try.results7, go_sem, br0, br1, bt0, bt1]; try rfl) rfl ?_
    exact retLoad3_mk HZ.out rfl rfl (Own.nil _ _ _) (Own.nil _ _ _) (fun k h => by simp [Value.ownBlock] at h) (by repeat' (first | with_reducible exact hk0 | refine bl_alloc ?_ _ | refine bl_drew ?_ | refine bl_set ?_ (by simp only []; omega) _))
  have H1 := Lib.hid h1
  clear h1
  go_wp2_with fail
  refine (eqLd_any u ys B m _ _ hz' (by omega) (ht.below hk0) HVy.out).mono ?_
  rintro e V1 ⟨rfl, hb2⟩
  clear bp0 bp1 fp0 fp1 bq0 bq1 fq0 fq1
  have BP := BP.below hb2
  have BQ := BQ.below hb2
  have BR := BR.below hb2
  have BT := BT.below hb2
  have hk1 := bl_trans hk0 hb2
  have hz1 := BT.lt
  clear hb2 hk0
  obtain ⟨bp0, bp1, fp0, fp1⟩ := id BP
  obtain ⟨bq0, bq1, fq0, fq1⟩ := id BQ
  cases h2 : loadB u ys
  · have HZ : Hid (moveF ⟨s, xs⟩ ⟨u, ys⟩ nm q = no3) := moveF_no (okMv2 h2)
    clear h2
    obtain ⟨br0, br1, fr0, fr1⟩ := id BR
    obtain ⟨bt0, bt1, ft0, ft1⟩ := id BT
    go_wp2
    refine bodyPost_ret (by simp [results, Try.results7, go_sem, br0, br1, bt0, bt1]; try rfl) rfl ?_
    exact retLoad3_mk HZ.out rfl rfl (Own.nil _ _ _) (Own.nil _ _ _) (fun k h => by simp [Value.ownBlock] at h) (by repeat' (first | with_reducible exact hk1 | refine bl_alloc ?_ _ | refine bl_drew ?_ | refine bl_set ?_ (by simp only []; omega) _))
  have H2 := Lib.hid h2
  clear h2
  cases h5 : s.toList == u.toList
  rotate_left
  · have HZ : Hid (moveF ⟨s, xs⟩ ⟨u, ys⟩ nm q = no3) := moveF_no (okMv5 h5)
    skip
    obtain ⟨br0, br1, fr0, fr1⟩ := id BR
    obtain ⟨bt0, bt1, ft0, ft1⟩ := id BT
    go_wp2
    refine bodyPost_ret (by simp [results, Try.results7, go_sem, br0, br1, bt0, bt1]; try rfl) rfl ?_
    exact retLoad3_mk HZ.out rfl rfl (Own.nil _ _ _) (Own.nil _ _ _) (fun k h => by simp [Value.ownBlock] at h) (by repeat' (first | with_reducible exact hk1 | refine bl_alloc ?_ _ | refine bl_drew ?_ | refine bl_set ?_ (by simp only []; omega) _))
  have H5 := Lib.hid h5
  go_wp2_with fail
  refine (eqName_any nm _ hnm).mono ?_
  rintro _ V1 ⟨rfl, rfl⟩
  cases h3 : wordB 8 nm
  · have HZ : Hid (moveF ⟨s, xs⟩ ⟨u, ys⟩ nm q = no3) := moveF_no (okMv3 h3)
    clear h3
    obtain ⟨br0, br1, fr0, fr1⟩ := id BR
    obtain ⟨bt0, bt1, ft0, ft1⟩ := id BT
    go_wp2
    refine bodyPost_ret (by simp [results, Try.results7, go_sem, br0, br1, bt0, bt1]; try rfl) rfl ?_
    exact retLoad3_mk HZ.out rfl rfl (Own.nil _ _ _) (Own.nil _ _ _) (fun k h => by simp [Value.ownBlock] at h) (by repeat' (first | with_reducible exact hk1 | refine bl_alloc ?_ _ | refine bl_drew ?_ | refine bl_set ?_ (by simp only []; omega) _))
  have H3 := Lib.hid h3
  clear h3
  go_wp2_with fail
  refine (eqCount_any q _).mono ?_
  rintro _ V1 ⟨rfl, rfl⟩
  cases h4 : inB q 1 99
  · have HZ : Hid (moveF ⟨s, xs⟩ ⟨u, ys⟩ nm q = no3) := moveF_no (okMv4 h4)
    clear h4
    obtain ⟨br0, br1, fr0, fr1⟩ := id BR
    obtain ⟨bt0, bt1, ft0, ft1⟩ := id BT
    go_wp2
    refine bodyPost_ret (by simp [results, Try.results7, go_sem, br0, br1, bt0, bt1]; try rfl) rfl ?_
    exact retLoad3_mk HZ.out rfl rfl (Own.nil _ _ _) (Own.nil _ _ _) (fun k h => by simp [Value.ownBlock] at h) (by repeat' (first | with_reducible exact hk1 | refine bl_alloc ?_ _ | refine bl_drew ?_ | refine bl_set ?_ (by simp only []; omega) _))
  have H4 := Lib.hid h4
  clear h4
  have hq : 1 ≤ q ∧ q ≤ 99 := inB_iff.1 H4.out
  have HY : Hid (moveF ⟨s, xs⟩ ⟨u, ys⟩ nm q = mvF ⟨s, xs⟩ ⟨u, ys⟩ nm q) := moveF_yes (okMv6 H1.out H2.out H3.out H4.out H5.out)
  go_wp2_with fail
  refine (eqMove_any s u xs ys nm q A B n c m d _ hn hm hc hcm hd hdm (hs.below hk1) (ht.below hk1) H1.out H2.out hq hz hz' HVx.out HVy.out hnm).mono ?_
  rintro e V2 ⟨A2, c2, B2, d2, rfl, oa, ob, hap, hb2⟩
  clear bp0 bp1 fp0 fp1 bq0 bq1 fq0 fq1
  rw [← HY.out] at oa ob hap ⊢
  have BR := BR.below hb2
  have BT := BT.below hb2
  have hk2 := bl_trans hk1 hb2
  have HAP := Lib.hid hap
  have HOA := Lib.hid oa
  have HOB := Lib.hid ob
  clear hap oa ob hk1 hb2 BP BQ h5
  obtain ⟨br0, br1, fr0, fr1⟩ := id BR
  obtain ⟨bt0, bt1, ft0, ft1⟩ := id BT
  have nrt : w.heap.size + 1 + 1 ≠ w.heap.size + 1 + 1 + 1 := by omega
  have ntr : w.heap.size + 1 + 1 + 1 ≠ w.heap.size + 1 + 1 := by omega
  obtain ⟨r, hr⟩ : ∃ r, r = moveF ⟨s, xs⟩ ⟨u, ys⟩ nm q := ⟨_, rfl⟩
  rw [← hr] at HAP HOA HOB ⊢
  have HR := Lib.hid hr
  clear hr
  go_wp2
  refine ex_hideK (R := fun X => Below w.heap.size w X ∧ BoxL X (w.heap.size + 1 + 1) r.1.Appliance A2 r.1.Things.length c2 ∧ BoxL X (w.heap.size + 1 + 1 + 1) r.2.1.Appliance B2 r.2.1.Things.length d2 ∧ Own X V1.heap.size 59 (.slice A2 r.1.Things.length c2) r.1.Things ∧ Own X V1.heap.size 59 (.slice B2 r.2.1.Things.length d2) r.2.1.Things) ⟨by repeat' (first | with_reducible exact hk2 | refine bl_set ?_ (by simp only []; omega) _), by repeat' (first | with_reducible exact BR | with_reducible exact BT | with_reducible refine BoxL.put ?_ _ _ _ _ | with_reducible refine BoxL.set_ne ?_ nrt _ _ | with_reducible refine BoxL.set_ne ?_ ntr _ _), by repeat' (first | with_reducible exact BR | with_reducible exact BT | with_reducible refine BoxL.put ?_ _ _ _ _ | with_reducible refine BoxL.set_ne ?_ nrt _ _ | with_reducible refine BoxL.set_ne ?_ ntr _ _), by repeat' (first | with_reducible exact HOA.out | with_reducible exact HOB.out | refine Own.set ?_ (by omega) _), by repeat' (first | with_reducible exact HOA.out | with_reducible exact HOB.out | refine Own.set ?_ (by omega) _)⟩ (fun X hX => ?_)
  obtain ⟨hWX, BRX, BTX, hoX, hpX⟩ := hX
  obtain ⟨br0, br1, fr0, fr1⟩ := BRX
  obtain ⟨bt0, bt1, ft0, ft1⟩ := BTX
  refine bodyPost_ret (v := .tuple #[.agg #[.string r.1.Appliance, .slice A2 r.1.Things.length c2], .agg #[.string r.2.1.Appliance, .slice B2 r.2.1.Things.length d2], .bool r.2.2]) (by simp [results, Try.results7, go_sem, br0, br1, bt0, bt1]; try rfl) rfl ?_
  exact retLoad3_mk HR.out.symm rfl rfl (Own.mono (base := V1.heap.size) hoX (by omega)) (Own.mono (base := V1.heap.size) hpX (by omega)) HAP.out hWX

end Go.Proofs.Ytokcgjjnljflaaa
