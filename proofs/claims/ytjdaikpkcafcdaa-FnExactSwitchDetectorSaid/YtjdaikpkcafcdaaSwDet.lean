/-
  Switching a detector: both texts answer swF. No conditions.
-/
import Derived.Test.YtjdaikpkcafcdaaFindDet
import Derived.Test.YtjdaikpkcafcdaaMem5
namespace Go.Proofs.Ytjdaikpkcafcdaa
open Go.RowKit

/-- The detectors with one of them switched. -/
def swF (l : List Det) (m : Int) (b : Bool) : List Det × Bool :=
  if detsB l && decide (0 ≤ indexF (numIs m) l) then (l.set (indexF (numIs m) l).toNat { nth l (indexF (numIs m) l).toNat with Off := b }, true) else ([], false)
theorem swF_yes {l : List Det} {m : Int} {b : Bool} {k : Nat} (h : detsB l = true) (hk : indexF (numIs m) l = k) : swF l m b = (l.set k { nth l k with Off := b }, true) := by
  unfold swF; rw [h, hk]; simp
theorem swF_no1 {l : List Det} {m : Int} {b : Bool} (h : detsB l = false) : swF l m b = ([], false) := by unfold swF; rw [h]; simp
theorem swF_no2 {l : List Det} {m : Int} {b : Bool} (h : indexF (numIs m) l < 0) : swF l m b = ([], false) := by
  unfold swF; rw [decide_eq_false (by omega)]; simp
theorem swF_len (l : List Det) (m : Int) (b : Bool) : (swF l m b).1.length ≤ 1048576 := by
  unfold swF; split
  · rename_i h; simp only [Bool.and_eq_true] at h; have := detsB_len h.1; simp; omega
  · simp
set_option maxHeartbeats 1000000 in
theorem specSwitchDetector_any (xs : List Det) (m : Int) (b : Bool) (A : Option Addr) (n c : Nat) (w : World) (hn : (n : Int) ≤ 9223372036854775807) (hs : Sl w A n xs) :
    Calls Try.prog 25 #[.slice A n c, .int .i64 m, .bool b] w (RetOwn2 w 58 (swF xs m b)) := by
  have HL := Lib.hid hs.1
  have hr := indexF_range (numIs m) xs
  cases hg : detsB xs
  · have Hz := Lib.hid (swF_no1 (m := m) (b := b) hg)
    go_enter Try.func25, Try.ntmps25
    go_wp2_with fail
    refine (alFind_any xs _ _ _ _ _ hn hs).mono ?_
    rintro e V1 ⟨rfl, hb1⟩
    go_wp2_with fail
    refine (alGood_any xs _ _ _ _ hn (hs.below hb1)).mono ?_
    rintro e V2 ⟨rfl, hb2⟩
    go_wp2
    go_ret2
    exact retOwn2_mk Hz.out (Own.nil _ _ _) (bl_trans hb1 hb2)
  have hlen := detsB_len hg
  obtain ⟨i, hi⟩ : ∃ i, i = indexF (numIs m) xs := ⟨_, rfl⟩
  rw [← hi] at hr
  by_cases h0 : i < 0
  · have Hz := Lib.hid (swF_no2 (l := xs) (m := m) (b := b) (by rw [← hi]; exact h0))
    have hi' := Lib.hid hi
    clear hi
    go_enter Try.func25, Try.ntmps25
    go_wp2_with fail
    refine (alFind_any xs _ _ _ _ _ hn hs).mono ?_
    rintro e V1 ⟨rfl, hb1⟩
    rw [← hi'.out]
    go_wp2_with fail
    refine (alGood_any xs _ _ _ _ hn (hs.below hb1)).mono ?_
    rintro e V2 ⟨rfl, hb2⟩
    go_wp2
    go_ret2
    exact retOwn2_mk Hz.out (Own.nil _ _ _) (bl_trans hb1 hb2)
  obtain ⟨k, rfl⟩ := Int.eq_ofNat_of_zero_le (by omega : 0 ≤ i)
  have hk : k < n := by have := HL.out; omega
  have hn2 : n ≤ 20 := by have := HL.out; omega
  have Hz := Lib.hid (swF_yes (b := b) hg hi.symm)
  have hi' := Lib.hid hi
  have hnd : decide ((k : Int) < 0) = false := by simp
  clear hi h0 hr hlen
  go_enter Try.func25, Try.ntmps25
  go_wp2_with fail
  refine (alFind_any xs _ _ _ _ _ hn hs).mono ?_
  rintro e V1 ⟨rfl, hb1⟩
  rw [← hi'.out]
  go_wp2_with fail
  refine (alGood_any xs _ _ _ _ hn (hs.below hb1)).mono ?_
  rintro e V2 ⟨rfl, hb2⟩
  have hbk := bl_trans hb1 hb2
  have hs2 := hs.below hbk
  go_wp2_with ((at_builtin; refine wpList_appN rfl (.tmp 21) (.tmp 22) _ _ rfl el_det rfl (Own.built V2 _ hbk.size) (bl_alloc hbk _) rfl (hs2.below (bl_alloc (bl_refl _) _)) (by omega) ?_; intro A3 c3 V3 ho3 hb3 hg3; have ho4 : Own V3 w.heap.size 58 (.slice A3 n c3) xs := (by simpa using ho3); obtain ⟨g, rfl⟩ := ho4.form (by omega); have hz3 := hb3.size; have hlt3 := (ho4.lt g rfl).2; have hge3 := (ho4.lt g rfl).1; have d0 : V3.cell? ⟨g, k * 4, none⟩ = some (.int .i64 (nth xs k).Number) := ho4.cellAt hk 0 _ rfl; have d1 : V3.cell? ⟨g, k * 4 + 1, none⟩ = some (.int .i64 (nth xs k).Zone) := ho4.cellAt hk 1 _ rfl; have d2 : V3.cell? ⟨g, k * 4 + 2, none⟩ = some (.int .i64 (nth xs k).Kind) := ho4.cellAt hk 2 _ rfl; have d3 : V3.cell? ⟨g, k * 4 + 3, none⟩ = some (.bool (nth xs k).Off) := ho4.cellAt hk 3 _ rfl; have f0 := ho4.frozenAt (k * 4); have f1 := ho4.frozenAt (k * 4 + 1); have f2 := ho4.frozenAt (k * 4 + 2); have f3 := ho4.frozenAt (k * 4 + 3)))
  go_ret2
  refine retOwn2_mk Hz.out ((ho4.put hk { nth xs k with Off := b }).alloc _) ?_
  repeat' (first | exact hb3 | refine bl_set ?_ hge3 _ | refine bl_alloc ?_ _)
set_option maxHeartbeats 1000000 in
theorem implSwitchDetector_any (xs : List Det) (m : Int) (b : Bool) (A : Option Addr) (n c : Nat) (w : World) (hn : (n : Int) ≤ 9223372036854775807) (hs : Sl w A n xs) :
    Calls Try.prog 26 #[.slice A n c, .int .i64 m, .bool b] w (RetOwn2 w 58 (swF xs m b)) := by
  have HL := Lib.hid hs.1
  have hr := indexF_range (numIs m) xs
  cases hg : detsB xs
  · have Hz := Lib.hid (swF_no1 (m := m) (b := b) hg)
    go_enter Try.func26, Try.ntmps26
    go_wp2_with fail
    refine (detectorAt_any xs _ _ _ _ _ hn hs).mono ?_
    rintro e V1 ⟨rfl, hb1⟩
    go_wp2_with fail
    refine (areDetectors_any xs _ _ _ _ hn (hs.below hb1)).mono ?_
    rintro e V2 ⟨rfl, hb2⟩
    go_wp2
    go_ret2
    exact retOwn2_mk Hz.out (Own.nil _ _ _) (bl_trans hb1 hb2)
  have hlen := detsB_len hg
  obtain ⟨i, hi⟩ : ∃ i, i = indexF (numIs m) xs := ⟨_, rfl⟩
  rw [← hi] at hr
  by_cases h0 : i < 0
  · have Hz := Lib.hid (swF_no2 (l := xs) (m := m) (b := b) (by rw [← hi]; exact h0))
    have hi' := Lib.hid hi
    clear hi
    go_enter Try.func26, Try.ntmps26
    go_wp2_with fail
    refine (detectorAt_any xs _ _ _ _ _ hn hs).mono ?_
    rintro e V1 ⟨rfl, hb1⟩
    rw [← hi'.out]
    go_wp2_with fail
    refine (areDetectors_any xs _ _ _ _ hn (hs.below hb1)).mono ?_
    rintro e V2 ⟨rfl, hb2⟩
    go_wp2
    go_ret2
    exact retOwn2_mk Hz.out (Own.nil _ _ _) (bl_trans hb1 hb2)
  obtain ⟨k, rfl⟩ := Int.eq_ofNat_of_zero_le (by omega : 0 ≤ i)
  have hk : k < n := by have := HL.out; omega
  have hn2 : n ≤ 20 := by have := HL.out; omega
  have Hz := Lib.hid (swF_yes (b := b) hg hi.symm)
  have hi' := Lib.hid hi
  have hnd : decide ((k : Int) < 0) = false := by simp
  clear hi h0 hr hlen
  go_enter Try.func26, Try.ntmps26
  go_wp2_with fail
  refine (detectorAt_any xs _ _ _ _ _ hn hs).mono ?_
  rintro e V1 ⟨rfl, hb1⟩
  rw [← hi'.out]
  go_wp2_with fail
  refine (areDetectors_any xs _ _ _ _ hn (hs.below hb1)).mono ?_
  rintro e V2 ⟨rfl, hb2⟩
  have hbk := bl_trans hb1 hb2
  have hs2 := hs.below hbk
  go_wp2_with fail
  refine (clone_det xs _ _ _ _ (by omega) hs2).mono ?_
  rintro e V3 ⟨A3, c3, rfl, ho3, hb3⟩
  have hz3 := hbk.size
  have ho4 : Own V3 w.heap.size 58 (.slice A3 xs.length c3) xs := ho3.mono hbk.size
  have hkx : k < xs.length := by rw [HL.out]; exact hk
  obtain ⟨g, rfl⟩ := ho4.form (by omega)
  have hge3 := (ho4.lt g rfl).1
  have d3 : V3.cell? ⟨g, k * 4 + 3, none⟩ = some (.bool (nth xs k).Off) := ho4.cellAt hkx 3 _ rfl
  have f3 := ho4.frozenAt (k * 4 + 3)
  go_wp2
  go_ret2
  refine retOwn2_mk Hz.out (ho4.put1 hkx 3 (by decide) rfl) (bl_set (bl_trans hbk hb3) hge3 _)

end Go.Proofs.Ytjdaikpkcafcdaa
