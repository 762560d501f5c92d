/-
  CheckThing: both texts answer checkF. No conditions.
-/
import Derived.Test.YtmmaddlbaonajaaLoadC
namespace Go.Proofs.Ytmmaddlbaonajaa
open Go.RowKit

def checkF (x : Load) (nm : ByteArray) (day : Int) : Load × Bool :=
  if loadB x.Appliance x.Things && inB day 0 9999 && decide (0 ≤ indexF (nmT nm) x.Things) then (⟨x.Appliance, x.Things.set (indexF (nmT nm) x.Things).toNat { nth x.Things (indexF (nmT nm) x.Things).toNat with Day := day }⟩, true) else (⟨ByteArray.empty, []⟩, false)
theorem checkF_no {s : ByteArray} {xs : List Thing} {nm : ByteArray} {day : Int} (h : (loadB s xs && inB day 0 9999 && decide (0 ≤ indexF (nmT nm) xs)) = false) : checkF ⟨s, xs⟩ nm day = (⟨ByteArray.empty, []⟩, false) := by unfold checkF; simp only [h]; rfl
theorem checkF_yes {s : ByteArray} {xs : List Thing} {nm : ByteArray} {day : Int} {k : Nat} (h1 : loadB s xs = true) (h2 : inB day 0 9999 = true) (h3 : indexF (nmT nm) xs = k) : checkF ⟨s, xs⟩ nm day = (⟨s, xs.set k { nth xs k with Day := day }⟩, true) := by
  unfold checkF; simp only [h1, h2, h3]; simp
theorem checkF_len (x : Load) (nm : ByteArray) (day : Int) : (checkF x nm day).1.Things.length ≤ 1048576 := by
  unfold checkF; split
  · rename_i h; simp only [Bool.and_eq_true] at h
    have h1 := thingsB_len (loadB_things h.1.1)
    simp only [List.length_set]; omega
  · simp
set_option maxHeartbeats 4000000 in
theorem implCheckThing_any (s : ByteArray) (xs : List Thing) (nm : ByteArray) (day : Int) (A : Option Addr) (n c : Nat) (w : World) (hz : s.size ≤ maxLen) (hn : (n : Int) ≤ 9223372036854775807) (hs : Sl w A n xs) (hv : ∀ x, x ∈ xs → x.Name.size ≤ maxLen) :
    Calls Try.prog 41 #[.agg #[.string s, .slice A n c], .string nm, .int .i64 day] w (RetLoad2 w 72 (checkF ⟨s, xs⟩ nm day)) := by
  have HV := Lib.hid hv
  have HL := Lib.hid hs.1
  clear hv
  have hge := indexF_range (nmT nm) xs
  go_enter Try.func41, Try.ntmps41
  have hk0 := bl_refl w
  go_wp2_with fail
  refine (thingAt_any xs _ _ _ nm _ hn (hs.below (bl_trans hk0 (by repeat' (first | exact bl_refl _ | refine bl_alloc ?_ _ | refine bl_drew ?_ | refine bl_drewN ?_ _ | refine bl_set ?_ ?_ _ | (simp; done) | (simp; omega)))))).mono ?_
  rintro e V1 ⟨rfl, hb1⟩
  have hB1 := bl_trans (a := w) (by repeat' (first | exact bl_refl _ | refine bl_alloc ?_ _ | refine bl_drew ?_ | refine bl_drewN ?_ _ | refine bl_set ?_ ?_ _ | (simp; done) | (simp; omega))) hb1
  have hk1 := bl_trans hk0 hB1
  have z1 : Hid (w.heap.size + 2 ≤ V1.heap.size) := by have := hb1.size; simp only [World.size_alloc] at this; exact (by omega : _)
  have ba_0_1 : V1.cell? ⟨w.heap.size, 0, none⟩ = some (.string s) := cell_later hb1 (by go_simp)
  have ba_1_1 : V1.cell? ⟨w.heap.size, 1, none⟩ = some (.slice A n c) := cell_later hb1 (by go_simp)
  have la_1 : w.heap.size < V1.heap.size := World.block_lt_of_cell? _ _ ba_0_1
  have br_0_1 : V1.cell? ⟨w.heap.size + 1, 0, none⟩ = some (.string ⟨#[]⟩) := cell_later hb1 (by go_simp)
  have qr_0_1 : V1.frozen? ⟨w.heap.size + 1, 0, none⟩ = false := frozen_later hb1 (by simp) (by go_simp)
  have br_1_1 : V1.cell? ⟨w.heap.size + 1, 1, none⟩ = some (.slice none 0 0) := cell_later hb1 (by go_simp)
  have qr_1_1 : V1.frozen? ⟨w.heap.size + 1, 1, none⟩ = false := frozen_later hb1 (by simp) (by go_simp)
  have lr_1 : w.heap.size + 1 < V1.heap.size := World.block_lt_of_cell? _ _ br_0_1
  obtain ⟨i, hi⟩ : ∃ i, i = indexF (nmT nm) xs := ⟨_, rfl⟩
  rw [← hi] at hge ⊢
  have hi' := Lib.hid hi
  clear hi
  go_wp2_with fail
  refine (isLd_any s xs _ _ _ _ hz hn (hs.below hk1) HV.out).mono ?_
  rintro e V2 ⟨rfl, hb2⟩
  have hB2 := bl_trans (a := V1) (bl_refl _) hb2
  have hk2 := bl_trans hk1 hB2
  have z2 := Lib.hid hB2.size
  have ba_0_2 : V2.cell? ⟨w.heap.size, 0, none⟩ = some (.string s) := cell_later hB2 ba_0_1
  have ba_1_2 : V2.cell? ⟨w.heap.size, 1, none⟩ = some (.slice A n c) := cell_later hB2 ba_1_1
  have la_2 : w.heap.size < V2.heap.size := World.block_lt_of_cell? _ _ ba_0_2
  have br_0_2 : V2.cell? ⟨w.heap.size + 1, 0, none⟩ = some (.string ⟨#[]⟩) := cell_later hB2 br_0_1
  have qr_0_2 : V2.frozen? ⟨w.heap.size + 1, 0, none⟩ = false := frozen_later hB2 (World.block_lt_of_cell? _ _ br_0_1) qr_0_1
  have br_1_2 : V2.cell? ⟨w.heap.size + 1, 1, none⟩ = some (.slice none 0 0) := cell_later hB2 br_1_1
  have qr_1_2 : V2.frozen? ⟨w.heap.size + 1, 1, none⟩ = false := frozen_later hB2 (World.block_lt_of_cell? _ _ br_1_1) qr_1_1
  have lr_2 : w.heap.size + 1 < V2.heap.size := World.block_lt_of_cell? _ _ br_0_2
  clear hk1 ba_0_1 ba_1_1 la_1 br_0_1 qr_0_1 br_1_1 qr_1_1 lr_1
  cases h1 : loadB s xs
  · have Hz := Lib.hid (checkF_no (s := s) (xs := xs) (nm := nm) (day := day) (by rw [h1]; rfl))
    go_wp2
    refine bodyPost_ret (by simp [results, Try.results41, go_sem, br_0_2, br_1_2]; try rfl) rfl ?_
    exact retLoad2_mk Hz.out rfl (Own.nil _ _ _) (by repeat' (first | exact hk2 | refine bl_alloc ?_ _ | refine bl_set ?_ (by simp) _))
  have H1 := Lib.hid h1
  have HT : Hid (thingsB xs = true) := loadB_things h1
  have hnn : n ≤ 12 := by have := thingsB_len HT.out; have := HL.out; omega
  clear h1
  by_cases h0 : i < 0
  · have hd : decide (i < 0) = true := by simpa using h0
    have Hz := Lib.hid (checkF_no (s := s) (xs := xs) (nm := nm) (day := day) (by rw [← hi'.out, decide_eq_false (by omega : ¬ 0 ≤ i)]; simp))
    go_wp2
    refine bodyPost_ret (by simp [results, Try.results41, go_sem, br_0_2, br_1_2]; try rfl) rfl ?_
    exact retLoad2_mk Hz.out rfl (Own.nil _ _ _) (by repeat' (first | exact hk2 | refine bl_alloc ?_ _ | refine bl_set ?_ (by simp) _))
  have hd : decide (i < 0) = false := by simpa using h0
  obtain ⟨j, rfl⟩ := Int.eq_ofNat_of_zero_le (by omega : 0 ≤ i)
  have hj : j < n := by have := HL.out; omega
  have hjx : j < xs.length := by rw [HL.out]; exact hj
  go_wp2_with fail
  refine (isThingDay_any _ _).mono ?_
  rintro _ V2 ⟨rfl, rfl⟩
  cases h2 : inB day 0 9999
  · have Hz := Lib.hid (checkF_no (s := s) (xs := xs) (nm := nm) (day := day) (by rw [h2]; simp))
    go_wp2
    refine bodyPost_ret (by simp [results, Try.results41, go_sem, br_0_2, br_1_2]; try rfl) rfl ?_
    exact retLoad2_mk Hz.out rfl (Own.nil _ _ _) (by repeat' (first | exact hk2 | refine bl_alloc ?_ _ | refine bl_set ?_ (by simp) _))
  have H2 := Lib.hid h2
  clear h2
  have Hz := Lib.hid (checkF_yes (nm := nm) (day := day) H1.out H2.out hi'.out.symm)
  clear h0 hge
  go_wp2_with fail
  refine (copyLoad_any s xs _ _ _ _ (by omega) (hs.below hk2)).mono ?_
  rintro e V3 ⟨A_p, c_p, rfl, ho_p, hb3⟩
  have Ho : Hid (Own V3 _ 72 (.slice A_p xs.length c_p) xs) := ho_p
  have hB3 := bl_trans (a := V2) (bl_refl _) hb3
  have hk3 := bl_trans hk2 hB3
  have z3 := Lib.hid hB3.size
  have ba_0_3 : V3.cell? ⟨w.heap.size, 0, none⟩ = some (.string s) := cell_later hB3 ba_0_2
  have ba_1_3 : V3.cell? ⟨w.heap.size, 1, none⟩ = some (.slice A n c) := cell_later hB3 ba_1_2
  have la_3 : w.heap.size < V3.heap.size := World.block_lt_of_cell? _ _ ba_0_3
  have br_0_3 : V3.cell? ⟨w.heap.size + 1, 0, none⟩ = some (.string ⟨#[]⟩) := cell_later hB3 br_0_2
  have qr_0_3 : V3.frozen? ⟨w.heap.size + 1, 0, none⟩ = false := frozen_later hB3 (World.block_lt_of_cell? _ _ br_0_2) qr_0_2
  have br_1_3 : V3.cell? ⟨w.heap.size + 1, 1, none⟩ = some (.slice none 0 0) := cell_later hB3 br_1_2
  have qr_1_3 : V3.frozen? ⟨w.heap.size + 1, 1, none⟩ = false := frozen_later hB3 (World.block_lt_of_cell? _ _ br_1_2) qr_1_2
  have lr_3 : w.heap.size + 1 < V3.heap.size := World.block_lt_of_cell? _ _ br_0_3
  clear hk2 ba_0_2 ba_1_2 la_2 br_0_2 qr_0_2 br_1_2 qr_1_2 lr_2
  clear ho_p
  have ho_p := Ho.out
  clear Ho
  obtain ⟨g, rfl⟩ := ho_p.form (by omega)
  have d2 : V3.cell? ⟨g, j * 3 + 2, none⟩ = some (.int .i64 (nth xs j).Day) := ho_p.cellAt hjx 2 _ rfl
  have f2 := ho_p.frozenAt (j * 3 + 2)
  have hg : w.heap.size + 2 ≤ g := by have := (ho_p.lt g rfl).1; have := z1.out; have := z2.out; have := z3.out; omega
  have hg2 : g < V3.heap.size := (ho_p.lt g rfl).2
  have e1 : w.heap.size + 1 ≠ g := by omega
  have e2 : g ≠ w.heap.size + 1 := by omega
  have e3 : w.heap.size + 1 < V3.heap.size := by omega
  have e4 : V3.heap.size ≠ w.heap.size + 1 := by omega
  have e5 : V3.heap.size ≠ g := by omega
  have Ho := Lib.hid ho_p
  clear ho_p
  go_wp2
  refine bodyPost_ret (by simp [results, Try.results41, go_sem, *]; try rfl) rfl ?_
  refine retLoad2_mk Hz.out (by simp) (Own.mono (base := V2.heap.size) ?_ (by have := z1.out; have := z2.out; have := z3.out; omega)) ?_
  · refine Own.alloc ?_ _
    repeat' (first | exact Ho.out.put1 hjx 2 (by decide) rfl | refine Own.set ?_ (by have := z1.out; have := z2.out; have := z3.out; omega) _)
  · repeat' (first | exact hk3 | refine bl_alloc ?_ _ | refine bl_set ?_ (by simp only []; omega) _)
set_option maxHeartbeats 4000000 in
theorem specCheckThing_any (s : ByteArray) (xs : List Thing) (nm : ByteArray) (day : Int) (A : Option Addr) (n c : Nat) (w : World) (hz : s.size ≤ maxLen) (hn : (n : Int) ≤ 9223372036854775807) (hs : Sl w A n xs) (hv : ∀ x, x ∈ xs → x.Name.size ≤ maxLen) :
    Calls Try.prog 40 #[.agg #[.string s, .slice A n c], .string nm, .int .i64 day] w (RetLoad2 w 72 (checkF ⟨s, xs⟩ nm day)) := by
  have HV := Lib.hid hv
  have HL := Lib.hid hs.1
  clear hv
  have hge := indexF_range (nmT nm) xs
  go_enter Try.func40, Try.ntmps40
  have hk0 := bl_refl w
  go_wp2_with fail
  refine (eqFind_all xs _ _ _ nm _ hn (hs.below (bl_trans hk0 (by repeat' (first | exact bl_refl _ | refine bl_alloc ?_ _ | refine bl_drew ?_ | refine bl_drewN ?_ _ | refine bl_set ?_ ?_ _ | (simp; done) | (simp; omega)))))).mono ?_
  rintro e V1 ⟨i, b, rfl, hb1, hq⟩
  have HQ := Lib.hid hq
  clear hq
  have hB1 := bl_trans (a := w) (by repeat' (first | exact bl_refl _ | refine bl_alloc ?_ _ | refine bl_drew ?_ | refine bl_drewN ?_ _ | refine bl_set ?_ ?_ _ | (simp; done) | (simp; omega))) hb1
  have hk1 := bl_trans hk0 hB1
  have z1 : Hid (w.heap.size + 2 ≤ V1.heap.size) := by have := hb1.size; simp only [World.size_alloc] at this; exact (by omega : _)
  have ba_0_1 : V1.cell? ⟨w.heap.size, 0, none⟩ = some (.string s) := cell_later hb1 (by go_simp)
  have ba_1_1 : V1.cell? ⟨w.heap.size, 1, none⟩ = some (.slice A n c) := cell_later hb1 (by go_simp)
  have la_1 : w.heap.size < V1.heap.size := World.block_lt_of_cell? _ _ ba_0_1
  have br_0_1 : V1.cell? ⟨w.heap.size + 1, 0, none⟩ = some (.string ⟨#[]⟩) := cell_later hb1 (by go_simp)
  have qr_0_1 : V1.frozen? ⟨w.heap.size + 1, 0, none⟩ = false := frozen_later hb1 (by simp) (by go_simp)
  have br_1_1 : V1.cell? ⟨w.heap.size + 1, 1, none⟩ = some (.slice none 0 0) := cell_later hb1 (by go_simp)
  have qr_1_1 : V1.frozen? ⟨w.heap.size + 1, 1, none⟩ = false := frozen_later hb1 (by simp) (by go_simp)
  have lr_1 : w.heap.size + 1 < V1.heap.size := World.block_lt_of_cell? _ _ br_0_1
  go_wp2_with fail
  refine (eqLd_any s xs _ _ _ _ hz hn (hs.below hk1) HV.out).mono ?_
  rintro e V2 ⟨rfl, hb2⟩
  have hB2 := bl_trans (a := V1) (bl_refl _) hb2
  have hk2 := bl_trans hk1 hB2
  have z2 := Lib.hid hB2.size
  have ba_0_2 : V2.cell? ⟨w.heap.size, 0, none⟩ = some (.string s) := cell_later hB2 ba_0_1
  have ba_1_2 : V2.cell? ⟨w.heap.size, 1, none⟩ = some (.slice A n c) := cell_later hB2 ba_1_1
  have la_2 : w.heap.size < V2.heap.size := World.block_lt_of_cell? _ _ ba_0_2
  have br_0_2 : V2.cell? ⟨w.heap.size + 1, 0, none⟩ = some (.string ⟨#[]⟩) := cell_later hB2 br_0_1
  have qr_0_2 : V2.frozen? ⟨w.heap.size + 1, 0, none⟩ = false := frozen_later hB2 (World.block_lt_of_cell? _ _ br_0_1) qr_0_1
  have br_1_2 : V2.cell? ⟨w.heap.size + 1, 1, none⟩ = some (.slice none 0 0) := cell_later hB2 br_1_1
  have qr_1_2 : V2.frozen? ⟨w.heap.size + 1, 1, none⟩ = false := frozen_later hB2 (World.block_lt_of_cell? _ _ br_1_1) qr_1_1
  have lr_2 : w.heap.size + 1 < V2.heap.size := World.block_lt_of_cell? _ _ br_0_2
  clear hk1 ba_0_1 ba_1_1 la_1 br_0_1 qr_0_1 br_1_1 qr_1_1 lr_1
  cases h1 : loadB s xs
  · have Hz := Lib.hid (checkF_no (s := s) (xs := xs) (nm := nm) (day := day) (by rw [h1]; rfl))
    go_wp2
    refine bodyPost_ret (by simp [results, Try.results40, go_sem, br_0_2, br_1_2]; try rfl) rfl ?_
    exact retLoad2_mk Hz.out rfl (Own.nil _ _ _) (by repeat' (first | exact hk2 | refine bl_alloc ?_ _ | refine bl_set ?_ (by simp) _))
  have H1 := Lib.hid h1
  have HT : Hid (thingsB xs = true) := loadB_things h1
  have hnn : n ≤ 12 := by have := thingsB_len HT.out; have := HL.out; omega
  clear h1
  have hq := HQ.out (things_rise HT.out)
  rcases hq with ⟨rfl, hi⟩ | ⟨rfl, hi⟩
  rotate_left
  · have hi' := Lib.hid hi
    clear hi
    go_wp2_with fail
    refine (eqDay_any _ _).mono ?_
    rintro _ V2 ⟨rfl, rfl⟩
    have Hn : Hid ((loadB s xs && inB day 0 9999 && decide (0 ≤ indexF (nmT nm) xs)) = false) := by rw [Hid, hi'.out]; simp
    cases h2 : inB day 0 9999
    all_goals clear h2
    · have Hz := Lib.hid (checkF_no (s := s) (xs := xs) (nm := nm) (day := day) (Hn.out))
      go_wp2
      refine bodyPost_ret (by simp [results, Try.results40, go_sem, br_0_2, br_1_2]; try rfl) rfl ?_
      exact retLoad2_mk Hz.out rfl (Own.nil _ _ _) (by repeat' (first | exact hk2 | refine bl_alloc ?_ _ | refine bl_set ?_ (by simp) _))
    · have Hz := Lib.hid (checkF_no (s := s) (xs := xs) (nm := nm) (day := day) (Hn.out))
      go_wp2
      refine bodyPost_ret (by simp [results, Try.results40, go_sem, br_0_2, br_1_2]; try rfl) rfl ?_
      exact retLoad2_mk Hz.out rfl (Own.nil _ _ _) (by repeat' (first | exact hk2 | refine bl_alloc ?_ _ | refine bl_set ?_ (by simp) _))
  have hj := (indexF_at hi).1
  have hjx := hj
  rw [HL.out] at hj
  have hi' := Lib.hid hi
  clear hi hge
  go_wp2_with fail
  refine (eqDay_any _ _).mono ?_
  rintro _ V2 ⟨rfl, rfl⟩
  cases h2 : inB day 0 9999
  · have Hz := Lib.hid (checkF_no (s := s) (xs := xs) (nm := nm) (day := day) (by rw [h2]; simp))
    go_wp2
    refine bodyPost_ret (by simp [results, Try.results40, go_sem, br_0_2, br_1_2]; try rfl) rfl ?_
    exact retLoad2_mk Hz.out rfl (Own.nil _ _ _) (by repeat' (first | exact hk2 | refine bl_alloc ?_ _ | refine bl_set ?_ (by simp) _))
  have H2 := Lib.hid h2
  clear h2
  have Hz := Lib.hid (checkF_yes (nm := nm) (day := day) H1.out H2.out hi'.out)
  go_wp2_with fail
  refine (eqOwn_any s xs _ _ _ _ (by omega) (hs.below hk2)).mono ?_
  rintro e V3 ⟨A_p, c_p, rfl, ho_p, hb3⟩
  have Ho : Hid (Own V3 _ 72 (.slice A_p xs.length c_p) xs) := ho_p
  have hB3 := bl_trans (a := V2) (bl_refl _) hb3
  have hk3 := bl_trans hk2 hB3
  have z3 := Lib.hid hB3.size
  have ba_0_3 : V3.cell? ⟨w.heap.size, 0, none⟩ = some (.string s) := cell_later hB3 ba_0_2
  have ba_1_3 : V3.cell? ⟨w.heap.size, 1, none⟩ = some (.slice A n c) := cell_later hB3 ba_1_2
  have la_3 : w.heap.size < V3.heap.size := World.block_lt_of_cell? _ _ ba_0_3
  have br_0_3 : V3.cell? ⟨w.heap.size + 1, 0, none⟩ = some (.string ⟨#[]⟩) := cell_later hB3 br_0_2
  have qr_0_3 : V3.frozen? ⟨w.heap.size + 1, 0, none⟩ = false := frozen_later hB3 (World.block_lt_of_cell? _ _ br_0_2) qr_0_2
  have br_1_3 : V3.cell? ⟨w.heap.size + 1, 1, none⟩ = some (.slice none 0 0) := cell_later hB3 br_1_2
  have qr_1_3 : V3.frozen? ⟨w.heap.size + 1, 1, none⟩ = false := frozen_later hB3 (World.block_lt_of_cell? _ _ br_1_2) qr_1_2
  have lr_3 : w.heap.size + 1 < V3.heap.size := World.block_lt_of_cell? _ _ br_0_3
  clear hk2 ba_0_2 ba_1_2 la_2 br_0_2 qr_0_2 br_1_2 qr_1_2 lr_2
  clear ho_p
  have ho_p := Ho.out
  clear Ho
  obtain ⟨g, rfl⟩ := ho_p.form (by omega)
  have d0 : V3.cell? ⟨g, i * 3, none⟩ = some (.string (nth xs i).Name) := ho_p.cellAt hjx 0 _ rfl
  have d1 : V3.cell? ⟨g, i * 3 + 1, none⟩ = some (.int .i64 (nth xs i).Count) := ho_p.cellAt hjx 1 _ rfl
  have d2 : V3.cell? ⟨g, i * 3 + 2, none⟩ = some (.int .i64 (nth xs i).Day) := ho_p.cellAt hjx 2 _ rfl
  have f0 := ho_p.frozenAt (i * 3)
  have f1 := ho_p.frozenAt (i * 3 + 1)
  have f2 := ho_p.frozenAt (i * 3 + 2)
  have hg : w.heap.size + 2 ≤ g := by have := (ho_p.lt g rfl).1; have := z1.out; have := z2.out; have := z3.out; omega
  have hg2 : g < V3.heap.size := (ho_p.lt g rfl).2
  have e1 : w.heap.size + 1 ≠ g := by omega
  have e2 : g ≠ w.heap.size + 1 := by omega
  have e3 : w.heap.size + 1 < V3.heap.size := by omega
  have e4 : V3.heap.size ≠ w.heap.size + 1 := by omega
  have e5 : V3.heap.size ≠ g := by omega
  have e6 : V3.heap.size + 1 ≠ g := by omega
  have e7 : V3.heap.size + 1 ≠ w.heap.size + 1 := by omega
  have Ho := Lib.hid ho_p
  clear ho_p
  go_upto_region 8 with (fail)
  obtain ⟨V4, hW4⟩ : ∃ V, V = ((((V3.setCell ⟨g, i * 3, none⟩ (.string (nth xs i).Name)).setCell ⟨g, i * 3 + 1, none⟩ (.int .i64 (nth xs i).Count)).setCell ⟨g, i * 3 + 2, none⟩ (.int .i64 day)).alloc (.cells #[.string s, .slice (some ⟨g, 0, none⟩) xs.length c_p] 34)).alloc (.cells #[.string (nth xs i).Name, .int .i64 (nth xs i).Count, .int .i64 day] 72) := ⟨_, rfl⟩
  rw [← hW4]
  have hf4 : OnlyF [g] V3 V4 := by rw [hW4]; repeat' (first | exact OnlyF.refl _ _ | refine OnlyF.alloc ?_ _ | refine OnlyF.set ?_ (List.mem_singleton.2 rfl) _ | refine OnlyF.drew ?_)
  have hk4 : Below w.heap.size w V4 := by rw [hW4]; repeat' (first | exact hk3 | refine bl_alloc ?_ _ | refine bl_set ?_ (by simp only []; omega) _)
  have ba_0_4 : V4.cell? ⟨w.heap.size, 0, none⟩ = some (.string s) := hf4.keeps ba_0_3 (fun hm => by have hm := List.mem_singleton.1 hm; simp only [] at hm; omega)
  have ba_1_4 : V4.cell? ⟨w.heap.size, 1, none⟩ = some (.slice A n c) := hf4.keeps ba_1_3 (fun hm => by have hm := List.mem_singleton.1 hm; simp only [] at hm; omega)
  have la_4 : w.heap.size < V4.heap.size := World.block_lt_of_cell? _ _ ba_0_4
  have br_0_4 : V4.cell? ⟨w.heap.size + 1, 0, none⟩ = some (.string ⟨#[]⟩) := hf4.keeps br_0_3 (fun hm => by have hm := List.mem_singleton.1 hm; simp only [] at hm; omega)
  have qr_0_4 : V4.frozen? ⟨w.heap.size + 1, 0, none⟩ = false := (hf4.frozen (World.block_lt_of_cell? _ _ br_0_3) (fun hm => by have hm := List.mem_singleton.1 hm; simp only [] at hm; omega)).trans qr_0_3
  have br_1_4 : V4.cell? ⟨w.heap.size + 1, 1, none⟩ = some (.slice none 0 0) := hf4.keeps br_1_3 (fun hm => by have hm := List.mem_singleton.1 hm; simp only [] at hm; omega)
  have qr_1_4 : V4.frozen? ⟨w.heap.size + 1, 1, none⟩ = false := (hf4.frozen (World.block_lt_of_cell? _ _ br_1_3) (fun hm => by have hm := List.mem_singleton.1 hm; simp only [] at hm; omega)).trans qr_1_3
  have lr_4 : w.heap.size + 1 < V4.heap.size := World.block_lt_of_cell? _ _ br_0_4
  have bp_0_4 : V4.cell? ⟨V3.heap.size, 0, none⟩ = some (.string s) := by rw [hW4]; go_simp
  have bp_1_4 : V4.cell? ⟨V3.heap.size, 1, none⟩ = some (.slice (some ⟨g, 0, none⟩) xs.length c_p) := by rw [hW4]; go_simp
  have Hop4 : Hid (Own V4 V2.heap.size 72 (.slice (some ⟨g, 0, none⟩) xs.length c_p) (xs.set i { nth xs i with Day := day })) := by rw [hW4]; exact Own.alloc (Own.alloc (Ho.out.put hjx { nth xs i with Day := day }) _) _
  have z4 := Lib.hid hf4.size
  have HW4 := Lib.hid hW4
  clear hW4 hk3 ba_0_3 ba_1_3 la_3 br_0_3 qr_0_3 br_1_3 qr_1_3 lr_3
  clear e1 e2 e3 e4 e5 e6 e7 d0 d1 d2 f0 f1 f2 hf4
  go_wp2
  refine bodyPost_ret (by simp [results, Try.results40, go_sem, *]; try rfl) rfl ?_
  refine retLoad2_mk Hz.out (by simp) (Own.mono (base := V2.heap.size) ?_ (by have := z1.out; have := z2.out; have := z3.out; have := z4.out; omega)) ?_
  · repeat' (first | exact Hop4.out | refine Own.set ?_ (by have := z1.out; have := z2.out; have := z3.out; have := z4.out; omega) _)
  · repeat' (first | exact hk4 | refine bl_alloc ?_ _ | refine bl_set ?_ (by simp only []; omega) _)

end Go.Proofs.Ytmmaddlbaonajaa
