/-
  DueThings: both texts answer dueF. No conditions.
-/
import Derived.Test.YtmmaddlbaonajaaLoadA
import Derived.Test.YtmmaddlbaonajaaStrs
import Derived.Test.YtmmaddlbaonajaaThingG
namespace Go.Proofs.Ytmmaddlbaonajaa
open Go.RowKit

def dueG (day every : Int) (x : Thing) : Option ByteArray := if every ≤ day - x.Day then some x.Name else none
def dueL (day every : Int) (xs : List Thing) : List ByteArray := xs.filterMap (dueG day every)
def dueF (x : Load) (day every : Int) : List ByteArray × Bool := if loadB x.Appliance x.Things && inB day 0 9999 && inB every 1 1000 then (dueL day every x.Things, true) else ([], false)
theorem dueG_yes {day every : Int} {x : Thing} (h : every ≤ day - x.Day) : dueG day every x = some x.Name := by unfold dueG; rw [if_pos h]
theorem dueG_no {day every : Int} {x : Thing} (h : ¬ every ≤ day - x.Day) : dueG day every x = none := by unfold dueG; rw [if_neg h]
theorem dueF_yes {s : ByteArray} {xs : List Thing} {day every : Int} (h1 : loadB s xs = true) (h2 : inB day 0 9999 = true) (h3 : inB every 1 1000 = true) : dueF ⟨s, xs⟩ day every = (dueL day every xs, true) := by unfold dueF; simp only [h1, h2, h3]; rfl
theorem dueF_no {s : ByteArray} {xs : List Thing} {day every : Int} (h : (loadB s xs && inB day 0 9999 && inB every 1 1000) = false) : dueF ⟨s, xs⟩ day every = ([], false) := by unfold dueF; simp only [h]; rfl
theorem loadB_things {s : ByteArray} {xs : List Thing} (h : loadB s xs = true) : thingsB xs = true := by unfold loadB at h; simp only [Bool.and_eq_true] at h; exact h.2
theorem day_in {xs : List Thing} (h : thingsB xs = true) {k : Nat} (hk : k < xs.length) : 0 ≤ (nth xs k).Day ∧ (nth xs k).Day ≤ 9999 := by
  have h1 := thingsB_at h hk
  unfold okThing inB at h1
  simp only [Bool.and_eq_true, decide_eq_true_eq] at h1
  exact h1.1.2
theorem dueF_len (x : Load) (day every : Int) : (dueF x day every).1.length ≤ 1048576 := by
  unfold dueF; split
  · rename_i h; simp only [Bool.and_eq_true] at h
    have h1 := thingsB_len (loadB_things h.1.1)
    have h2 : (dueL day every x.Things).length ≤ x.Things.length := List.length_filterMap_le _ _
    simp only; omega
  · simp
set_option maxHeartbeats 2000000 in
theorem specDueThings_any (s : ByteArray) (xs : List Thing) (day every : Int) (A : Option Addr) (n c : Nat) (w : World) (hz : s.size ≤ maxLen) (hn : (n : Int) ≤ 9223372036854775807) (hs : Sl w A n xs) (hv : ∀ x, x ∈ xs → x.Name.size ≤ maxLen) :
    Calls Try.prog 29 #[.agg #[.string s, .slice A n c], .int .i64 day, .int .i64 every] w (RetOwn2 w 9 (dueF ⟨s, xs⟩ day every)) := by
  have HV := Lib.hid hv
  have HL := Lib.hid hs.1
  clear hv
  go_enter Try.func29, Try.ntmps29
  go_wp2_with fail
  refine (eqLd_any s xs _ _ _ _ hz hn (hs.below (bl_alloc (bl_refl _) _)) HV.out).mono ?_
  rintro e V1 ⟨rfl, hb1⟩
  have hk1 := bl_trans (bl_alloc (bl_refl w) (.cells #[.string s, .slice A n c] 34)) hb1
  have e1 : V1.cell? ⟨w.heap.size, 1, none⟩ = some (.slice A n c) := cell_later hb1 (by go_simp)
  clear hb1
  cases h1 : loadB s xs
  · have Hz := Lib.hid (dueF_no (s := s) (xs := xs) (day := day) (every := every) (by rw [h1]; rfl))
    clear h1
    go_wp2
    go_ret2
    exact retOwn2_mk Hz.out (Own.nil _ _ _) hk1
  have H1 := Lib.hid h1
  clear h1
  go_wp2_with fail
  refine (eqDay_any _ _).mono ?_
  rintro e V2 ⟨rfl, rfl⟩
  cases h2 : inB day 0 9999
  · have Hz := Lib.hid (dueF_no (s := s) (xs := xs) (day := day) (every := every) (by rw [h2]; simp))
    clear h2
    go_wp2
    go_ret2
    exact retOwn2_mk Hz.out (Own.nil _ _ _) hk1
  have H2 := Lib.hid h2
  obtain ⟨d0, d1⟩ := inB_iff.1 h2
  clear h2
  go_wp2_with fail
  refine (l1In_any _ _ _ _).mono ?_
  rintro e V2 ⟨rfl, rfl⟩
  cases h3 : inB every 1 1000
  · have Hz := Lib.hid (dueF_no (s := s) (xs := xs) (day := day) (every := every) (by rw [h3]; simp))
    clear h3
    go_wp2
    go_ret2
    exact retOwn2_mk Hz.out (Own.nil _ _ _) hk1
  obtain ⟨d2, d3⟩ := inB_iff.1 h3
  have Hz := Lib.hid (dueF_yes (s := s) (xs := xs) (day := day) (every := every) H1.out H2.out h3)
  have HT : Hid (thingsB xs = true) := loadB_things H1.out
  have hnn : n ≤ 12 := by have := thingsB_len HT.out; have := HL.out; omega
  clear h3
  go_wp2
  clear e1
  go_loopw [8, 27] (fun v i wr => ∃ (k q c' : Nat) (A' : Option Addr), k ≤ n ∧ i = .int .i64 k ∧ v = .slice A' q c' ∧ q ≤ k ∧ Own wr w.heap.size 9 (.slice A' q c') ((xs.take k).filterMap (dueG day every)) ∧ Below w.heap.size w wr) (fun _ i _ => n - (intOf i).toNat)
  case atStart => exact ⟨0, 0, 0, none, Nat.zero_le _, rfl, rfl, Nat.le_refl _, Own.nil _ _ _, hk1⟩
  case round =>
    obtain ⟨k, q, c', A', hk, rfl, rfl, hq, ho, hb⟩ := hrel
    by_cases hlt : k < n
    · obtain ⟨b, o, rfl, hbz, c0, c1, c2⟩ := (hs.below hb).thing hlt
      have hkx : Hid (k < xs.length) := by rw [Hid, HL.out]; exact hlt
      obtain ⟨u1, u2⟩ := day_in HT.out hkx.out
      clear hs
      by_cases hd : every ≤ day - (nth xs k).Day
      · have hp := Lib.hid (dueG_yes (x := nth xs k) hd)
        have hge : decide (day - (nth xs k).Day ≥ every) = true := by simpa using hd
        go_wp2_with ((at_builtin; refine wpList_app1g rfl (.tmp 37) (.tmp 40) _ _ rfl el_str (nth xs k).Name rfl (ho.alloc _) (bl_alloc hb _) rfl (by simp) (by omega) ?_; intro A2 c2 w2 ho2 hb2 hg2))
        go_roundw
        case rel => exact ⟨k + 1, q + 1, c2, A2, by omega, by go_num, rfl, by omega, by rw [fmap_yes hkx.out hp.out]; exact ho2, hb2⟩
        case measure => simp [intOf]; omega
      · have hp := Lib.hid (dueG_no (x := nth xs k) hd)
        have hge : decide (day - (nth xs k).Day ≥ every) = false := by simpa using hd
        go_wp2
        go_roundw
        case rel => exact ⟨k + 1, q, c', A', by omega, by go_num, rfl, by omega, by rw [fmap_no hkx.out hp.out]; exact ho.alloc _, bl_alloc hb _⟩
        case measure => simp [intOf]; omega
    · obtain rfl : k = n := by omega
      have hfin : Hid ((xs.take k).filterMap (dueG day every) = dueL day every xs) := by rw [Hid, List.take_of_length_le (by rw [HL.out]; exact Nat.le_refl _)]; rfl
      have hq2 := ho.sl.1
      rw [hfin.out] at ho hq2
      have hq3 := Lib.hid hq2
      clear hq2
      go_wp2
      go_ret2
      exact retOwn2_mk Hz.out ho hb
set_option maxHeartbeats 2000000 in
theorem implDueThings_any (s : ByteArray) (xs : List Thing) (day every : Int) (A : Option Addr) (n c : Nat) (w : World) (hz : s.size ≤ maxLen) (hn : (n : Int) ≤ 9223372036854775807) (hs : Sl w A n xs) (hv : ∀ x, x ∈ xs → x.Name.size ≤ maxLen) :
    Calls Try.prog 30 #[.agg #[.string s, .slice A n c], .int .i64 day, .int .i64 every] w (RetOwn2 w 9 (dueF ⟨s, xs⟩ day every)) := by
  have HV := Lib.hid hv
  have HL := Lib.hid hs.1
  clear hv
  go_enter Try.func30, Try.ntmps30
  go_wp2_with fail
  refine (isLd_any s xs _ _ _ _ hz hn (hs.below (bl_alloc (bl_refl _) _)) HV.out).mono ?_
  rintro e V1 ⟨rfl, hb1⟩
  have hk1 := bl_trans (bl_alloc (bl_refl w) (.cells #[.string s, .slice A n c] 34)) hb1
  have e1 : V1.cell? ⟨w.heap.size, 1, none⟩ = some (.slice A n c) := cell_later hb1 (by go_simp)
  clear hb1
  cases h1 : loadB s xs
  · have Hz := Lib.hid (dueF_no (s := s) (xs := xs) (day := day) (every := every) (by rw [h1]; rfl))
    clear h1
    go_wp2
    go_ret2
    exact retOwn2_mk Hz.out (Own.nil _ _ _) hk1
  have H1 := Lib.hid h1
  clear h1
  go_wp2_with fail
  refine (isThingDay_any _ _).mono ?_
  rintro e V2 ⟨rfl, rfl⟩
  cases h2 : inB day 0 9999
  · have Hz := Lib.hid (dueF_no (s := s) (xs := xs) (day := day) (every := every) (by rw [h2]; simp))
    clear h2
    go_wp2
    go_ret2
    exact retOwn2_mk Hz.out (Own.nil _ _ _) hk1
  have H2 := Lib.hid h2
  obtain ⟨d0, d1⟩ := inB_iff.1 h2
  clear h2
  go_wp2_with fail
  refine (inside_any _ _ _ _).mono ?_
  rintro e V2 ⟨rfl, rfl⟩
  cases h3 : inB every 1 1000
  · have Hz := Lib.hid (dueF_no (s := s) (xs := xs) (day := day) (every := every) (by rw [h3]; simp))
    clear h3
    go_wp2
    go_ret2
    exact retOwn2_mk Hz.out (Own.nil _ _ _) hk1
  obtain ⟨d2, d3⟩ := inB_iff.1 h3
  have Hz := Lib.hid (dueF_yes (s := s) (xs := xs) (day := day) (every := every) H1.out H2.out h3)
  have HT : Hid (thingsB xs = true) := loadB_things H1.out
  have hnn : n ≤ 12 := by have := thingsB_len HT.out; have := HL.out; omega
  clear h3
  go_wp2
  clear e1
  go_loopw [8, 27] (fun v i wr => ∃ (k q c' : Nat) (A' : Option Addr), k ≤ n ∧ i = .int .i64 k ∧ v = .slice A' q c' ∧ q ≤ k ∧ Own wr w.heap.size 9 (.slice A' q c') ((xs.take k).filterMap (dueG day every)) ∧ Below w.heap.size w wr) (fun _ i _ => n - (intOf i).toNat)
  case atStart => exact ⟨0, 0, 0, none, Nat.zero_le _, rfl, rfl, Nat.le_refl _, Own.nil _ _ _, hk1⟩
  case round =>
    obtain ⟨k, q, c', A', hk, rfl, rfl, hq, ho, hb⟩ := hrel
    by_cases hlt : k < n
    · obtain ⟨b, o, rfl, hbz, c0, c1, c2⟩ := (hs.below hb).thing hlt
      have hkx : Hid (k < xs.length) := by rw [Hid, HL.out]; exact hlt
      obtain ⟨u1, u2⟩ := day_in HT.out hkx.out
      clear hs
      by_cases hd : every ≤ day - (nth xs k).Day
      · have hp := Lib.hid (dueG_yes (x := nth xs k) hd)
        have hge : decide (day - (nth xs k).Day ≥ every) = true := by simpa using hd
        go_wp2_with ((at_builtin; refine wpList_app1g rfl (.tmp 37) (.tmp 40) _ _ rfl el_str (nth xs k).Name rfl (ho.alloc _) (bl_alloc hb _) rfl (by simp) (by omega) ?_; intro A2 c2 w2 ho2 hb2 hg2))
        go_roundw
        case rel => exact ⟨k + 1, q + 1, c2, A2, by omega, by go_num, rfl, by omega, by rw [fmap_yes hkx.out hp.out]; exact ho2, hb2⟩
        case measure => simp [intOf]; omega
      · have hp := Lib.hid (dueG_no (x := nth xs k) hd)
        have hge : decide (day - (nth xs k).Day ≥ every) = false := by simpa using hd
        go_wp2
        go_roundw
        case rel => exact ⟨k + 1, q, c', A', by omega, by go_num, rfl, by omega, by rw [fmap_no hkx.out hp.out]; exact ho.alloc _, bl_alloc hb _⟩
        case measure => simp [intOf]; omega
    · obtain rfl : k = n := by omega
      have hfin : Hid ((xs.take k).filterMap (dueG day every) = dueL day every xs) := by rw [Hid, List.take_of_length_le (by rw [HL.out]; exact Nat.le_refl _)]; rfl
      have hq2 := ho.sl.1
      rw [hfin.out] at ho hq2
      have hq3 := Lib.hid hq2
      clear hq2
      go_wp2
      go_ret2
      exact retOwn2_mk Hz.out ho hb

end Go.Proofs.Ytmmaddlbaonajaa
