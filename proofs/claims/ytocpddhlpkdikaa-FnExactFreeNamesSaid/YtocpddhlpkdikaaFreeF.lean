/-
  FreeNames: both texts answer freeF. No conditions.
-/
import Derived.Test.YtocpddhlpkdikaaOpnF
import Derived.Test.YtocpddhlpkdikaaApplB
namespace Go.Proofs.Ytocpddhlpkdikaa
open Go.RowKit

def freeG (xs : List Incident) (a : Appliance) : Option ByteArray := if atB xs a.Name < 0 then some a.Name else none
def freeL (xs : List Incident) (fs : List Appliance) : List ByteArray := fs.filterMap (freeG xs)
def freeF (xs : List Incident) (fs : List Appliance) : List ByteArray × Bool := if incsB xs && fleetB fs then (freeL xs fs, true) else ([], false)
theorem freeG_yes {xs : List Incident} {a : Appliance} (h : atB xs a.Name < 0) : freeG xs a = some a.Name := by unfold freeG; rw [if_pos h]
theorem freeG_no {xs : List Incident} {a : Appliance} (h : ¬ atB xs a.Name < 0) : freeG xs a = none := by unfold freeG; rw [if_neg h]
theorem freeF_yes {xs : List Incident} {fs : List Appliance} (h : incsB xs = true) (h' : fleetB fs = true) : freeF xs fs = (freeL xs fs, true) := by unfold freeF; rw [h, h']; rfl
theorem freeF_no {xs : List Incident} {fs : List Appliance} (h : (incsB xs && fleetB fs) = false) : freeF xs fs = ([], false) := by unfold freeF; rw [if_neg (by rw [h]; exact Bool.false_ne_true)]
theorem freeF_len (xs : List Incident) (fs : List Appliance) : (freeF xs fs).1.length ≤ 1048576 := by
  unfold freeF; split
  · rename_i h
    simp only [Bool.and_eq_true] at h
    have h1 := fleetB_len h.2
    have h2 : (freeL xs fs).length ≤ fs.length := List.length_filterMap_le _ _
    simp only; omega
  · simp
set_option maxHeartbeats 4000000 in
theorem specFreeNames_any (xs : List Incident) (fs : List Appliance) (A B : Option Addr) (n c m d : Nat) (w : World) (hn : (n : Int) ≤ 9223372036854775807) (hm : (m : Int) ≤ 9223372036854775807) (hc : n ≤ c) (hs : Sl w A n xs) (ht : Sl w B m fs) (hv : ∀ x, x ∈ xs → ∀ y, y ∈ x.Names → y.size ≤ maxLen) (hv2 : ∀ x, x ∈ fs → x.Name.size ≤ maxLen) :
    Calls Try.prog 32 #[.slice A n c, .slice B m d] w (RetOwn2 w 9 (freeF xs fs)) := by
  have HV := Lib.hid hv
  have HV2 := Lib.hid hv2
  have HL := Lib.hid ht.1
  clear hv hv2
  go_enter Try.func32, Try.ntmps32
  have hk0 := bl_refl w
  go_wp2_with fail
  refine (ixGood_any xs _ _ _ _ hn hc hs HV.out).mono ?_
  rintro e V1 ⟨rfl, hb1⟩
  have hB1 := bl_trans (a := w) (bl_refl _) hb1
  have hk1 := bl_trans hk0 hB1
  have z1 := Lib.hid hB1.size
  cases h0 : incsB xs
  · have Hz := Lib.hid (freeF_no (xs := xs) (fs := fs) (by rw [h0]; first | done | simp))
    clear h0
    go_wp2
    go_ret2
    exact retOwn2_mk Hz.out (Own.nil _ _ _) hk1
  have H0 := Lib.hid h0
  clear h0
  go_wp2_with fail
  refine (apFleet_any fs _ _ _ _ hm (ht.below hk1) HV2.out).mono ?_
  rintro e V2 ⟨rfl, hb2⟩
  have hB2 := bl_trans (a := V1) (bl_refl _) hb2
  have hk2 := bl_trans hk1 hB2
  have z2 := Lib.hid hB2.size
  clear hk1
  cases h1 : fleetB fs
  · have Hz := Lib.hid (freeF_no (xs := xs) (fs := fs) (by rw [h1]; first | done | simp))
    clear h1
    go_wp2
    go_ret2
    exact retOwn2_mk Hz.out (Own.nil _ _ _) hk2
  have H1 := Lib.hid h1
  clear h1
  have Hz := Lib.hid (freeF_yes H0.out H1.out)
  have hn8 : m ≤ 12 := by have := fleetB_len H1.out; have := HL.out; omega
  go_wp2
  go_loopw [6, 19] (fun v i wr => ∃ (k q c' : Nat) (A' : Option Addr), k ≤ m ∧ i = .int .i64 k ∧ v = .slice A' q c' ∧ q ≤ k ∧ Own wr w.heap.size 9 (.slice A' q c') ((fs.take k).filterMap (freeG xs)) ∧ Below w.heap.size w wr) (fun _ i _ => m - (intOf i).toNat)
  case atStart => exact ⟨0, 0, 0, none, Nat.zero_le _, rfl, rfl, Nat.le_refl _, Own.nil _ _ _, hk2⟩
  case round =>
    obtain ⟨k, q, c', A', hk, rfl, rfl, hq, ho, hb⟩ := hrel
    by_cases hlt : k < m
    · obtain ⟨b, o, rfl, hbz, c0, c1, c2, c3, c4⟩ := (ht.below hb).appliance hlt
      have hkx : Hid (k < fs.length) := by rw [Hid, HL.out]; exact hlt
      have hs' := hs.below hb
      clear ht
      go_wp2_with fail
      refine (ixOf_any xs (nth fs k).Name _ _ _ _ hn (hs'.below (bl_alloc (bl_refl _) _))).mono ?_
      rintro e V ⟨rfl, hV⟩
      have hB := bl_trans (bl_alloc (bl_refl wr) (.cells #[.string (nth fs k).Name, .int .i64 (nth fs k).Kind, .int .i64 (nth fs k).Node, .int .i64 (nth fs k).Crew, .int .i64 (nth fs k).State] 73)) hV
      have hbV := bl_trans hb hB
      have hoV := ho.below hB
      have x0 : V.cell? ⟨wr.heap.size, 0, none⟩ = some (.string (nth fs k).Name) := cell_later hV (by go_simp)
      have xz : wr.heap.size < V.heap.size := World.block_lt_of_cell? V _ x0
      obtain ⟨i, hi⟩ : ∃ i, i = atB xs (nth fs k).Name := ⟨_, rfl⟩
      rw [← hi]
      have HI := Lib.hid hi.symm
      clear ho hs hs' c0 c1 c2 c3 c4 hi
      by_cases hd : i < 0
      · have hp := Lib.hid (freeG_yes (a := nth fs k) (by rw [HI.out]; exact hd))
        have hd2 : decide (i < 0) = true := by simpa using hd
        go_wp2_with ((at_builtin; refine wpList_app1g rfl (.tmp 28) (.tmp 31) _ _ rfl el_str (nth fs k).Name rfl hoV hbV rfl (by simp) (by omega) ?_; intro A3 c3' w2 ho2 hb2 hg2))
        go_roundw
        case rel => exact ⟨k + 1, q + 1, c3', A3, by omega, by go_num, rfl, by omega, by rw [fmap_yes hkx.out hp.out]; exact ho2, hb2⟩
        case measure => simp [intOf]; omega
      · have hp := Lib.hid (freeG_no (a := nth fs k) (by rw [HI.out]; exact hd))
        have hd2 : decide (i < 0) = false := by simpa using hd
        go_wp2
        go_roundw
        case rel => exact ⟨k + 1, q, c', A', by omega, by go_num, rfl, by omega, by rw [fmap_no hkx.out hp.out]; exact hoV, hbV⟩
        case measure => simp [intOf]; omega
    · obtain rfl : k = m := by omega
      have hfin : Hid ((fs.take k).filterMap (freeG xs) = freeL xs fs) := by rw [Hid, List.take_of_length_le (by rw [HL.out]; exact Nat.le_refl _)]; rfl
      have hq2 := ho.sl.1
      rw [hfin.out] at ho hq2
      have hq3 := Lib.hid hq2
      clear hq2
      go_wp2
      go_ret2
      exact retOwn2_mk Hz.out ho hb
set_option maxHeartbeats 4000000 in
theorem implFreeNames_any (xs : List Incident) (fs : List Appliance) (A B : Option Addr) (n c m d : Nat) (w : World) (hn : (n : Int) ≤ 9223372036854775807) (hm : (m : Int) ≤ 9223372036854775807) (hc : n ≤ c) (hs : Sl w A n xs) (ht : Sl w B m fs) (hv : ∀ x, x ∈ xs → ∀ y, y ∈ x.Names → y.size ≤ maxLen) (hv2 : ∀ x, x ∈ fs → x.Name.size ≤ maxLen) :
    Calls Try.prog 34 #[.slice A n c, .slice B m d] w (RetOwn2 w 9 (freeF xs fs)) := by
  have HV := Lib.hid hv
  have HV2 := Lib.hid hv2
  have HL := Lib.hid ht.1
  clear hv hv2
  go_enter Try.func34, Try.ntmps34
  have hk0 := bl_refl w
  go_wp2_with fail
  refine (areIncidents_any xs _ _ _ _ hn hc hs HV.out).mono ?_
  rintro e V1 ⟨rfl, hb1⟩
  have hB1 := bl_trans (a := w) (bl_refl _) hb1
  have hk1 := bl_trans hk0 hB1
  have z1 := Lib.hid hB1.size
  cases h0 : incsB xs
  · have Hz := Lib.hid (freeF_no (xs := xs) (fs := fs) (by rw [h0]; first | done | simp))
    clear h0
    go_wp2
    go_ret2
    exact retOwn2_mk Hz.out (Own.nil _ _ _) hk1
  have H0 := Lib.hid h0
  clear h0
  go_wp2_with fail
  refine (isFleet_any fs _ _ _ _ hm (ht.below hk1) HV2.out).mono ?_
  rintro e V2 ⟨rfl, hb2⟩
  have hB2 := bl_trans (a := V1) (bl_refl _) hb2
  have hk2 := bl_trans hk1 hB2
  have z2 := Lib.hid hB2.size
  clear hk1
  cases h1 : fleetB fs
  · have Hz := Lib.hid (freeF_no (xs := xs) (fs := fs) (by rw [h1]; first | done | simp))
    clear h1
    go_wp2
    go_ret2
    exact retOwn2_mk Hz.out (Own.nil _ _ _) hk2
  have H1 := Lib.hid h1
  clear h1
  have Hz := Lib.hid (freeF_yes H0.out H1.out)
  have hn8 : m ≤ 12 := by have := fleetB_len H1.out; have := HL.out; omega
  go_wp2
  go_loopw [6, 19] (fun v i wr => ∃ (k q c' : Nat) (A' : Option Addr), k ≤ m ∧ i = .int .i64 k ∧ v = .slice A' q c' ∧ q ≤ k ∧ Own wr w.heap.size 9 (.slice A' q c') ((fs.take k).filterMap (freeG xs)) ∧ Below w.heap.size w wr) (fun _ i _ => m - (intOf i).toNat)
  case atStart => exact ⟨0, 0, 0, none, Nat.zero_le _, rfl, rfl, Nat.le_refl _, Own.nil _ _ _, hk2⟩
  case round =>
    obtain ⟨k, q, c', A', hk, rfl, rfl, hq, ho, hb⟩ := hrel
    by_cases hlt : k < m
    · obtain ⟨b, o, rfl, hbz, c0, c1, c2, c3, c4⟩ := (ht.below hb).appliance hlt
      have hkx : Hid (k < fs.length) := by rw [Hid, HL.out]; exact hlt
      have hs' := hs.below hb
      clear ht
      go_wp2_with fail
      refine (committedAt_any xs (nth fs k).Name _ _ _ _ hn (hs'.below (bl_alloc (bl_refl _) _))).mono ?_
      rintro e V ⟨rfl, hV⟩
      have hB := bl_trans (bl_alloc (bl_refl wr) (.cells #[.string (nth fs k).Name, .int .i64 (nth fs k).Kind, .int .i64 (nth fs k).Node, .int .i64 (nth fs k).Crew, .int .i64 (nth fs k).State] 73)) hV
      have hbV := bl_trans hb hB
      have hoV := ho.below hB
      have x0 : V.cell? ⟨wr.heap.size, 0, none⟩ = some (.string (nth fs k).Name) := cell_later hV (by go_simp)
      have xz : wr.heap.size < V.heap.size := World.block_lt_of_cell? V _ x0
      obtain ⟨i, hi⟩ : ∃ i, i = atB xs (nth fs k).Name := ⟨_, rfl⟩
      rw [← hi]
      have HI := Lib.hid hi.symm
      clear ho hs hs' c0 c1 c2 c3 c4 hi
      by_cases hd : i < 0
      · have hp := Lib.hid (freeG_yes (a := nth fs k) (by rw [HI.out]; exact hd))
        have hd2 : decide (i < 0) = true := by simpa using hd
        go_wp2_with ((at_builtin; refine wpList_app1g rfl (.tmp 28) (.tmp 31) _ _ rfl el_str (nth fs k).Name rfl hoV hbV rfl (by simp) (by omega) ?_; intro A3 c3' w2 ho2 hb2 hg2))
        go_roundw
        case rel => exact ⟨k + 1, q + 1, c3', A3, by omega, by go_num, rfl, by omega, by rw [fmap_yes hkx.out hp.out]; exact ho2, hb2⟩
        case measure => simp [intOf]; omega
      · have hp := Lib.hid (freeG_no (a := nth fs k) (by rw [HI.out]; exact hd))
        have hd2 : decide (i < 0) = false := by simpa using hd
        go_wp2
        go_roundw
        case rel => exact ⟨k + 1, q, c', A', by omega, by go_num, rfl, by omega, by rw [fmap_no hkx.out hp.out]; exact hoV, hbV⟩
        case measure => simp [intOf]; omega
    · obtain rfl : k = m := by omega
      have hfin : Hid ((fs.take k).filterMap (freeG xs) = freeL xs fs) := by rw [Hid, List.take_of_length_le (by rw [HL.out]; exact Nat.le_refl _)]; rfl
      have hq2 := ho.sl.1
      rw [hfin.out] at ho hq2
      have hq3 := Lib.hid hq2
      clear hq2
      go_wp2
      go_ret2
      exact retOwn2_mk Hz.out ho hb

end Go.Proofs.Ytocpddhlpkdikaa
