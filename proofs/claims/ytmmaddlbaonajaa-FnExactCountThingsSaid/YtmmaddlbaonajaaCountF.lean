/-
  CountThings: both texts answer countT. No conditions.
-/
import Derived.Test.YtmmaddlbaonajaaLoadsA
namespace Go.Proofs.Ytmmaddlbaonajaa
open Go.RowKit

theorem count_at {most : Int} {xs : List Load} (h : loadsB most xs = true) {k : Nat} (hk : k < xs.length) (nm : ByteArray) : 0 ≤ countF (nth xs k).Things nm ∧ countF (nth xs k).Things nm ≤ 99 := countF_in (loadB_things (loadsB_at h hk)) nm
/-- how many of a thing all the loads hold -/
def sumC (nm : ByteArray) (xs : List Load) : Int := (xs.map fun x => countF x.Things nm).sum
theorem sumC_succ {nm : ByteArray} {xs : List Load} {k : Nat} (hk : k < xs.length) : sumC nm (xs.take (k + 1)) = sumC nm (xs.take k) + countF (nth xs k).Things nm := by
  unfold sumC; rw [take_succ hk, List.map_append, List.sum_append]; simp
def countT (xs : List Load) (nm : ByteArray) : Int × Bool := if loadsB 7 xs && wordB 8 nm then (sumC nm xs, true) else (0, false)
theorem countT_yes {xs : List Load} {nm : ByteArray} (h : loadsB 7 xs = true) (h' : wordB 8 nm = true) : countT xs nm = (sumC nm xs, true) := by unfold countT; simp only [h, h']; rfl
theorem countT_no {xs : List Load} {nm : ByteArray} (h : (loadsB 7 xs && wordB 8 nm) = false) : countT xs nm = (0, false) := by unfold countT; simp only [h]; rfl
theorem ret_ib {a a' : Int} {b b' : Bool} (h : a = a') (h' : b = b') : Ending.returned (.tuple #[.int .i64 a, .bool b]) = .returned (.tuple #[.int .i64 a', .bool b']) := by rw [h, h']
set_option maxHeartbeats 4000000 in
theorem specCountThings_any (xs : List Load) (nm : ByteArray) (A : Option Addr) (n c : Nat) (w : World) (hz : nm.size ≤ maxLen) (hn : (n : Int) ≤ 9223372036854775807) (hc : n ≤ c) (hs : Sl w A n xs) (hv : ∀ x, x ∈ xs → x.Appliance.size ≤ maxLen ∧ ∀ y, y ∈ x.Things → y.Name.size ≤ maxLen) :
    Calls Try.prog 36 #[.slice A n c, .string nm] w fun e w' => e = .returned (.tuple #[.int .i64 (countT xs nm).1, .bool (countT xs nm).2]) ∧ Below w.heap.size w w' := by
  have HL := Lib.hid hs.1
  have HV := Lib.hid hv
  clear hv
  go_enter Try.func36, Try.ntmps36
  go_wp2_with fail
  refine (eqLoads_any xs 7 _ _ _ _ hn hc hs HV.out).mono ?_
  rintro e V1 ⟨rfl, hb1⟩
  cases h1 : loadsB 7 xs
  · have Hz := Lib.hid (countT_no (xs := xs) (nm := nm) (by rw [h1]; rfl))
    clear h1
    go_wp2
    go_ret2
    exact ⟨ret_ib (by rw [Hz.out]) (by rw [Hz.out]), hb1⟩
  have H1 := Lib.hid h1
  clear h1
  go_wp2_with fail
  refine (eqName_any nm _ hz).mono ?_
  rintro e V1 ⟨rfl, rfl⟩
  cases h2 : wordB 8 nm
  · have Hz := Lib.hid (countT_no (xs := xs) (nm := nm) (by rw [h2]; simp))
    clear h2
    go_wp2
    go_ret2
    exact ⟨ret_ib (by rw [Hz.out]) (by rw [Hz.out]), hb1⟩
  have Hz := Lib.hid (countT_yes H1.out h2)
  have hn7 : n ≤ 7 := by have := loadsB_len H1.out; have := HL.out; omega
  clear h2
  go_wp2
  go_loopw [6, 19] (fun u i wr => ∃ (k : Nat) (q : Int), k ≤ n ∧ i = .int .i64 k ∧ u = .int .i64 q ∧ 0 ≤ q ∧ q ≤ 99 * (k : Int) ∧ Hid (q = sumC nm (xs.take k)) ∧ Below w.heap.size w wr) (fun _ i _ => n - (intOf i).toNat)
  case atStart => exact ⟨0, 0, Nat.zero_le _, rfl, rfl, by omega, by omega, rfl, hb1⟩
  case round =>
    obtain ⟨k, q, hk, rfl, rfl, hq0, hq1, hq, hb⟩ := hrel
    by_cases hlt : k < n
    · obtain ⟨b, o, A', c', rfl, hbz, c0, c1, hi, hil⟩ := (hs.below hb).load hlt
      have hil2 : ((nth xs k).Things.length : Int) ≤ 9223372036854775807 := by unfold maxLen at hil; omega
      have hkx : Hid (k < xs.length) := by rw [Hid, HL.out]; exact hlt
      obtain ⟨u0, u1⟩ := count_at H1.out hkx.out nm
      obtain ⟨v, hv⟩ : ∃ v, v = countF (nth xs k).Things nm := ⟨_, rfl⟩
      rw [← hv] at u0 u1
      have HV2 := Lib.hid hv
      clear hv hs hil
      go_wp2_with fail
      refine (eqHas_any (nth xs k).Things A' _ c' nm _ hil2 (hi.below (bl_alloc (bl_refl _) _)) (things_rise (loadB_things (loadsB_at H1.out hkx.out)))).mono ?_
      rintro e V ⟨rfl, hV⟩
      rw [← HV2.out]
      have hbV := bl_trans hb (bl_trans (bl_alloc (bl_refl wr) (.cells #[.string (nth xs k).Appliance, .slice A' (nth xs k).Things.length c'] 34)) hV)
      clear hi c0 c1
      go_wp2
      go_roundw
      case rel => exact ⟨k + 1, q + v, by omega, by go_num, rfl, by omega, by omega, by rw [Hid, sumC_succ hkx.out, ← hq.out, HV2.out], hbV⟩
      case measure => simp [intOf]; omega
    · obtain rfl : k = n := by omega
      have hfin : Hid (q = sumC nm xs) := by rw [Hid, hq.out, List.take_of_length_le (by rw [HL.out]; exact Nat.le_refl _)]
      go_wp2
      go_ret2
      exact ⟨ret_ib (by rw [Hz.out]; exact hfin.out) (by rw [Hz.out]), hb⟩
theorem enters_cT : Enters Try.prog 71 := enters_of Try.func71 (by kernel_rfl) (by kernel_rfl)
theorem pred_cT (w : World) (B : Nat) (s : ByteArray) (ha : w.cell? ⟨B, 0, none⟩ = some (.string s)) (xs : List Load) : PredLoad Try.prog w xs 71 #[.pointer (some ⟨B, 0, none⟩)] (fun y => y.Appliance.toList == s.toList) := by
  intro W x A' c' _ hb _ _
  have ha' := cell_later hb ha
  have hz : B < W.heap.size := World.block_lt_of_cell? W _ ha'
  clear ha
  show Calls _ _ #[.agg #[.string x.Appliance, .slice A' x.Things.length c'], .pointer (some ⟨B, 0, none⟩)] W _
  go_enter Try.func71, Try.ntmps71
  go_wp2
  go_ret
  exact ⟨rfl, bl_alloc (bl_refl _) _⟩
set_option maxHeartbeats 4000000 in
theorem implCountThings_any (xs : List Load) (nm : ByteArray) (A : Option Addr) (n c : Nat) (w : World) (hz : nm.size ≤ maxLen) (hn : (n : Int) ≤ 9223372036854775807) (hc : n ≤ c) (hs : Sl w A n xs) (hv : ∀ x, x ∈ xs → x.Appliance.size ≤ maxLen ∧ ∀ y, y ∈ x.Things → y.Name.size ≤ maxLen) :
    Calls Try.prog 38 #[.slice A n c, .string nm] w fun e w' => e = .returned (.tuple #[.int .i64 (countT xs nm).1, .bool (countT xs nm).2]) ∧ Below w.heap.size w w' := by
  have HL := Lib.hid hs.1
  have HV := Lib.hid hv
  clear hv
  by_cases hn7 : n ≤ 7
  rotate_left
  · have hd : decide ((n : Int) > 7) = true := by simp; omega
    have Hz := Lib.hid (countT_no (xs := xs) (nm := nm) (by rw [loadsB_long (by rw [HL.out]; omega)]; rfl))
    go_enter Try.func38, Try.ntmps38
    go_wp2
    go_ret2
    exact ⟨ret_ib (by rw [Hz.out]) (by rw [Hz.out]), bl_refl _⟩
  have hd : decide ((n : Int) > 7) = false := by simp; omega
  go_enter Try.func38, Try.ntmps38
  go_wp2_with fail
  refine (isThingName_any nm _ hz).mono ?_
  rintro e w ⟨rfl, rfl⟩
  cases h2 : wordB 8 nm
  · have Hz := Lib.hid (countT_no (xs := xs) (nm := nm) (by rw [h2]; simp))
    clear h2
    go_wp2
    go_ret2
    exact ⟨ret_ib (by rw [Hz.out]) (by rw [Hz.out]), bl_refl _⟩
  have H2 := Lib.hid h2
  clear h2
  go_wp2
  go_loopw [6, 19] (fun u i wr => ∃ (k : Nat) (q : Int), k ≤ n ∧ i = .int .i64 k ∧ u = .int .i64 q ∧ 0 ≤ q ∧ q ≤ 99 * (k : Int) ∧ Hid (q = sumC nm (xs.take k)) ∧ Hid (∀ j, j < k → okLd xs j = true) ∧ Below w.heap.size w wr) (fun _ i _ => n - (intOf i).toNat)
  case atStart => exact ⟨0, 0, Nat.zero_le _, rfl, rfl, by omega, by omega, rfl, fun j hj => absurd hj (by omega), bl_refl _⟩
  case round =>
    obtain ⟨k, q, hk, rfl, rfl, hq0, hq1, hq, hg, hb⟩ := hrel
    by_cases hlt : k < n
    · obtain ⟨b, o, A', c', rfl, hbz, c0, c1, hi, hil⟩ := (hs.below hb).load hlt
      have hil2 : ((nth xs k).Things.length : Int) ≤ 9223372036854775807 := by unfold maxLen at hil; omega
      have hkx : Hid (k < xs.length) := by rw [Hid, HL.out]; exact hlt
      have hm2 := Lib.hid (nth_mem hkx.out)
      have hs' := Lib.hid (hs.take (by omega : k ≤ n))
      clear hs hil
      go_wp2_with fail
      refine (isLd_any (nth xs k).Appliance (nth xs k).Things A' _ c' _ (HV.out _ hm2.out).1 hil2 (hi.below (bl_alloc (bl_refl _) _)) (HV.out _ hm2.out).2).mono ?_
      rintro e V ⟨rfl, hV⟩
      have hB := bl_trans (bl_alloc (bl_refl wr) (.cells #[.string (nth xs k).Appliance, .slice A' (nth xs k).Things.length c'] 34)) hV
      have hbV := bl_trans hb hB
      have x0 : V.cell? ⟨wr.heap.size, 0, none⟩ = some (.string (nth xs k).Appliance) := cell_later hV (by go_simp)
      have x1 : V.cell? ⟨wr.heap.size, 1, none⟩ = some (.slice A' (nth xs k).Things.length c') := cell_later hV (by go_simp)
      have hiV := Lib.hid (hi.below hB)
      clear hi c0 c1
      cases h1 : loadB (nth xs k).Appliance (nth xs k).Things
      · have Hz := Lib.hid (countT_no (xs := xs) (nm := nm) (by rw [loadsB_no hkx.out (okLd_0 h1)]; rfl))
        clear h1
        go_wp2
        go_ret2
        exact ⟨ret_ib (by rw [Hz.out]) (by rw [Hz.out]), hbV⟩
      have h1' := Lib.hid h1
      obtain ⟨u0, u1⟩ := countF_in (loadB_things h1) nm
      obtain ⟨v, hv⟩ : ∃ v, v = countF (nth xs k).Things nm := ⟨_, rfl⟩
      rw [← hv] at u0 u1
      have HV2 := Lib.hid hv
      have hkc : (k : Int) ≤ c := by omega
      have hkc2 : k ≤ c := by omega
      have hk0 : (0 : Int) ≤ k := by omega
      clear h1 hv
      go_wp2_with fail
      refine (containsFunc_load (xs.take k) _ k _ _ _ (fun y => y.Appliance.toList == (nth xs k).Appliance.toList) _ (by omega) (hs'.out.below hbV) enters_cT (pred_cT _ _ _ x0 _)).mono ?_
      rintro e V2 ⟨rfl, hV2⟩
      have hbV2 := bl_trans hbV hV2
      have y1 := cell_later hV2 x1
      have yz : wr.heap.size < V2.heap.size := World.block_lt_of_cell? V2 _ y1
      clear x0 x1
      cases h3 : (xs.take k).any (fun y => y.Appliance.toList == (nth xs k).Appliance.toList)
      · have hq2 : Hid (okLd xs k = true) := okLd_y h1'.out h3
        clear h3
        go_wp2_with fail
        refine (countOf_any (nth xs k).Things A' _ c' nm _ hil2 (hiV.out.below hV2)).mono ?_
        rintro e V3 ⟨rfl, hV3⟩
        rw [← HV2.out]
        go_wp2
        go_roundw
        case rel => exact ⟨k + 1, q + v, by omega, by go_num, rfl, by omega, by omega, by rw [Hid, sumC_succ hkx.out, ← hq.out, HV2.out], upto_succ hg hq2.out, bl_trans hbV2 hV3⟩
        case measure => simp [intOf]; omega
      · have Hz := Lib.hid (countT_no (xs := xs) (nm := nm) (by rw [loadsB_no hkx.out (okLd_1 h3)]; rfl))
        clear h3
        go_wp2
        go_ret2
        exact ⟨ret_ib (by rw [Hz.out]) (by rw [Hz.out]), hbV2⟩
    · obtain rfl : k = n := by omega
      have H1 : Hid (loadsB 7 xs = true) := by rw [Hid, loadsB_all (by rw [HL.out]; exact hg.out), HL.out]; exact decide_eq_true (by omega)
      have Hz := Lib.hid (countT_yes H1.out H2.out)
      have hfin : Hid (q = sumC nm xs) := by rw [Hid, hq.out, List.take_of_length_le (by rw [HL.out]; exact Nat.le_refl _)]
      go_wp2
      go_ret2
      exact ⟨ret_ib (by rw [Hz.out]; exact hfin.out) (by rw [Hz.out]), hb⟩

end Go.Proofs.Ytmmaddlbaonajaa
