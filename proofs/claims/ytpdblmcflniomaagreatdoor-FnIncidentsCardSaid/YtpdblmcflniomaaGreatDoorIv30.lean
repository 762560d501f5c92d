/-
  Several texts in one. No conditions.
-/
import Derived.Test.YtpdblmcflniomaaGreatDoorIv18
import Derived.Test.YtpdblmcflniomaaGreatDoorIv29
import Derived.Test.YtpdblmcflniomaaGreatDoorCuF
namespace Go.Proofs.YtpdblmcflniomaaGreatDoor
open Go.RowKit

def freeG (xs : List Incident) (a : Appliance) : Option ByteArray := if atB xs a.Name < 0 then some a.Name else none
def freeL (xs : List Incident) (fs : List Appliance) : List ByteArray := fs.filterMap (freeG xs)
def freeF (xs : List Incident) (fs : List Appliance) : List ByteArray × Bool := if incsB xs && fleetB fs then (freeL xs fs, true) else ([], false)
theorem freeG_yes {xs : List Incident} {a : Appliance} (h : atB xs a.Name < 0) : freeG xs a = some a.Name := by unfold freeG; rw [if_pos h]
theorem freeG_no {xs : List Incident} {a : Appliance} (h : ¬ atB xs a.Name < 0) : freeG xs a = none := by unfold freeG; rw [if_neg h]
theorem freeF_yes {xs : List Incident} {fs : List Appliance} (h : incsB xs = true) (h' : fleetB fs = true) : freeF xs fs = (freeL xs fs, true) := by unfold freeF; rw [h, h']; rfl
theorem freeF_no {xs : List Incident} {fs : List Appliance} (h : (incsB xs && fleetB fs) = false) : freeF xs fs = ([], false) := by unfold freeF; rw [if_neg (by rw [h]; exact Bool.false_ne_true)]
theorem freeF_len (xs : List Incident) (fs : List Appliance) : (freeF xs fs).1.length ≤ 1048576 := by
  unfold freeF; split
  · rename_i h
    simp only [Bool.and_eq_true] at h
    have h1 := fleetB_len h.2
    have h2 : (freeL xs fs).length ≤ fs.length := List.length_filterMap_le _ _
    simp only; omega
  · simp
set_option maxHeartbeats 4000000 in
theorem specFreeNames_any (xs : List Incident) (fs : List Appliance) (A B : Option Addr) (n c m d : Nat) (w : World) (hn : (n : Int) ≤ 9223372036854775807) (hm : (m : Int) ≤ 9223372036854775807) (hc : n ≤ c) (hs : Sl w A n xs) (ht : Sl w B m fs) (hv : ∀ x, x ∈ xs → ∀ y, y ∈ x.Names → y.size ≤ maxLen) (hv2 : ∀ x, x ∈ fs → x.Name.size ≤ maxLen) :
    Calls Tryz.prog 19 #[.slice A n c, .slice B m d] w (RetOwn2 w 9 (freeF xs fs)) := by
  have HV := Lib.hid hv
  have HV2 := Lib.hid hv2
  have HL := Lib.hid ht.1
  clear hv hv2
  go_enter Tryz.func19, Tryz.ntmps19
  have hk0 := bl_refl w
  go_wp2_with fail
  refine (ixGood_any xs _ _ _ _ hn hc hs HV.out).mono ?_
  rintro e V1 ⟨rfl, hb1⟩
  have hB1 := bl_trans (a := w) (bl_refl _) hb1
  have hk1 := bl_trans hk0 hB1
  have z1 := Lib.hid hB1.size
  cases h0 : incsB xs
  · have Hz := Lib.hid (freeF_no (xs := xs) (fs := fs) (by rw [h0]; first | done | simp))
    clear h0
    go_wp2
    go_ret2
    exact retOwn2_mk Hz.out (Own.nil _ _ _) hk1
  have H0 := Lib.hid h0
  clear h0
  go_wp2_with fail
  refine (apFleet_any fs _ _ _ _ hm (ht.below hk1) HV2.out).mono ?_
  rintro e V2 ⟨rfl, hb2⟩
  have hB2 := bl_trans (a := V1) (bl_refl _) hb2
  have hk2 := bl_trans hk1 hB2
  have z2 := Lib.hid hB2.size
  clear hk1
  cases h1 : fleetB fs
  · have Hz := Lib.hid (freeF_no (xs := xs) (fs := fs) (by rw [h1]; first | done | simp))
    clear h1
    go_wp2
    go_ret2
    exact retOwn2_mk Hz.out (Own.nil _ _ _) hk2
  have H1 := Lib.hid h1
  clear h1
  have Hz := Lib.hid (freeF_yes H0.out H1.out)
  have hn8 : m ≤ 12 := by have := fleetB_len H1.out; have := HL.out; omega
  go_wp2
  go_loopw [6, 19] (fun v i wr => ∃ (k q c' : Nat) (A' : Option Addr), k ≤ m ∧ i = .int .i64 k ∧ v = .slice A' q c' ∧ q ≤ k ∧ Own wr w.heap.size 9 (.slice A' q c') ((fs.take k).filterMap (freeG xs)) ∧ Below w.heap.size w wr) (fun _ i _ => m - (intOf i).toNat)
  case atStart => exact ⟨0, 0, 0, none, Nat.zero_le _, rfl, rfl, Nat.le_refl _, Own.nil _ _ _, hk2⟩
  case round =>
    obtain ⟨k, q, c', A', hk, rfl, rfl, hq, ho, hb⟩ := hrel
    by_cases hlt : k < m
    · obtain ⟨b, o, rfl, hbz, c0, c1, c2, c3, c4⟩ := (ht.below hb).appliance hlt
      have hkx : Hid (k < fs.length) := by rw [Hid, HL.out]; exact hlt
      have hs' := hs.below hb
      clear ht
      go_wp2_with fail
      refine (ixOf_any xs (nth fs k).Name _ _ _ _ hn (hs'.below (bl_alloc (bl_refl _) _))).mono ?_
      rintro e V ⟨rfl, hV⟩
      have hB := bl_trans (bl_alloc (bl_refl wr) (.cells #[.string (nth fs k).Name, .int .i64 (nth fs k).Kind, .int .i64 (nth fs k).Node, .int .i64 (nth fs k).Crew, .int .i64 (nth fs k).State] 48)) hV
      have hbV := bl_trans hb hB
      have hoV := ho.below hB
      have x0 : V.cell? ⟨wr.heap.size, 0, none⟩ = some (.string (nth fs k).Name) := cell_later hV (by go_simp)
      have xz : wr.heap.size < V.heap.size := World.block_lt_of_cell? V _ x0
      obtain ⟨i, hi⟩ : ∃ i, i = atB xs (nth fs k).Name := ⟨_, rfl⟩
      rw [← hi]
      have HI := Lib.hid hi.symm
      clear ho hs hs' c0 c1 c2 c3 c4 hi
      by_cases hd : i < 0
      · have hp := Lib.hid (freeG_yes (a := nth fs k) (by rw [HI.out]; exact hd))
        have hd2 : decide (i < 0) = true := by simpa using hd
        go_wp2_with ((at_builtin; refine wpList_app1g rfl (.tmp 28) (.tmp 31) _ _ rfl el_str (nth fs k).Name rfl hoV hbV rfl (by simp) (by omega) ?_; intro A3 c3' w2 ho2 hb2 hg2))
        go_roundw
        case rel => exact ⟨k + 1, q + 1, c3', A3, by omega, by go_num, rfl, by omega, by rw [fmap_yes hkx.out hp.out]; exact ho2, hb2⟩
        case measure => simp [intOf]; omega
      · have hp := Lib.hid (freeG_no (a := nth fs k) (by rw [HI.out]; exact hd))
        have hd2 : decide (i < 0) = false := by simpa using hd
        go_wp2
        go_roundw
        case rel => exact ⟨k + 1, q, c', A', by omega, by go_num, rfl, by omega, by rw [fmap_no hkx.out hp.out]; exact hoV, hbV⟩
        case measure => simp [intOf]; omega
    · obtain rfl : k = m := by omega
      have hfin : Hid ((fs.take k).filterMap (freeG xs) = freeL xs fs) := by rw [Hid, List.take_of_length_le (by rw [HL.out]; exact Nat.le_refl _)]; rfl
      have hq2 := ho.sl.1
      rw [hfin.out] at ho hq2
      have hq3 := Lib.hid hq2
      clear hq2
      go_wp2
      go_ret2
      exact retOwn2_mk Hz.out ho hb
set_option maxHeartbeats 4000000 in
theorem implFreeNames_any (xs : List Incident) (fs : List Appliance) (A B : Option Addr) (n c m d : Nat) (w : World) (hn : (n : Int) ≤ 9223372036854775807) (hm : (m : Int) ≤ 9223372036854775807) (hc : n ≤ c) (hs : Sl w A n xs) (ht : Sl w B m fs) (hv : ∀ x, x ∈ xs → ∀ y, y ∈ x.Names → y.size ≤ maxLen) (hv2 : ∀ x, x ∈ fs → x.Name.size ≤ maxLen) :
    Calls Tryz.prog 18 #[.slice A n c, .slice B m d] w (RetOwn2 w 9 (freeF xs fs)) := by
  have HV := Lib.hid hv
  have HV2 := Lib.hid hv2
  have HL := Lib.hid ht.1
  clear hv hv2
  go_enter Tryz.func18, Tryz.ntmps18
  have hk0 := bl_refl w
  go_wp2_with fail
  refine (areIncidents_any xs _ _ _ _ hn hc hs HV.out).mono ?_
  rintro e V1 ⟨rfl, hb1⟩
  have hB1 := bl_trans (a := w) (bl_refl _) hb1
  have hk1 := bl_trans hk0 hB1
  have z1 := Lib.hid hB1.size
  cases h0 : incsB xs
  · have Hz := Lib.hid (freeF_no (xs := xs) (fs := fs) (by rw [h0]; first | done | simp))
    clear h0
    go_wp2
    go_ret2
    exact retOwn2_mk Hz.out (Own.nil _ _ _) hk1
  have H0 := Lib.hid h0
  clear h0
  go_wp2_with fail
  refine (isFleet_any fs _ _ _ _ hm (ht.below hk1) HV2.out).mono ?_
  rintro e V2 ⟨rfl, hb2⟩
  have hB2 := bl_trans (a := V1) (bl_refl _) hb2
  have hk2 := bl_trans hk1 hB2
  have z2 := Lib.hid hB2.size
  clear hk1
  cases h1 : fleetB fs
  · have Hz := Lib.hid (freeF_no (xs := xs) (fs := fs) (by rw [h1]; first | done | simp))
    clear h1
    go_wp2
    go_ret2
    exact retOwn2_mk Hz.out (Own.nil _ _ _) hk2
  have H1 := Lib.hid h1
  clear h1
  have Hz := Lib.hid (freeF_yes H0.out H1.out)
  have hn8 : m ≤ 12 := by have := fleetB_len H1.out; have := HL.out; omega
  go_wp2
  go_loopw [6, 19] (fun v i wr => ∃ (k q c' : Nat) (A' : Option Addr), k ≤ m ∧ i = .int .i64 k ∧ v = .slice A' q c' ∧ q ≤ k ∧ Own wr w.heap.size 9 (.slice A' q c') ((fs.take k).filterMap (freeG xs)) ∧ Below w.heap.size w wr) (fun _ i _ => m - (intOf i).toNat)
  case atStart => exact ⟨0, 0, 0, none, Nat.zero_le _, rfl, rfl, Nat.le_refl _, Own.nil _ _ _, hk2⟩
  case round =>
    obtain ⟨k, q, c', A', hk, rfl, rfl, hq, ho, hb⟩ := hrel
    by_cases hlt : k < m
    · obtain ⟨b, o, rfl, hbz, c0, c1, c2, c3, c4⟩ := (ht.below hb).appliance hlt
      have hkx : Hid (k < fs.length) := by rw [Hid, HL.out]; exact hlt
      have hs' := hs.below hb
      clear ht
      go_wp2_with fail
      refine (committedAt_any xs (nth fs k).Name _ _ _ _ hn (hs'.below (bl_alloc (bl_refl _) _))).mono ?_
      rintro e V ⟨rfl, hV⟩
      have hB := bl_trans (bl_alloc (bl_refl wr) (.cells #[.string (nth fs k).Name, .int .i64 (nth fs k).Kind, .int .i64 (nth fs k).Node, .int .i64 (nth fs k).Crew, .int .i64 (nth fs k).State] 48)) hV
      have hbV := bl_trans hb hB
      have hoV := ho.below hB
      have x0 : V.cell? ⟨wr.heap.size, 0, none⟩ = some (.string (nth fs k).Name) := cell_later hV (by go_simp)
      have xz : wr.heap.size < V.heap.size := World.block_lt_of_cell? V _ x0
      obtain ⟨i, hi⟩ : ∃ i, i = atB xs (nth fs k).Name := ⟨_, rfl⟩
      rw [← hi]
      have HI := Lib.hid hi.symm
      clear ho hs hs' c0 c1 c2 c3 c4 hi
      by_cases hd : i < 0
      · have hp := Lib.hid (freeG_yes (a := nth fs k) (by rw [HI.out]; exact hd))
        have hd2 : decide (i < 0) = true := by simpa using hd
        go_wp2_with ((at_builtin; refine wpList_app1g rfl (.tmp 28) (.tmp 31) _ _ rfl el_str (nth fs k).Name rfl hoV hbV rfl (by simp) (by omega) ?_; intro A3 c3' w2 ho2 hb2 hg2))
        go_roundw
        case rel => exact ⟨k + 1, q + 1, c3', A3, by omega, by go_num, rfl, by omega, by rw [fmap_yes hkx.out hp.out]; exact ho2, hb2⟩
        case measure => simp [intOf]; omega
      · have hp := Lib.hid (freeG_no (a := nth fs k) (by rw [HI.out]; exact hd))
        have hd2 : decide (i < 0) = false := by simpa using hd
        go_wp2
        go_roundw
        case rel => exact ⟨k + 1, q, c', A', by omega, by go_num, rfl, by omega, by rw [fmap_no hkx.out hp.out]; exact hoV, hbV⟩
        case measure => simp [intOf]; omega
    · obtain rfl : k = m := by omega
      have hfin : Hid ((fs.take k).filterMap (freeG xs) = freeL xs fs) := by rw [Hid, List.take_of_length_le (by rw [HL.out]; exact Nat.le_refl _)]; rfl
      have hq2 := ho.sl.1
      rw [hfin.out] at ho hq2
      have hq3 := Lib.hid hq2
      clear hq2
      go_wp2
      go_ret2
      exact retOwn2_mk Hz.out ho hb

end Go.Proofs.YtpdblmcflniomaaGreatDoor

namespace Go.Proofs.YtpdblmcflniomaaGreatDoor
open Go.RowKit

/-- a drawn fleet's names are short -/
def SmA (fs : List Appliance) : Prop := ∀ a, a ∈ fs → a.Name.size ≤ 7
theorem SmA.snoc {fs : List Appliance} {a : Appliance} (h : SmA fs) (ha : a.Name.size ≤ 7) : SmA (fs ++ [a]) := fun z hz => by
  rcases List.mem_append.1 hz with hz | hz
  · exact h z hz
  · rw [List.mem_singleton.1 hz]; exact ha
theorem el_ap : Elem Tryz.prog 41 48 (Flat.sz Appliance) := elem_mk Tryz.underlying41 (by kernel_rfl)
theorem gb_only {V w' : World} {v : Value} {o : Obj} (h : (V.alloc o).grownBy w' v.ownBlock) : OnlyF v.ownBlock.toList V w' := (OnlyF.below (bl_alloc (bl_refl _) _)).trans (OnlyF.of_gb h)
/-- a fleet as it is drawn -/
def RetFleet (w : World) (g m : Nat) (N : Int) (e : Ending) (w' : World) : Prop := ∃ (fs : List Appliance) (q : Nat) (A : Option Addr) (c : Nat), e = .returned (.slice A q c) ∧ q ≤ m ∧ SmA fs ∧ Own w' w.heap.size 48 (.slice A q c) fs ∧ Cur w' g N ∧ OnlyF [g] w w'
set_option maxRecDepth 100000 in
set_option maxHeartbeats 8000000 in
theorem fleet_any (g : Nat) (N : Int) (w : World) (hc : Cur w g N) (hN : N ≤ 700000000) :
    Calls Tryz.prog 80 #[.pointer (some ⟨g, 0, none⟩), .int .i64 4] w (RetFleet w g 12 (N + 1000)) := by
  have lg0 := hc.lt
  obtain ⟨ns, hns⟩ : ∃ ns : List ByteArray, ns = [⟨#[100, 49]⟩, ⟨#[112, 49]⟩, ⟨#[112, 50]⟩, ⟨#[112, 51]⟩, ⟨#[114, 49]⟩, ⟨#[116, 49]⟩, ⟨#[116, 50]⟩] := ⟨_, rfl⟩
  have hlit : Sl (w.alloc (.cells #[.string ⟨#[100, 49]⟩, .string ⟨#[112, 49]⟩, .string ⟨#[112, 50]⟩, .string ⟨#[112, 51]⟩, .string ⟨#[114, 49]⟩, .string ⟨#[116, 49]⟩, .string ⟨#[116, 50]⟩] 9)) (some ⟨w.heap.size, 0, none⟩) 7 ns := by
    rw [hns]; exact sl_lit' rfl rfl rfl
  have hsz : Hid (∀ x, x ∈ ns → x.size ≤ 7) := by rw [Hid, hns]; decide
  have hb0 := bl_alloc (bl_refl w) (.cells #[.string ⟨#[100, 49]⟩, .string ⟨#[112, 49]⟩, .string ⟨#[112, 50]⟩, .string ⟨#[112, 51]⟩, .string ⟨#[114, 49]⟩, .string ⟨#[116, 49]⟩, .string ⟨#[116, 50]⟩] 9)
  have hc0 := hc.below hb0
  have HL0 := Lib.hid hlit
  have HB0 := Lib.hid hb0
  have HC0 := Lib.hid hc0
  clear hns hlit hb0 hc0
  go_enter Tryz.func80, Tryz.ntmps80
  go_wp2
  go_loopw [5, 10] (fun lv iv wr => ∃ (i q c : Nat) (A : Option Addr) (fs : List Appliance), i ≤ 7 ∧ iv = .int .i64 i ∧ lv = .slice A q c ∧ q ≤ i ∧ SmA fs ∧ Own wr (w.heap.size + 1) 48 (.slice A q c) fs ∧ w.heap.size + 1 ≤ wr.heap.size ∧ Hid (Sl wr (some ⟨w.heap.size, 0, none⟩) 7 ns) ∧ Cur wr g (N + 30 * (i : Int)) ∧ OnlyF [g] w wr) (fun _ iv _ => 7 - (intOf iv).toNat)
  case atStart => exact ⟨0, 0, 0, none, [], by omega, rfl, rfl, by omega, (fun a ha => by cases ha), Own.nil _ _ _, by simp, HL0, HC0.out.mono (by omega), .below HB0.out⟩
  case round =>
    obtain ⟨i, q, c, A, fs, hi, rfl, rfl, hq, hsm, ho, hz, HL, hcr, hfr⟩ := hrel
    have lgr := hcr.lt
    clear HL0 HB0 HC0 hc
    by_cases hlt : i < 7
    · have hd : decide ((i : Int) < 7) = true := decide_eq_true (by omega)
      have hd2 : decide (i < 7) = true := decide_eq_true hlt
      obtain ⟨b, o, he, hbz, c0⟩ := HL.out.str hlt
      injection he with he
      injection he with e1 e2
      subst e1 e2
      obtain ⟨nm, hnm⟩ : ∃ nm, nth ns i = nm := ⟨_, rfl⟩
      have hns : nm.size ≤ 7 := by rw [← hnm]; exact hsz.out _ (nth_mem (by rw [HL.out.1]; exact hlt))
      rw [hnm, Nat.zero_add] at c0
      clear hnm
      go_wp2_with fail
      refine (one_any g _ 2 _ hcr (by omega) (by omega)).mono ?_
      rintro e V1 ⟨bb, rfl, hc1, hf1⟩
      have lg1 := hc1.lt
      have ho1 := ho.onlyF hf1 (by omega)
      have HL1 := Lib.hid (HL.out.onlyF hf1 (fun b o h _ => by injection h with h; injection h with h; omega))
      have hF1 := hfr.trans hf1
      have hz1 : w.heap.size + 1 ≤ V1.heap.size := by have := hf1.size; omega
      clear ho HL hcr hfr hf1 c0
      cases bb
      · go_wp2
        go_roundw
        case rel => exact ⟨i + 1, q, c, A, fs, by omega, by go_num, rfl, by omega, hsm, ho1, hz1, HL1, hc1.mono (by omega), hF1⟩
        case measure => simp [intOf]; omega
      · go_wp2_with fail
        refine (appliance_any g _ nm _ hc1 (by omega)).mono ?_
        rintro e V2 ⟨k, n, cr, s, rfl, hc2, hf2⟩
        have lg2 := hc2.lt
        have ho2 := ho1.onlyF hf2 (by omega)
        have HL2 := Lib.hid (HL1.out.onlyF hf2 (fun b o h _ => by injection h with h; injection h with h; omega))
        have hF2 := hF1.trans hf2
        have hz2 : w.heap.size + 1 ≤ V2.heap.size := by have := hf2.size; omega
        clear ho1 HL1 hc1 hF1 hf2
        go_wp2_with ((at_builtin; refine wpList_app1q rfl (.tmp 16) (.tmp 21) _ _ rfl el_ap (⟨nm, k, n, cr, s⟩ : Appliance) rfl ho2 hz2 rfl rfl (by omega) ?_; intro A3 c3 w3 ho3 hg3))
        have hf3 := gb_only hg3
        have hap : ∀ j, j ∈ (Value.ownBlock (.slice A q c)).toList → w.heap.size + 1 ≤ j := fun j hj => (ho2.lt j (by simpa using hj)).1
        have hc3 := hc2.onlyF hf3 (fun j hj => by have := hap j hj; omega)
        have hF3 := hF2.own hf3 (fun j hj => by have := hap j hj; omega)
        have HL3 : Hid (Sl w3 (some ⟨w.heap.size, 0, none⟩) 7 ns) := by
          refine ⟨HL2.out.1, fun k x hx => ?_⟩
          obtain ⟨b, o, cs, hA, hr, hcl⟩ := HL2.out.2 k x hx
          refine ⟨b, o, cs, hA, hr, fun j v hv => hf3.keeps (hcl j v hv) (fun hm => ?_)⟩
          have h9 : w.heap.size + 1 ≤ b := hap _ hm
          injection hA with hA
          injection hA with h10 _
          omega
        go_roundw
        case rel => exact ⟨i + 1, q + 1, c3, A3, fs ++ [⟨nm, k, n, cr, s⟩], by omega, by go_num, rfl, by omega, hsm.snoc hns, ho3, by have := hf3.size; omega, HL3, hc3.mono (by omega), hF3⟩
        case measure => simp [intOf]; omega
    · obtain rfl : i = 7 := by omega
      clear HL
      go_wp2_with fail
      refine (one_any g _ 16 _ hcr (by omega) (by omega)).mono ?_
      rintro e V1 ⟨bb, rfl, hc1, hf1⟩
      have lg1 := hc1.lt
      have ho1 := ho.onlyF hf1 (by omega)
      have hF1 := hfr.trans hf1
      have hz1 : w.heap.size + 1 ≤ V1.heap.size := by have := hf1.size; omega
      clear ho hcr hfr hf1
      go_upto_if 25 with fail
      go_cut [5] (fun lv wx => ∃ (q c : Nat) (A : Option Addr) (fs : List Appliance), lv = .slice A q c ∧ q ≤ 12 ∧ SmA fs ∧ Own wx (w.heap.size + 1) 48 (.slice A q c) fs ∧ Cur wx g (N + 900) ∧ OnlyF [g] w wx)
      case first =>
        cases bb
        · go_wp2_with fail
          go_meet
          exact ⟨q, c, A, fs, rfl, by omega, hsm, ho1, hc1.mono (by omega), hF1⟩
        · go_wp2
          go_loopw [5] (fun lv wr => ∃ (q c : Nat) (A : Option Addr) (fs : List Appliance), lv = .slice A q c ∧ q ≤ 12 ∧ SmA fs ∧ Own wr (w.heap.size + 1) 48 (.slice A q c) fs ∧ w.heap.size + 1 ≤ wr.heap.size ∧ Cur wr g (N + 300 + 30 * (q : Int)) ∧ OnlyF [g] w wr) (fun lv _ => 12 - (match lv with | .slice _ q _ => q | _ => 0))
          case atStart => exact ⟨0, 0, none, [], rfl, by omega, (fun a ha => by cases ha), Own.nil _ _ _, hz1, hc1.mono (by omega), hF1⟩
          case round =>
            clear ho1 hc1 hF1 hz1 hsm hq
            obtain ⟨q, c, A, fs, rfl, hq, hsm, ho, hz, hcr, hfr⟩ := hrel
            have lgr2 := hcr.lt
            by_cases hlt : q < 12
            · have hd : decide ((q : Int) < 12) = true := decide_eq_true (by omega)
              have hd2 : decide (q < 12) = true := decide_eq_true hlt
              have hq1 : (q : Int) + 1 ≤ 12 := by omega
              go_wp2_with fail
              refine (appliance_any g _ _ _ hcr (by omega)).mono ?_
              rintro e V2 ⟨k, n, cr, s, rfl, hc2, hf2⟩
              have lg2 := hc2.lt
              have ho2 := ho.onlyF hf2 (by omega)
              have hF2 := hfr.trans hf2
              have hz2 : w.heap.size + 1 ≤ V2.heap.size := by have := hf2.size; omega
              have hns : (((⟨#[112]⟩ : ByteArray) ++ (⟨#[97, 98, 99, 100, 101, 102, 103, 104, 105, 106, 107, 108]⟩ : ByteArray).extract q (q + 1))).size ≤ 7 := by
                rw [ByteArray.size_append, ByteArray.size_extract]
                have e1 : (⟨#[112]⟩ : ByteArray).size = 1 := rfl
                omega
              have HNS := Lib.hid hns
              clear ho hcr hfr hf2 hns
              go_wp2_with ((at_builtin; refine wpList_app1q rfl (.tmp 29) (.tmp 40) _ _ rfl el_ap (⟨((⟨#[112]⟩ : ByteArray) ++ (⟨#[97, 98, 99, 100, 101, 102, 103, 104, 105, 106, 107, 108]⟩ : ByteArray).extract q (q + 1)), k, n, cr, s⟩ : Appliance) rfl ho2 hz2 rfl rfl (by omega) ?_; intro A3 c3 w3 ho3 hg3))
              have hf3 := gb_only hg3
              have hap : ∀ j, j ∈ (Value.ownBlock (.slice A q c)).toList → w.heap.size + 1 ≤ j := fun j hj => (ho2.lt j (by simpa using hj)).1
              have hc3 := hc2.onlyF hf3 (fun j hj => by have := hap j hj; omega)
              have hF3 := hF2.own hf3 (fun j hj => by have := hap j hj; omega)
              go_roundw
              case rel => exact ⟨q + 1, c3, A3, fs ++ [⟨((⟨#[112]⟩ : ByteArray) ++ (⟨#[97, 98, 99, 100, 101, 102, 103, 104, 105, 106, 107, 108]⟩ : ByteArray).extract q (q + 1)), k, n, cr, s⟩], rfl, by omega, hsm.snoc HNS.out, ho3, by have := hf3.size; omega, hc3.mono (by omega), hF3⟩
              case measure => simp; omega
            · obtain rfl : q = 12 := by omega
              go_wp2
              go_meet
              exact ⟨12, c, A, fs, rfl, by omega, hsm, ho, hcr.mono (by omega), hfr⟩
      case rest =>
        obtain ⟨q, c, A, fs, rfl, hq, hsm, ho, hcx, hfx⟩ := hcut
        go_wp2
        go_ret
        exact ⟨fs, q, A, c, rfl, hq, hsm, ho.mono (by omega), hcx.mono (by omega), hfx⟩
end Go.Proofs.YtpdblmcflniomaaGreatDoor

namespace Go.Proofs.YtpdblmcflniomaaGreatDoor
open Go.RowKit

set_option maxRecDepth 100000 in
set_option maxHeartbeats 8000000 in
theorem anyFleet_any (g : Nat) (N : Int) (w : World) (hc : Cur w g N) (hN : N ≤ 600000000) :
    Calls Tryz.prog 48 #[.pointer (some ⟨g, 0, none⟩), .int .i64 4] w (RetFleet w g 13 (N + 1100)) := by
  have lg0 := hc.lt
  go_enter Tryz.func48, Tryz.ntmps48
  go_wp2_with fail
  refine (fleet_any g N _ hc (by omega)).mono ?_
  rintro e V1 ⟨fs, q, A, c, rfl, hq, hsm, ho1, hc1, hf1⟩
  have lg1 := hc1.lt
  go_wp2_with fail
  refine (pick_any g _ 30 _ hc1 (by omega) (by omega)).mono ?_
  rintro e V2 ⟨p, rfl, hp, hc2, hf2⟩
  have lg2 := hc2.lt
  have ho2 := ho1.onlyF hf2 lg0
  have hF2 := hf1.trans hf2
  have hz2 : w.heap.size ≤ V2.heap.size := hF2.size
  clear hp ho1 hc1 hf1 hf2 hc
  by_cases h0 : p = 0
  · subst h0
    have hbx := bl_alloc (bl_refl V2) (.cells #[.string ⟨#[]⟩, .string ⟨#[49, 97]⟩, .string ⟨#[97, 49]⟩, .string ⟨#[115, 101, 118, 101, 110, 120, 120]⟩, .string ⟨#[122, 122]⟩, .string ⟨#[112, 45, 49]⟩] 9)
    have ho2b := ho2.below hbx
    have hF2b := hF2.trans (.below hbx)
    go_wp2_with fail
    refine (of_any g _ _ _ _ [⟨#[]⟩, ⟨#[49, 97]⟩, ⟨#[97, 49]⟩, ⟨#[115, 101, 118, 101, 110, 120, 120]⟩, ⟨#[122, 122]⟩, ⟨#[112, 45, 49]⟩] _ (hc2.below (by repeat' (first | exact bl_refl _ | refine bl_alloc ?_ _ | refine bl_drew ?_))) (by omega) (by exact sl_lit' (by simp) rfl rfl) (by omega) (by omega) (by rintro b o h _; injection h with h; injection h with h1; omega)).mono ?_
    rintro e V3 ⟨nm, rfl, hm, hc3, hf3⟩
    have hns : nm.size ≤ 7 := by
      simp only [List.mem_cons, List.not_mem_nil, or_false] at hm
      rcases hm with rfl | rfl | rfl | rfl | rfl | rfl <;> decide
    have lg3 := hc3.lt
    have ho3 := ho2b.onlyF hf3 lg0
    have hF3 := hF2b.trans hf3
    have hz3 : w.heap.size ≤ V3.heap.size := hF3.size
    clear hm hbx ho2b hF2b ho2 hF2 hc2 hf3
    go_wp2_with fail
    refine (appliance_any g _ nm _ hc3 (by omega)).mono ?_
    rintro e V4 ⟨k, n, cr, s, rfl, hc4, hf4⟩
    have ho4 := ho3.onlyF hf4 lg0
    have hF4 := hF3.trans hf4
    have hz4 : w.heap.size ≤ V4.heap.size := hF4.size
    clear ho3 hF3 hc3 hf4
    go_wp2_with ((at_builtin; refine wpList_app1q rfl (.tmp 13) (.tmp 20) _ _ rfl el_ap (⟨nm, k, n, cr, s⟩ : Appliance) rfl ho4 hz4 rfl rfl (by omega) ?_; intro A5 c5 w5 ho5 hg5))
    have hf5 := gb_only hg5
    have hap : ∀ j, j ∈ (Value.ownBlock (.slice A q c)).toList → w.heap.size ≤ j := fun j hj => (ho4.lt j (by simpa using hj)).1
    have hc5 := hc4.onlyF hf5 (fun j hj => by have := hap j hj; omega)
    have hF5 := hF4.own hf5 (fun j hj => hap j hj)
    go_ret
    exact ⟨fs ++ [⟨nm, k, n, cr, s⟩], q + 1, A5, c5, rfl, by omega, hsm.snoc hns, ho5, hc5.mono (by omega), hF5⟩
  by_cases h1 : p = 1
  · subst h1
    go_wp2
    go_loopw [5] (fun lv wr => ∃ (q c : Nat) (A : Option Addr) (fs : List Appliance), lv = .slice A q c ∧ q ≤ 13 ∧ SmA fs ∧ Own wr w.heap.size 48 (.slice A q c) fs ∧ w.heap.size ≤ wr.heap.size ∧ Cur wr g (N + 1100) ∧ OnlyF [g] w wr) (fun lv _ => 13 - (match lv with | .slice _ q _ => q | _ => 0))
    case atStart => exact ⟨0, 0, none, [], rfl, by omega, (fun a ha => by cases ha), Own.nil _ _ _, hz2, hc2.mono (by omega), hF2⟩
    case round =>
      clear ho2 hc2 hF2 hz2 hsm hq
      obtain ⟨q, c, A, fs, rfl, hq, hsm, ho, hz, hcr, hfr⟩ := hrel
      by_cases hlt : q < 13
      · have hd : decide ((q : Int) < 13) = true := decide_eq_true (by omega)
        have hd2 : decide (q < 13) = true := decide_eq_true hlt
        have hq1 : (q : Int) + 1 ≤ 13 := by omega
        have hns : (((⟨#[112]⟩ : ByteArray) ++ (⟨#[97, 98, 99, 100, 101, 102, 103, 104, 105, 106, 107, 108, 109]⟩ : ByteArray).extract q (q + 1))).size ≤ 7 := by
          rw [ByteArray.size_append, ByteArray.size_extract]
          have e1 : (⟨#[112]⟩ : ByteArray).size = 1 := rfl
          omega
        have HNS := Lib.hid hns
        clear hns
        go_wp2_with ((at_builtin; refine wpList_app1q rfl (.tmp 27) (.tmp 36) _ _ rfl el_ap (⟨((⟨#[112]⟩ : ByteArray) ++ (⟨#[97, 98, 99, 100, 101, 102, 103, 104, 105, 106, 107, 108, 109]⟩ : ByteArray).extract q (q + 1)), 0, 0, 4, 0⟩ : Appliance) rfl ho hz rfl rfl (by omega) ?_; intro A3 c3 w3 ho3 hg3))
        have hf3 := gb_only hg3
        have hap : ∀ j, j ∈ (Value.ownBlock (.slice A q c)).toList → w.heap.size ≤ j := fun j hj => (ho.lt j (by simpa using hj)).1
        have hc3 := hcr.onlyF hf3 (fun j hj => by have := hap j hj; omega)
        have hF3 := hfr.own hf3 (fun j hj => hap j hj)
        go_roundw
        case rel => exact ⟨q + 1, c3, A3, fs ++ [⟨((⟨#[112]⟩ : ByteArray) ++ (⟨#[97, 98, 99, 100, 101, 102, 103, 104, 105, 106, 107, 108, 109]⟩ : ByteArray).extract q (q + 1)), 0, 0, 4, 0⟩], rfl, by omega, hsm.snoc HNS.out, ho3, by have := hf3.size; omega, hc3, hF3⟩
        case measure => simp; omega
      · obtain rfl : q = 13 := by omega
        go_wp2
        go_ret
        exact ⟨fs, 13, A, c, rfl, by omega, hsm, ho, hcr, hfr⟩
  · go_wp2
    go_ret
    exact ⟨fs, q, A, c, rfl, by omega, hsm, ho2, hc2.mono (by omega), hF2⟩
set_option maxRecDepth 100000 in
set_option maxHeartbeats 8000000 in
theorem drawFree_any (A : Option Addr) (n c : Nat) (cs : List Byt) (w : World) (hcode : CodeIs w A n cs) :
    Calls Tryz.prog 17 #[.slice A n c] w fun e w' => ∃ (xs : List Incident) (A' : Option Addr) (c' : Nat) (F : List Nat) (fs : List Appliance) (B : Option Addr) (d : Nat), e = .returned (.tuple #[.slice A' xs.length c', .slice B fs.length d]) ∧ xs.length ≤ 9 ∧ SmI xs ∧ fs.length ≤ 13 ∧ SmA fs ∧ OwnX incidentN w' w.heap.size 32 9 (.slice A' xs.length c') xs F ∧ Own w' w.heap.size 48 (.slice B fs.length d) fs ∧ Below w.heap.size w w' := by
  go_enter Tryz.func17, Tryz.ntmps17
  go_wp2_with fail
  refine (incidents_any w.heap.size 0 _ (hcode.cur (by simp)) (by omega)).mono ?_
  rintro e V1 ⟨xs, A', c', F, rfl, hl, hsm, ho1, hc1, hf1⟩
  have lg1 := hc1.lt
  have hk1 : Below w.heap.size w V1 := below_only (by repeat' (first | exact bl_refl _ | refine bl_alloc ?_ _ | refine bl_drew ?_)) hf1 (lies1 w.heap.size) (Nat.le_refl _)
  obtain ⟨m, hm⟩ : ∃ m, xs.length = m := ⟨_, rfl⟩
  rw [hm] at hl ho1 ⊢
  have HM := Lib.hid hm
  clear hm
  go_wp2_with fail
  refine (anyFleet_any w.heap.size _ _ hc1 (by omega)).mono ?_
  rintro e V2 ⟨fs, q, B, d, rfl, hq, hsa, ho2, hc2, hf2⟩
  have hk2 : Below w.heap.size w V2 := below_only hk1 hf2 (lies1 w.heap.size) (Nat.le_refl _)
  have hx2 := ho1.only hf2 (fun j hj hm => by have := (ho1.lies j hj).1; have := List.mem_singleton.1 hm; simp only [World.size_alloc] at *; omega)
  have hql : fs.length = q := ho2.sl.1
  subst hql
  go_wp2
  go_ret2
  exact ⟨xs, A', c', F, fs, B, d, by rw [HM.out]; rfl, by rw [HM.out]; exact hl, hsm, hq, hsa, by rw [HM.out]; exact hx2.mono (by simp only [World.size_alloc]; omega), ho2.mono hk1.size, hk2⟩
end Go.Proofs.YtpdblmcflniomaaGreatDoor
