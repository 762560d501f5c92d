/-
  Counts of the qualified: both texts answer cntL. No conditions.
-/
import Derived.Test.YtiekmpbdlncgdaaSkillB
import Derived.Test.YtiekmpbdlncgdaaInts
import Derived.Test.YtiekmpbdlncgdaaMem7
namespace Go.Proofs.Ytiekmpbdlncgdaa
open Go.RowKit

def cntB (kind day : Int) (x : Skill) : Bool := x.Kind == kind && decide (x.Until ≥ day)
def cnt (xs : List Skill) (kind day : Int) : Int := ((xs.filter (cntB kind day)).length : Int)
theorem cnt_yes {xs : List Skill} {kind day : Int} {k : Nat} (hk : k < xs.length) (h : cntB kind day (nth xs k) = true) : cnt (xs.take (k + 1)) kind day = cnt (xs.take k) kind day + 1 := by
  unfold cnt; rw [take_succ hk, List.filter_append]; simp [h]
theorem cnt_no {xs : List Skill} {kind day : Int} {k : Nat} (hk : k < xs.length) (h : cntB kind day (nth xs k) = false) : cnt (xs.take (k + 1)) kind day = cnt (xs.take k) kind day := by
  unfold cnt; rw [take_succ hk, List.filter_append]; simp [h]
theorem cnt_in (xs : List Skill) (kind day : Int) (k : Nat) : 0 ≤ cnt (xs.take k) kind day ∧ cnt (xs.take k) kind day ≤ k := by
  unfold cnt
  have h := List.length_filter_le (cntB kind day) (xs.take k)
  rw [List.length_take] at h
  omega
def cntL (xs : List Skill) (day : Int) : List Int := (List.range 6).map (fun j : Nat => cnt xs j day)
theorem cntL_nth {xs : List Skill} {day : Int} {j : Nat} (hj : j < 6) : nth (cntL xs day) j = cnt xs j day := nth_get (by simp [cntL, hj])
theorem cntL_len (xs : List Skill) (day : Int) : (cntL xs day).length = 6 := by simp [cntL]
theorem cntL_hit {xs : List Skill} {day : Int} {k j : Nat} (hk : k < xs.length) (hj : (nth xs k).Kind = (j : Int)) (h6 : j < 6) (h : (nth xs k).Until ≥ day) : (cntL (xs.take k) day).set j (nth (cntL (xs.take k) day) j + 1) = cntL (xs.take (k + 1)) day := by
  apply List.ext_getElem?
  intro i
  rw [List.getElem?_set]
  by_cases e : j = i
  · subst e
    rw [if_pos rfl, cntL_len, if_pos h6, cntL_nth h6]
    have hb : cntB (j : Int) day (nth xs k) = true := by simp [cntB, hj, h]
    simp [cntL, h6, cnt_yes hk hb]
  · rw [if_neg e]
    by_cases hi : i < 6
    · have hb : cntB (i : Int) day (nth xs k) = false := by
        have : ¬ ((j : Int) = (i : Int)) := by omega
        simp [cntB, hj, this]
      simp [cntL, hi, cnt_no hk hb]
    · simp [cntL, hi]
theorem cntL_miss {xs : List Skill} {day : Int} {k : Nat} (hk : k < xs.length) (h : ¬ (nth xs k).Until ≥ day) : cntL (xs.take (k + 1)) day = cntL (xs.take k) day := by
  unfold cntL
  apply List.map_congr_left
  intro i _
  exact cnt_no hk (by simp [cntB]; intro _; omega)
set_option maxHeartbeats 2000000 in
theorem drCount_any (xs : List Skill) (kind day : Int) (A : Option Addr) (n c : Nat) (w : World) (hn : n ≤ 1048576) (hs : Sl w A n xs) :
    Calls Try.prog 62 #[.slice A n c, .int .i64 kind, .int .i64 day] w fun e w' => e = .returned (.int .i64 (cnt xs kind day)) ∧ Below w.heap.size w w' := by
  have HL := Lib.hid hs.1
  go_enter Try.func62, Try.ntmps62
  go_wp2
  go_loopw [7, 12] (fun u i wr => ∃ (k : Nat) (q : Int), k ≤ n ∧ i = .int .i64 k ∧ u = .int .i64 q ∧ 0 ≤ q ∧ q ≤ (k : Int) ∧ Hid (q = cnt (xs.take k) kind day) ∧ Below w.heap.size w wr) (fun _ i _ => n - (intOf i).toNat)
  case atStart => exact ⟨0, 0, Nat.zero_le _, rfl, rfl, by omega, by omega, rfl, bl_refl _⟩
  case round =>
    obtain ⟨k, q, hk, rfl, rfl, hq0, hq1, hq, hb⟩ := hrel
    by_cases hlt : k < n
    · obtain ⟨b, o, rfl, hbz, c0, c1, c2⟩ := (hs.below hb).skill hlt
      have hkx : Hid (k < xs.length) := by rw [Hid, HL.out]; exact hlt
      clear hs
      cases e0 : (nth xs k).Kind == kind
      · have q_ : Hid (cntB kind day (nth xs k) = false) := by rw [Hid, cntB, e0]; simp
        go_wp2
        go_roundw
        case rel => exact ⟨k + 1, q, by omega, by go_num, rfl, by omega, by omega, by rw [Hid, cnt_no hkx.out q_.out]; exact hq.out, bl_alloc hb _⟩
        case measure => simp [intOf]; omega
      cases e1 : decide ((nth xs k).Until ≥ day)
      · have q_ : Hid (cntB kind day (nth xs k) = false) := by rw [Hid, cntB, e0, e1]; simp
        go_wp2
        go_roundw
        case rel => exact ⟨k + 1, q, by omega, by go_num, rfl, by omega, by omega, by rw [Hid, cnt_no hkx.out q_.out]; exact hq.out, bl_alloc hb _⟩
        case measure => simp [intOf]; omega
      have q_ : Hid (cntB kind day (nth xs k) = true) := by rw [Hid, cntB, e0, e1]; rfl
      go_wp2
      go_roundw
      case rel => exact ⟨k + 1, q + 1, by omega, by go_num, rfl, by omega, by omega, by rw [Hid, cnt_yes hkx.out q_.out, ← hq.out], bl_alloc hb _⟩
      case measure => simp [intOf]; omega
    · obtain rfl : k = n := by omega
      have hfin : Hid (q = cnt xs kind day) := by rw [Hid, hq.out, List.take_of_length_le (by rw [HL.out]; exact Nat.le_refl _)]
      go_wp2
      go_ret
      exact ⟨ret_i64 hfin.out, hb⟩
set_option maxHeartbeats 2000000 in
theorem drCounts_any (xs : List Skill) (day : Int) (A : Option Addr) (n c : Nat) (w : World) (hn : n ≤ 1048576) (hs : Sl w A n xs) :
    Calls Try.prog 65 #[.slice A n c, .int .i64 day] w (RetOwn w 3 (cntL xs day)) := by
  go_enter Try.func65, Try.ntmps65
  go_wp2
  go_loopw [5, 6] (fun v i wr => ∃ (k c' : Nat) (A' : Option Addr), k ≤ 6 ∧ i = .int .i64 k ∧ v = .slice A' k c' ∧ Own wr w.heap.size 3 (.slice A' k c') ((List.range k).map (fun j : Nat => cnt xs j day)) ∧ Below w.heap.size w wr) (fun _ i _ => 6 - (intOf i).toNat)
  case atStart => exact ⟨0, 0, none, Nat.zero_le _, rfl, rfl, Own.nil _ _ _, bl_refl _⟩
  case round =>
    obtain ⟨k, c', A', hk, rfl, rfl, ho, hb⟩ := hrel
    by_cases hlt : k < 6
    · have hd : decide ((k : Int) < 6) = true := by simp; omega
      go_wp2_with fail
      refine (drCount_any xs (k : Int) day _ _ _ _ hn (hs.below hb)).mono ?_
      rintro e V ⟨rfl, hV⟩
      have hoV := ho.below hV
      have hbV := bl_trans hb hV
      clear ho hs
      go_wp2_with ((at_builtin; refine wpList_app1g rfl (.tmp 11) (.tmp 16) _ _ rfl el_int (cnt xs (k : Int) day) rfl hoV hbV rfl (by simp) (by omega) ?_; intro A2 c2 w2 ho2 hb2 hg2))
      go_roundw
      case rel => exact ⟨k + 1, c2, A2, by omega, by go_num, rfl, by rw [List.range_succ, List.map_append]; exact ho2, hb2⟩
      case measure => simp [intOf]; omega
    · obtain rfl : k = 6 := by omega
      go_wp2
      go_ret
      exact retOwn_mk (cntL_len xs day) ho hb
set_option maxHeartbeats 2000000 in
theorem countsOn_any (xs : List Skill) (day : Int) (A : Option Addr) (n c : Nat) (w : World) (hn : n ≤ 1048576) (hs : Sl w A n xs) (hg : skillsB xs = true) :
    Calls Try.prog 64 #[.slice A n c, .int .i64 day] w (RetOwn w 3 (cntL xs day)) := by
  have HL := Lib.hid hs.1
  have HG := Lib.hid hg
  clear hg
  have hmk : ∀ W, (Instr.makeSlice 38 (.int .i64 6) (.int .i64 6)).run Try.prog W = .ok (.slice (some ⟨W.heap.size, 0, none⟩) 6 6) (W.alloc (.cells #[.int .i64 0, .int .i64 0, .int .i64 0, .int .i64 0, .int .i64 0, .int .i64 0] 3)) := fun W => by kernel_rfl
  go_enter Try.func64, Try.ntmps64
  go_wp2
  clear hmk
  go_loopw [11] (fun i wr => ∃ (k : Nat) (L : List Int), k ≤ n ∧ i = .int .i64 k ∧ Own wr w.heap.size 3 (.slice (some ⟨w.heap.size, 0, none⟩) 6 6) L ∧ Hid (L = cntL (xs.take k) day) ∧ Below w.heap.size w wr) (fun i _ => n - (intOf i).toNat)
  case atStart =>
    have h := Own.made w 3 (0 : Int) (z := #[.int .i64 0]) rfl 6 (by unfold maxLen; omega)
    have e : madeCells #[Value.int .i64 0] (6 * Flat.sz Int) = #[.int .i64 0, .int .i64 0, .int .i64 0, .int .i64 0, .int .i64 0, .int .i64 0] := by kernel_rfl
    rw [e] at h
    exact ⟨0, List.replicate 6 0, Nat.zero_le _, rfl, h, rfl, bl_alloc (bl_refl _) _⟩
  case round =>
    obtain ⟨k, L, hk, rfl, ho, hL, hb⟩ := hrel
    by_cases hlt : k < n
    · obtain ⟨b, o, rfl, hbz, c0, c1, c2⟩ := (hs.below hb).skill hlt
      have hkx : Hid (k < xs.length) := by rw [Hid, HL.out]; exact hlt
      obtain ⟨⟨u0, u1⟩, _, _⟩ := kind_at HG.out hkx.out
      obtain ⟨j, hj⟩ := Int.eq_ofNat_of_zero_le u0
      rw [hj] at c1 u1
      have hj6 : j < 6 := by omega
      have HJ := Lib.hid hj
      have hwz : w.heap.size < wr.heap.size := (ho.lt _ rfl).2
      obtain ⟨v, hv⟩ : ∃ v, v = nth L j := ⟨_, rfl⟩
      have hvb : 0 ≤ v ∧ v ≤ (k : Int) := by rw [hv, hL.out, cntL_nth hj6]; exact cnt_in xs j day k
      obtain ⟨v0, v1⟩ := hvb
      have d0 := ho.int (k := j) hj6
      have f0 := ho.frozenAt j
      rw [← hv] at d0
      have HV := Lib.hid hv
      clear hs hj hv u0
      by_cases hd : (nth xs k).Until ≥ day
      · have hd2 : decide ((nth xs k).Until ≥ day) = true := by simpa using hd
        go_wp2
        go_roundw
        case rel =>
          refine ⟨k + 1, L.set j (v + 1), by omega, by go_num, ?_, ?_, ?_⟩
          · first | exact (ho.putint hj6 (v + 1)).alloc _ | exact (ho.alloc _).putint hj6 (v + 1)
          · rw [Hid, HV.out, hL.out]; exact cntL_hit hkx.out HJ.out hj6 hd
          · repeat' (first | exact hb | refine bl_alloc ?_ _ | refine bl_set ?_ (Nat.le_refl _) _)
        case measure => simp [intOf]; omega
      · have hd2 : decide ((nth xs k).Until ≥ day) = false := by simpa using hd
        go_wp2
        go_roundw
        case rel => exact ⟨k + 1, L, by omega, by go_num, ho.alloc _, by rw [Hid, cntL_miss hkx.out hd]; exact hL.out, bl_alloc hb _⟩
        case measure => simp [intOf]; omega
    · obtain rfl : k = n := by omega
      have hfin : Hid (L = cntL xs day) := by rw [Hid, hL.out, List.take_of_length_le (by rw [HL.out]; exact Nat.le_refl _)]
      go_wp2
      go_ret
      exact retOwn_mk (cntL_len xs day) (by rw [← hfin.out]; exact ho) hb

end Go.Proofs.Ytiekmpbdlncgdaa
