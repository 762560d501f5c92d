/-
  Detector: its reading, and the helpers of the laws over it. No conditions.
-/
import Derived.Test.YtjdaikpkcafcdaaMark
namespace Go.Proofs.Ytjdaikpkcafcdaa
open Go.RowKit

structure Det where
  Number : Int
  Zone : Int
  Kind : Int
  Off : Bool
  deriving DecidableEq
instance : Inhabited Det := ⟨⟨0, 0, 0, false⟩⟩
instance : Flat Det where
  sz := 4
  pos := by omega
  enc := fun x => [.int .i64 (x.Number), .int .i64 (x.Zone), .int .i64 (x.Kind), .bool (x.Off)]
  len := fun _ => rfl
  one := fun _ u h => by simp at h; rcases h with rfl | rfl | rfl | rfl <;> rfl
theorem Sl.det {w : World} {A : Option Addr} {n : Nat} {xs : List Det} (h : Sl w A n xs) {k : Nat} (hk : k < n) :
    ∃ b o, A = some ⟨b, o, none⟩ ∧ b < w.heap.size ∧ w.cell? ⟨b, o + k * 4, none⟩ = some (.int .i64 ((nth xs k).Number)) ∧ w.cell? ⟨b, o + k * 4 + 1, none⟩ = some (.int .i64 ((nth xs k).Zone)) ∧ w.cell? ⟨b, o + k * 4 + 2, none⟩ = some (.int .i64 ((nth xs k).Kind)) ∧ w.cell? ⟨b, o + k * 4 + 3, none⟩ = some (.bool ((nth xs k).Off)) := by
  obtain ⟨b, o, rfl, hc⟩ := h.flat hk
  exact ⟨b, o, rfl, h.lt hk, hc 0 _ rfl, hc 1 _ rfl, hc 2 _ rfl, hc 3 _ rfl⟩
theorem det_eq {x y : Det} : sameB x y = (sameB x.Number y.Number && sameB x.Zone y.Zone && sameB x.Kind y.Kind && sameB x.Off y.Off) := by
  cases x; cases y; simp [sameB, Bool.and_assoc]
theorem szDetectorS_any (A : Option Addr) (n c : Nat) (left : Int) (w : World) (hn : (n : Int) ≤ 9223372036854775807) (h0 : 0 ≤ left) (h1 : left ≤ 9223372036854775807) :
    Calls Try.prog 14 #[.slice A n c, .int .i64 left] w fun e w' => e = .returned (.int .i64 (szF left n)) ∧ w = w' := by
  by_cases hlt : left < n
  all_goals
    go_enter Try.func14, Try.ntmps14
    go_wp2
    go_ret
    exact ⟨ret_i64 (by unfold szF; split <;> omega), rfl⟩

theorem toDetector_any (x : Det) (w : World) :
    Calls Try.prog 39 #[.agg #[.int .i64 (x.Number), .int .i64 (x.Zone), .int .i64 (x.Kind), .bool (x.Off)]] w fun e w' => e = .returned (.agg #[.int .i64 (x.Number), .int .i64 (x.Zone), .int .i64 (x.Kind), .bool (x.Off)]) ∧ Below w.heap.size w w' := by
  go_enter Try.func39, Try.ntmps39
  go_wp2
  go_returns
  exact ⟨rfl, by repeat' (first | exact bl_refl _ | refine bl_alloc ?_ _ | refine bl_set ?_ ?_ _ | (simp; done) | (simp; omega))⟩

set_option maxHeartbeats 1000000 in
theorem eqDetector_any (x y : Det) (w : World) :
    Calls Try.prog 41 #[.agg #[.int .i64 (x.Number), .int .i64 (x.Zone), .int .i64 (x.Kind), .bool (x.Off)], .agg #[.int .i64 (y.Number), .int .i64 (y.Zone), .int .i64 (y.Kind), .bool (y.Off)]] w fun e w' => e = .returned (.bool (sameB x y)) ∧ Below w.heap.size w w' := by
  by_cases h0 : (x.Number == y.Number) = true
  rotate_left
  · have h0 : (x.Number == y.Number) = false := by simpa using h0
    have e0 : (x.Number != y.Number) = true := by simp [bne, h0]
    have q : Hid (sameB x y = false) := by rw [Hid, sameB_no]; rintro rfl; simp at h0
    go_enter Try.func41, Try.ntmps41
    go_wp2
    go_returns
    exact ⟨ret_bool q.out.symm, by repeat' (first | exact bl_refl _ | refine bl_alloc ?_ _ | refine bl_set ?_ ?_ _ | (simp; done) | (simp; omega))⟩
  have e0 : (x.Number != y.Number) = false := by simp [bne, h0]
  by_cases h1 : (x.Zone == y.Zone) = true
  rotate_left
  · have h1 : (x.Zone == y.Zone) = false := by simpa using h1
    have e1 : (x.Zone != y.Zone) = true := by simp [bne, h1]
    have q : Hid (sameB x y = false) := by rw [Hid, sameB_no]; rintro rfl; simp at h1
    go_enter Try.func41, Try.ntmps41
    go_wp2
    go_returns
    exact ⟨ret_bool q.out.symm, by repeat' (first | exact bl_refl _ | refine bl_alloc ?_ _ | refine bl_set ?_ ?_ _ | (simp; done) | (simp; omega))⟩
  have e1 : (x.Zone != y.Zone) = false := by simp [bne, h1]
  by_cases h2 : (x.Kind == y.Kind) = true
  rotate_left
  · have h2 : (x.Kind == y.Kind) = false := by simpa using h2
    have e2 : (x.Kind != y.Kind) = true := by simp [bne, h2]
    have q : Hid (sameB x y = false) := by rw [Hid, sameB_no]; rintro rfl; simp at h2
    go_enter Try.func41, Try.ntmps41
    go_wp2
    go_returns
    exact ⟨ret_bool q.out.symm, by repeat' (first | exact bl_refl _ | refine bl_alloc ?_ _ | refine bl_set ?_ ?_ _ | (simp; done) | (simp; omega))⟩
  have e2 : (x.Kind != y.Kind) = false := by simp [bne, h2]
  by_cases h3 : (x.Off == y.Off) = true
  rotate_left
  · have h3 : (x.Off == y.Off) = false := by simpa using h3
    have e3 : (x.Off != y.Off) = true := by simp [bne, h3]
    have q : Hid (sameB x y = false) := by rw [Hid, sameB_no]; rintro rfl; simp at h3
    go_enter Try.func41, Try.ntmps41
    go_wp2
    go_returns
    exact ⟨ret_bool q.out.symm, by repeat' (first | exact bl_refl _ | refine bl_alloc ?_ _ | refine bl_set ?_ ?_ _ | (simp; done) | (simp; omega))⟩
  have e3 : (x.Off != y.Off) = false := by simp [bne, h3]
  have q : Hid (sameB x y = true) := by rw [Hid, det_eq]; simp only [beq_iff_eq] at h0 h1 h2 h3; simp [sameB, h0, h1, h2, h3]
  go_enter Try.func41, Try.ntmps41
  go_wp2
  go_returns
  exact ⟨ret_bool q.out.symm, by repeat' (first | exact bl_refl _ | refine bl_alloc ?_ _ | refine bl_set ?_ ?_ _ | (simp; done) | (simp; omega))⟩

set_option maxHeartbeats 1000000 in
theorem eqDetectorS_any (A B : Option Addr) (n m c d : Nat) (xs ys : List Det) (w : World) (hn : (n : Int) ≤ 9223372036854775807) (hx : Sl w A n xs) (hy : Sl w B m ys) :
    Calls Try.prog 18 #[.slice A n c, .slice B m d] w fun e w' => e = .returned (.bool (sameB xs ys)) ∧ Below w.heap.size w w' := by
  have Hx := Lib.hid hx.1
  have Hy := Lib.hid hy.1
  by_cases hnm : n = m
  · subst hnm
    have hd : ((n : Int) != (n : Int)) = false := by simp
    go_enter Try.func18, Try.ntmps18
    go_wp2
    go_loopw [5] (fun i wr => ∃ k : Nat, k ≤ n ∧ i = .int .i64 k ∧ Below w.heap.size w wr ∧ Hid (xs.take k = ys.take k)) (fun i _ => n - (intOf i).toNat)
    case atStart => exact ⟨0, Nat.zero_le _, rfl, bl_refl _, rfl⟩
    case round =>
      obtain ⟨k, hk, rfl, hb, hg⟩ := hrel
      by_cases hlt : k < n
      · obtain ⟨b, o, rfl, _, c0, c1, c2, c3⟩ := (hx.below hb).det hlt
        obtain ⟨b', o', rfl, _, d0, d1, d2, d3⟩ := (hy.below hb).det hlt
        clear hx hy
        by_cases he : sameB (nth xs k) (nth ys k) = true
        · skip
          go_wp2_with fail
          refine wp_region_grow (by kernel_rfl) (by kernel_rfl) (fun W hW => ?_)
          have e0 := Gw.cell (by rw [hW]; exact c0 : W.cell? _ = _)
          have g0 := Gw.cell (by rw [hW]; exact d0 : W.cell? _ = _)
          have e1 := Gw.cell (by rw [hW]; exact c1 : W.cell? _ = _)
          have g1 := Gw.cell (by rw [hW]; exact d1 : W.cell? _ = _)
          have e2 := Gw.cell (by rw [hW]; exact c2 : W.cell? _ = _)
          have g2 := Gw.cell (by rw [hW]; exact d2 : W.cell? _ = _)
          have e3 := Gw.cell (by rw [hW]; exact c3 : W.cell? _ = _)
          have g3 := Gw.cell (by rw [hW]; exact d3 : W.cell? _ = _)
          have HW := Lib.hid hW
          clear hW
          repeat (go_big_quiet_step ((go_at_call 41; exact Calls.grow_of (eqDetector_any _ _ _))))
          refine wpGrow_nil (fun V hV => ?_)
          have hbV : Below w.heap.size w V := bl_trans hb (by rw [← HW.out]; exact hV)
          clear hV e0 g0 e1 g1 e2 g2 e3 g3
          go_wp2
          go_roundw
          case rel => exact ⟨k + 1, by omega, by go_num, hbV, sameB_take (by rw [Hx.out]; exact hlt) (by rw [Hy.out]; exact hlt) hg he⟩
          case measure => simp [intOf]; omega
        · have he : sameB (nth xs k) (nth ys k) = false := by simpa using he
          go_wp2_with fail
          refine wp_region_grow (by kernel_rfl) (by kernel_rfl) (fun W hW => ?_)
          have e0 := Gw.cell (by rw [hW]; exact c0 : W.cell? _ = _)
          have g0 := Gw.cell (by rw [hW]; exact d0 : W.cell? _ = _)
          have e1 := Gw.cell (by rw [hW]; exact c1 : W.cell? _ = _)
          have g1 := Gw.cell (by rw [hW]; exact d1 : W.cell? _ = _)
          have e2 := Gw.cell (by rw [hW]; exact c2 : W.cell? _ = _)
          have g2 := Gw.cell (by rw [hW]; exact d2 : W.cell? _ = _)
          have e3 := Gw.cell (by rw [hW]; exact c3 : W.cell? _ = _)
          have g3 := Gw.cell (by rw [hW]; exact d3 : W.cell? _ = _)
          have HW := Lib.hid hW
          clear hW
          repeat (go_big_quiet_step ((go_at_call 41; exact Calls.grow_of (eqDetector_any _ _ _))))
          refine wpGrow_nil (fun V hV => ?_)
          have hbV : Below w.heap.size w V := bl_trans hb (by rw [← HW.out]; exact hV)
          clear hV e0 g0 e1 g1 e2 g2 e3 g3
          go_wp2
          go_ret
          exact ⟨ret_bool (sameB_nth he).symm, hbV⟩
      · obtain rfl : k = n := by omega
        go_wp2
        go_ret
        exact ⟨ret_bool (sameB_all Hx.out Hy.out hg).symm, hb⟩
  · have hd : ((n : Int) != (m : Int)) = true := by simp; omega
    go_enter Try.func18, Try.ntmps18
    go_wp2
    go_ret
    exact ⟨ret_bool (sameB_len (by rw [Hx.out, Hy.out]; exact hnm)).symm, bl_refl _⟩

theorem det_info : (Try.prog.info? 58).map (fun i => (i.zero, i.size, i.bytes)) = some (some (.agg #[.int .i64 0, .int .i64 0, .int .i64 0, .bool false]), 4, 32) := by kernel_rfl
set_option maxHeartbeats 1000000 in
theorem toDetectorS_any (A : Option Addr) (n c : Nat) (xs : List Det) (w : World) (hn : n ≤ 1048576) (hx : Sl w A n xs) :
    Calls Try.prog 16 #[.slice A n c] w (RetOwn w 58 xs) := by
  have Hx := Lib.hid hx.1
  obtain ⟨i0, hi, hz0, hz1, hz2⟩ := info_parts det_info
  have hmk := fun W => run_make_rowN (P := Try.prog) 32 58 i0 _ Try.underlying32 hi hz0 .i64 .i64 n n (Nat.le_refl _) (by rw [hz2]; omega) (by omega) W
  rw [hz1] at hmk
  clear hi hz0 hz1 hz2
  go_enter Try.func16, Try.ntmps16
  go_wp2
  clear hmk
  go_loopw [4] (fun i wr => ∃ (k : Nat) (L : List Det), k ≤ n ∧ i = .int .i64 k ∧ Below w.heap.size w wr ∧ Own wr w.heap.size 58 (.slice (some ⟨w.heap.size, 0, none⟩) n n) L ∧ Hid (L = xs.take k ++ List.replicate (n - k) (default : Det))) (fun i _ => n - (intOf i).toNat)
  case atStart => exact ⟨0, _, Nat.zero_le _, rfl, bl_alloc (bl_refl _) _, Own.made w _ default rfl n (by unfold maxLen; omega), rfl⟩
  case round =>
    obtain ⟨k, L, hk, rfl, hb, ho, HL⟩ := hrel
    by_cases hlt : k < n
    · obtain ⟨b, o, rfl, _, c0, c1, c2, c3⟩ := (hx.below hb).det hlt
      clear hx
      go_wp2_with fail
      refine (toDetector_any _ _).mono ?_
      rintro e V ⟨rfl, hV⟩
      have hoV := ho.below hV
      have d0 : V.cell? ⟨w.heap.size, k * 4, none⟩ = some (.int .i64 ((nth L k).Number)) := hoV.cellAt hlt 0 _ rfl
      have f0 := hoV.frozenAt (k * 4)
      have d1 : V.cell? ⟨w.heap.size, k * 4 + 1, none⟩ = some (.int .i64 ((nth L k).Zone)) := hoV.cellAt hlt 1 _ rfl
      have f1 := hoV.frozenAt (k * 4 + 1)
      have d2 : V.cell? ⟨w.heap.size, k * 4 + 2, none⟩ = some (.int .i64 ((nth L k).Kind)) := hoV.cellAt hlt 2 _ rfl
      have f2 := hoV.frozenAt (k * 4 + 2)
      have d3 : V.cell? ⟨w.heap.size, k * 4 + 3, none⟩ = some (.bool ((nth L k).Off)) := hoV.cellAt hlt 3 _ rfl
      have f3 := hoV.frozenAt (k * 4 + 3)
      clear c0 c1 c2 c3 ho
      go_wp2
      go_roundw
      case rel =>
        refine ⟨k + 1, L.set k (nth xs k), by omega, by go_num, ?_, hoV.put hlt (nth xs k), set_take Hx.out hlt HL.out (get_nth (by rw [Hx.out]; exact hlt))⟩
        repeat' (first | exact bl_trans hb hV | refine bl_set ?_ (Nat.le_refl _) _)
      case measure => simp [intOf]; omega
    · obtain rfl : k = n := by omega
      have HL2 : Hid (L = xs) := by rw [Hid, HL.out, ← Hx.out]; simp
      go_wp2
      go_ret
      exact retOwn_mk Hx.out (by rw [← HL2.out]; exact ho) hb

def mkDet (m : Int) : Det := ⟨m, (m + 1), (m + 1 + 1), ((m + 1 + 1 + 1) % 3 == 0)⟩
set_option maxHeartbeats 1000000 in
theorem markDetectorS_any (A : Option Addr) (n c base : Nat) (k : Int) (xs : List Det) (w : World) (hn : n ≤ 1048576) (hk0 : 0 ≤ k) (hk1 : k ≤ 1099511627776) (ho : Own w base 58 (.slice A n c) xs) :
    Calls Try.prog 22 #[.slice A n c, .int .i64 k] w fun e w' => e = .returned (.int .i64 (k + 4 * n)) ∧ Own w' base 58 (.slice A n c) (marks mkDet 4 k n) ∧ w.grownBy w' (Value.ownBlock (.slice A n c)) := by
  have HL := Lib.hid ho.sl.1
  go_enter Try.func22, Try.ntmps22
  go_wp2
  go_loopw [1, 5] (fun u v wr => ∃ (i : Nat) (m : Int) (L : List Det), i ≤ n ∧ v = .int .i64 i ∧ u = .int .i64 m ∧ Hid (m = k + 4 * (i : Int)) ∧ 0 ≤ m ∧ m ≤ 1099511627776 + 4 * (i : Int) ∧ Own wr base 58 (.slice A n c) L ∧ Hid (L = marks mkDet 4 k i ++ xs.drop i) ∧ w.grownBy wr (Value.ownBlock (.slice A n c))) (fun _ v _ => n - (intOf v).toNat)
  case atStart => exact ⟨0, k, xs, Nat.zero_le _, rfl, rfl, by rw [Hid]; omega, hk0, by omega, ho, by rw [Hid]; simp [marks], gb_refl _ _⟩
  case round =>
    obtain ⟨i, m, L, hi, rfl, rfl, hm, hm0, hm1, ho, HL2, hg⟩ := hrel
    by_cases hlt : i < n
    · obtain ⟨g, rfl⟩ := ho.form (by omega)
      have d0 : wr.cell? ⟨g, i * 4, none⟩ = some (.int .i64 ((nth L i).Number)) := ho.cellAt hlt 0 _ rfl
      have f0 := ho.frozenAt (i * 4)
      have d1 : wr.cell? ⟨g, i * 4 + 1, none⟩ = some (.int .i64 ((nth L i).Zone)) := ho.cellAt hlt 1 _ rfl
      have f1 := ho.frozenAt (i * 4 + 1)
      have d2 : wr.cell? ⟨g, i * 4 + 2, none⟩ = some (.int .i64 ((nth L i).Kind)) := ho.cellAt hlt 2 _ rfl
      have f2 := ho.frozenAt (i * 4 + 2)
      have d3 : wr.cell? ⟨g, i * 4 + 3, none⟩ = some (.bool ((nth L i).Off)) := ho.cellAt hlt 3 _ rfl
      have f3 := ho.frozenAt (i * 4 + 3)
      go_wp2
      go_roundw
      case rel =>
        refine ⟨i + 1, m + 1 + 1 + 1 + 1, L.set i (mkDet m), by omega, by go_num, rfl, by have := hm.out; rw [Hid]; omega, by omega, by omega, ho.put hlt (mkDet m), marks_put HL.out hlt HL2.out (by rw [hm.out]; rfl), ?_⟩
        repeat' (first | exact hg | refine gb_set ?_ _ _)
      case measure => simp [intOf]; omega
    · obtain rfl : i = n := by omega
      have e : Hid (L = marks mkDet 4 k i) := by rw [Hid, HL2.out, ← HL.out]; simp
      go_wp2
      go_ret
      exact ⟨ret_i64 hm.out, by rw [← e.out]; exact ho, hg⟩

set_option maxHeartbeats 1000000 in
theorem heldDetectorS_any (A : Option Addr) (n c : Nat) (k : Int) (w : World) (hn : n ≤ 1048576) (hk0 : 0 ≤ k) (hk1 : k ≤ 1099511627776) (hs : Sl w A n (marks mkDet 4 k n)) :
    Calls Try.prog 27 #[.slice A n c, .int .i64 k] w fun e w' => e = .returned (.int .i64 (k + 4 * n)) ∧ Below w.heap.size w w' := by
  go_enter Try.func27, Try.ntmps27
  go_wp2
  go_loopw [1, 5] (fun u v wr => ∃ (i : Nat) (m : Int), i ≤ n ∧ v = .int .i64 i ∧ u = .int .i64 m ∧ Hid (m = k + 4 * (i : Int)) ∧ 0 ≤ m ∧ m ≤ 1099511627776 + 4 * (i : Int) ∧ Below w.heap.size w wr) (fun _ v _ => n - (intOf v).toNat)
  case atStart => exact ⟨0, k, Nat.zero_le _, rfl, rfl, by rw [Hid]; omega, hk0, by omega, bl_refl _⟩
  case round =>
    obtain ⟨i, m, hi, rfl, rfl, hm, hm0, hm1, hb⟩ := hrel
    by_cases hlt : i < n
    · obtain ⟨b, o, rfl, hbz, c0, c1, c2, c3⟩ := (hs.below hb).det hlt
      have e : nth (marks mkDet 4 k n) i = mkDet m := by rw [marks_nth hlt, hm.out]; rfl
      rw [e] at c0 c1 c2 c3
      have d0 : wr.cell? ⟨b, o + i * 4, none⟩ = some (.int .i64 (m)) := c0
      have d1 : wr.cell? ⟨b, o + i * 4 + 1, none⟩ = some (.int .i64 ((m + 1))) := c1
      have d2 : wr.cell? ⟨b, o + i * 4 + 2, none⟩ = some (.int .i64 ((m + 1 + 1))) := c2
      have d3 : wr.cell? ⟨b, o + i * 4 + 3, none⟩ = some (.bool (((m + 1 + 1 + 1) % 3 == 0))) := c3
      clear hs e c0 c1 c2 c3
      go_wp2
      go_roundw
      case rel => exact ⟨i + 1, m + 1 + 1 + 1 + 1, by omega, by go_num, rfl, by have := hm.out; rw [Hid]; omega, by omega, by omega, hb⟩
      case measure => simp [intOf]; omega
    · obtain rfl : i = n := by omega
      go_wp2
      go_ret
      exact ⟨ret_i64 hm.out, hb⟩

end Go.Proofs.Ytjdaikpkcafcdaa
