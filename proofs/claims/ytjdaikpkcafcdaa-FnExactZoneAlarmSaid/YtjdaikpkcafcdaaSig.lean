/-
  Signal: its reading, and the helpers of the laws over it. No conditions.
-/
import Derived.Test.YtjdaikpkcafcdaaMark
namespace Go.Proofs.Ytjdaikpkcafcdaa
open Go.RowKit

structure Sig where
  s : Int
  n : Int
  deriving DecidableEq
instance : Inhabited Sig := ⟨⟨0, 0⟩⟩
instance : Flat Sig where
  sz := 2
  pos := by omega
  enc := fun x => [.int .i64 (x.s), .int .i64 (x.n)]
  len := fun _ => rfl
  one := fun _ u h => by simp at h; rcases h with rfl | rfl <;> rfl
theorem Sl.sig {w : World} {A : Option Addr} {n : Nat} {xs : List Sig} (h : Sl w A n xs) {k : Nat} (hk : k < n) :
    ∃ b o, A = some ⟨b, o, none⟩ ∧ b < w.heap.size ∧ w.cell? ⟨b, o + k * 2, none⟩ = some (.int .i64 ((nth xs k).s)) ∧ w.cell? ⟨b, o + k * 2 + 1, none⟩ = some (.int .i64 ((nth xs k).n)) := by
  obtain ⟨b, o, rfl, hc⟩ := h.flat hk
  exact ⟨b, o, rfl, h.lt hk, hc 0 _ rfl, hc 1 _ rfl⟩
theorem sig_eq {x y : Sig} : sameB x y = (sameB x.s y.s && sameB x.n y.n) := by
  cases x; cases y; simp [sameB]
theorem szSignalS_any (A : Option Addr) (n c : Nat) (left : Int) (w : World) (hn : (n : Int) ≤ 9223372036854775807) (h0 : 0 ≤ left) (h1 : left ≤ 9223372036854775807) :
    Calls Try.prog 9 #[.slice A n c, .int .i64 left] w fun e w' => e = .returned (.int .i64 (szF left n)) ∧ w = w' := by
  by_cases hlt : left < n
  all_goals
    go_enter Try.func9, Try.ntmps9
    go_wp2
    go_ret
    exact ⟨ret_i64 (by unfold szF; split <;> omega), rfl⟩

theorem toSignal_any (x : Sig) (w : World) :
    Calls Try.prog 35 #[.agg #[.int .i64 (x.s), .int .i64 (x.n)]] w fun e w' => e = .returned (.agg #[.int .i64 (x.s), .int .i64 (x.n)]) ∧ Below w.heap.size w w' := by
  go_enter Try.func35, Try.ntmps35
  go_wp2
  go_returns
  exact ⟨rfl, by repeat' (first | exact bl_refl _ | refine bl_alloc ?_ _ | refine bl_set ?_ ?_ _ | (simp; done) | (simp; omega))⟩

set_option maxHeartbeats 1000000 in
theorem eqSignal_any (x y : Sig) (w : World) :
    Calls Try.prog 37 #[.agg #[.int .i64 (x.s), .int .i64 (x.n)], .agg #[.int .i64 (y.s), .int .i64 (y.n)]] w fun e w' => e = .returned (.bool (sameB x y)) ∧ Below w.heap.size w w' := by
  by_cases h0 : (x.s == y.s) = true
  rotate_left
  · have h0 : (x.s == y.s) = false := by simpa using h0
    have e0 : (x.s != y.s) = true := by simp [bne, h0]
    have q : Hid (sameB x y = false) := by rw [Hid, sameB_no]; rintro rfl; simp at h0
    go_enter Try.func37, Try.ntmps37
    go_wp2
    go_returns
    exact ⟨ret_bool q.out.symm, by repeat' (first | exact bl_refl _ | refine bl_alloc ?_ _ | refine bl_set ?_ ?_ _ | (simp; done) | (simp; omega))⟩
  have e0 : (x.s != y.s) = false := by simp [bne, h0]
  by_cases h1 : (x.n == y.n) = true
  rotate_left
  · have h1 : (x.n == y.n) = false := by simpa using h1
    have e1 : (x.n != y.n) = true := by simp [bne, h1]
    have q : Hid (sameB x y = false) := by rw [Hid, sameB_no]; rintro rfl; simp at h1
    go_enter Try.func37, Try.ntmps37
    go_wp2
    go_returns
    exact ⟨ret_bool q.out.symm, by repeat' (first | exact bl_refl _ | refine bl_alloc ?_ _ | refine bl_set ?_ ?_ _ | (simp; done) | (simp; omega))⟩
  have e1 : (x.n != y.n) = false := by simp [bne, h1]
  have q : Hid (sameB x y = true) := by rw [Hid, sig_eq]; simp only [beq_iff_eq] at h0 h1; simp [sameB, h0, h1]
  go_enter Try.func37, Try.ntmps37
  go_wp2
  go_returns
  exact ⟨ret_bool q.out.symm, by repeat' (first | exact bl_refl _ | refine bl_alloc ?_ _ | refine bl_set ?_ ?_ _ | (simp; done) | (simp; omega))⟩

set_option maxHeartbeats 1000000 in
theorem eqSignalS_any (A B : Option Addr) (n m c d : Nat) (xs ys : List Sig) (w : World) (hn : (n : Int) ≤ 9223372036854775807) (hx : Sl w A n xs) (hy : Sl w B m ys) :
    Calls Try.prog 13 #[.slice A n c, .slice B m d] w fun e w' => e = .returned (.bool (sameB xs ys)) ∧ Below w.heap.size w w' := by
  have Hx := Lib.hid hx.1
  have Hy := Lib.hid hy.1
  by_cases hnm : n = m
  · subst hnm
    have hd : ((n : Int) != (n : Int)) = false := by simp
    go_enter Try.func13, Try.ntmps13
    go_wp2
    go_loopw [5] (fun i wr => ∃ k : Nat, k ≤ n ∧ i = .int .i64 k ∧ Below w.heap.size w wr ∧ Hid (xs.take k = ys.take k)) (fun i _ => n - (intOf i).toNat)
    case atStart => exact ⟨0, Nat.zero_le _, rfl, bl_refl _, rfl⟩
    case round =>
      obtain ⟨k, hk, rfl, hb, hg⟩ := hrel
      by_cases hlt : k < n
      · obtain ⟨b, o, rfl, _, c0, c1⟩ := (hx.below hb).sig hlt
        obtain ⟨b', o', rfl, _, d0, d1⟩ := (hy.below hb).sig hlt
        clear hx hy
        by_cases he : sameB (nth xs k) (nth ys k) = true
        · skip
          go_wp2_with fail
          refine wp_region_grow (by kernel_rfl) (by kernel_rfl) (fun W hW => ?_)
          have e0 := Gw.cell (by rw [hW]; exact c0 : W.cell? _ = _)
          have g0 := Gw.cell (by rw [hW]; exact d0 : W.cell? _ = _)
          have e1 := Gw.cell (by rw [hW]; exact c1 : W.cell? _ = _)
          have g1 := Gw.cell (by rw [hW]; exact d1 : W.cell? _ = _)
          have HW := Lib.hid hW
          clear hW
          repeat (go_big_quiet_step ((go_at_call 37; exact Calls.grow_of (eqSignal_any _ _ _))))
          refine wpGrow_nil (fun V hV => ?_)
          have hbV : Below w.heap.size w V := bl_trans hb (by rw [← HW.out]; exact hV)
          clear hV e0 g0 e1 g1
          go_wp2
          go_roundw
          case rel => exact ⟨k + 1, by omega, by go_num, hbV, sameB_take (by rw [Hx.out]; exact hlt) (by rw [Hy.out]; exact hlt) hg he⟩
          case measure => simp [intOf]; omega
        · have he : sameB (nth xs k) (nth ys k) = false := by simpa using he
          go_wp2_with fail
          refine wp_region_grow (by kernel_rfl) (by kernel_rfl) (fun W hW => ?_)
          have e0 := Gw.cell (by rw [hW]; exact c0 : W.cell? _ = _)
          have g0 := Gw.cell (by rw [hW]; exact d0 : W.cell? _ = _)
          have e1 := Gw.cell (by rw [hW]; exact c1 : W.cell? _ = _)
          have g1 := Gw.cell (by rw [hW]; exact d1 : W.cell? _ = _)
          have HW := Lib.hid hW
          clear hW
          repeat (go_big_quiet_step ((go_at_call 37; exact Calls.grow_of (eqSignal_any _ _ _))))
          refine wpGrow_nil (fun V hV => ?_)
          have hbV : Below w.heap.size w V := bl_trans hb (by rw [← HW.out]; exact hV)
          clear hV e0 g0 e1 g1
          go_wp2
          go_ret
          exact ⟨ret_bool (sameB_nth he).symm, hbV⟩
      · obtain rfl : k = n := by omega
        go_wp2
        go_ret
        exact ⟨ret_bool (sameB_all Hx.out Hy.out hg).symm, hb⟩
  · have hd : ((n : Int) != (m : Int)) = true := by simp; omega
    go_enter Try.func13, Try.ntmps13
    go_wp2
    go_ret
    exact ⟨ret_bool (sameB_len (by rw [Hx.out, Hy.out]; exact hnm)).symm, bl_refl _⟩

theorem sig_info : (Try.prog.info? 53).map (fun i => (i.zero, i.size, i.bytes)) = some (some (.agg #[.int .i64 0, .int .i64 0]), 2, 16) := by kernel_rfl
set_option maxHeartbeats 1000000 in
theorem toSignalS_any (A : Option Addr) (n c : Nat) (xs : List Sig) (w : World) (hn : n ≤ 1048576) (hx : Sl w A n xs) :
    Calls Try.prog 11 #[.slice A n c] w (RetOwn w 53 xs) := by
  have Hx := Lib.hid hx.1
  obtain ⟨i0, hi, hz0, hz1, hz2⟩ := info_parts sig_info
  have hmk := fun W => run_make_rowN (P := Try.prog) 25 53 i0 _ Try.underlying25 hi hz0 .i64 .i64 n n (Nat.le_refl _) (by rw [hz2]; omega) (by omega) W
  rw [hz1] at hmk
  clear hi hz0 hz1 hz2
  go_enter Try.func11, Try.ntmps11
  go_wp2
  clear hmk
  go_loopw [4] (fun i wr => ∃ (k : Nat) (L : List Sig), k ≤ n ∧ i = .int .i64 k ∧ Below w.heap.size w wr ∧ Own wr w.heap.size 53 (.slice (some ⟨w.heap.size, 0, none⟩) n n) L ∧ Hid (L = xs.take k ++ List.replicate (n - k) (default : Sig))) (fun i _ => n - (intOf i).toNat)
  case atStart => exact ⟨0, _, Nat.zero_le _, rfl, bl_alloc (bl_refl _) _, Own.made w _ default rfl n (by unfold maxLen; omega), rfl⟩
  case round =>
    obtain ⟨k, L, hk, rfl, hb, ho, HL⟩ := hrel
    by_cases hlt : k < n
    · obtain ⟨b, o, rfl, _, c0, c1⟩ := (hx.below hb).sig hlt
      clear hx
      go_wp2_with fail
      refine (toSignal_any _ _).mono ?_
      rintro e V ⟨rfl, hV⟩
      have hoV := ho.below hV
      have d0 : V.cell? ⟨w.heap.size, k * 2, none⟩ = some (.int .i64 ((nth L k).s)) := hoV.cellAt hlt 0 _ rfl
      have f0 := hoV.frozenAt (k * 2)
      have d1 : V.cell? ⟨w.heap.size, k * 2 + 1, none⟩ = some (.int .i64 ((nth L k).n)) := hoV.cellAt hlt 1 _ rfl
      have f1 := hoV.frozenAt (k * 2 + 1)
      clear c0 c1 ho
      go_wp2
      go_roundw
      case rel =>
        refine ⟨k + 1, L.set k (nth xs k), by omega, by go_num, ?_, hoV.put hlt (nth xs k), set_take Hx.out hlt HL.out (get_nth (by rw [Hx.out]; exact hlt))⟩
        repeat' (first | exact bl_trans hb hV | refine bl_set ?_ (Nat.le_refl _) _)
      case measure => simp [intOf]; omega
    · obtain rfl : k = n := by omega
      have HL2 : Hid (L = xs) := by rw [Hid, HL.out, ← Hx.out]; simp
      go_wp2
      go_ret
      exact retOwn_mk Hx.out (by rw [← HL2.out]; exact ho) hb

def mkSig (m : Int) : Sig := ⟨m, (m + 1)⟩
set_option maxHeartbeats 1000000 in
theorem markSignalS_any (A : Option Addr) (n c base : Nat) (k : Int) (xs : List Sig) (w : World) (hn : n ≤ 1048576) (hk0 : 0 ≤ k) (hk1 : k ≤ 1099511627776) (ho : Own w base 53 (.slice A n c) xs) :
    Calls Try.prog 30 #[.slice A n c, .int .i64 k] w fun e w' => e = .returned (.int .i64 (k + 2 * n)) ∧ Own w' base 53 (.slice A n c) (marks mkSig 2 k n) ∧ w.grownBy w' (Value.ownBlock (.slice A n c)) := by
  have HL := Lib.hid ho.sl.1
  go_enter Try.func30, Try.ntmps30
  go_wp2
  go_loopw [1, 5] (fun u v wr => ∃ (i : Nat) (m : Int) (L : List Sig), i ≤ n ∧ v = .int .i64 i ∧ u = .int .i64 m ∧ Hid (m = k + 2 * (i : Int)) ∧ 0 ≤ m ∧ m ≤ 1099511627776 + 2 * (i : Int) ∧ Own wr base 53 (.slice A n c) L ∧ Hid (L = marks mkSig 2 k i ++ xs.drop i) ∧ w.grownBy wr (Value.ownBlock (.slice A n c))) (fun _ v _ => n - (intOf v).toNat)
  case atStart => exact ⟨0, k, xs, Nat.zero_le _, rfl, rfl, by rw [Hid]; omega, hk0, by omega, ho, by rw [Hid]; simp [marks], gb_refl _ _⟩
  case round =>
    obtain ⟨i, m, L, hi, rfl, rfl, hm, hm0, hm1, ho, HL2, hg⟩ := hrel
    by_cases hlt : i < n
    · obtain ⟨g, rfl⟩ := ho.form (by omega)
      have d0 : wr.cell? ⟨g, i * 2, none⟩ = some (.int .i64 ((nth L i).s)) := ho.cellAt hlt 0 _ rfl
      have f0 := ho.frozenAt (i * 2)
      have d1 : wr.cell? ⟨g, i * 2 + 1, none⟩ = some (.int .i64 ((nth L i).n)) := ho.cellAt hlt 1 _ rfl
      have f1 := ho.frozenAt (i * 2 + 1)
      go_wp2
      go_roundw
      case rel =>
        refine ⟨i + 1, m + 1 + 1, L.set i (mkSig m), by omega, by go_num, rfl, by have := hm.out; rw [Hid]; omega, by omega, by omega, ho.put hlt (mkSig m), marks_put HL.out hlt HL2.out (by rw [hm.out]; rfl), ?_⟩
        repeat' (first | exact hg | refine gb_set ?_ _ _)
      case measure => simp [intOf]; omega
    · obtain rfl : i = n := by omega
      have e : Hid (L = marks mkSig 2 k i) := by rw [Hid, HL2.out, ← HL.out]; simp
      go_wp2
      go_ret
      exact ⟨ret_i64 hm.out, by rw [← e.out]; exact ho, hg⟩

set_option maxHeartbeats 1000000 in
theorem heldSignalS_any (A : Option Addr) (n c : Nat) (k : Int) (w : World) (hn : n ≤ 1048576) (hk0 : 0 ≤ k) (hk1 : k ≤ 1099511627776) (hs : Sl w A n (marks mkSig 2 k n)) :
    Calls Try.prog 31 #[.slice A n c, .int .i64 k] w fun e w' => e = .returned (.int .i64 (k + 2 * n)) ∧ Below w.heap.size w w' := by
  go_enter Try.func31, Try.ntmps31
  go_wp2
  go_loopw [1, 5] (fun u v wr => ∃ (i : Nat) (m : Int), i ≤ n ∧ v = .int .i64 i ∧ u = .int .i64 m ∧ Hid (m = k + 2 * (i : Int)) ∧ 0 ≤ m ∧ m ≤ 1099511627776 + 2 * (i : Int) ∧ Below w.heap.size w wr) (fun _ v _ => n - (intOf v).toNat)
  case atStart => exact ⟨0, k, Nat.zero_le _, rfl, rfl, by rw [Hid]; omega, hk0, by omega, bl_refl _⟩
  case round =>
    obtain ⟨i, m, hi, rfl, rfl, hm, hm0, hm1, hb⟩ := hrel
    by_cases hlt : i < n
    · obtain ⟨b, o, rfl, hbz, c0, c1⟩ := (hs.below hb).sig hlt
      have e : nth (marks mkSig 2 k n) i = mkSig m := by rw [marks_nth hlt, hm.out]; rfl
      rw [e] at c0 c1
      have d0 : wr.cell? ⟨b, o + i * 2, none⟩ = some (.int .i64 (m)) := c0
      have d1 : wr.cell? ⟨b, o + i * 2 + 1, none⟩ = some (.int .i64 ((m + 1))) := c1
      clear hs e c0 c1
      go_wp2
      go_roundw
      case rel => exact ⟨i + 1, m + 1 + 1, by omega, by go_num, rfl, by have := hm.out; rw [Hid]; omega, by omega, by omega, hb⟩
      case measure => simp [intOf]; omega
    · obtain rfl : i = n := by omega
      go_wp2
      go_ret
      exact ⟨ret_i64 hm.out, hb⟩

end Go.Proofs.Ytjdaikpkcafcdaa
