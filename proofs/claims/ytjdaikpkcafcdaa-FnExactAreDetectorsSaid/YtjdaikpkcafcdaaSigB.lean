/-
  Signals: the law's own helpers: the size, the copy, the comparison. No conditions.
-/
import Derived.Test.YtjdaikpkcafcdaaSigA
namespace Go.Proofs.Ytjdaikpkcafcdaa
open Go.RowKit

theorem szSignalS_any (A : Option Addr) (n c : Nat) (left : Int) (w : World) (hn : (n : Int) ≤ 9223372036854775807) (h0 : 0 ≤ left) (h1 : left ≤ 9223372036854775807) :
    Calls Try.prog 9 #[.slice A n c, .int .i64 left] w fun e w' => e = .returned (.int .i64 (szF left n)) ∧ w' = w := by
  by_cases hlt : left < n
  all_goals
    go_enter Try.func9, Try.ntmps9
    go_wp2
    go_ret
    exact ⟨ret_i64 (by unfold szF; split <;> omega), rfl⟩

theorem sig_eq {x y : Sig} : sameB x y = (decide (x.s = y.s) && decide (x.n = y.n)) := by
  cases x; cases y; simp [sameB]
theorem toSignal_any (x : Sig) (w : World) :
    Calls Try.prog 35 #[.agg #[.int .i64 x.s, .int .i64 x.n]] w fun e w' => e = .returned (.agg #[.int .i64 x.s, .int .i64 x.n]) ∧ Below w.heap.size w w' := by
  go_enter Try.func35, Try.ntmps35
  go_wp2
  go_returns
  exact ⟨rfl, by repeat' (first | exact bl_refl _ | refine bl_alloc ?_ _ | refine bl_set ?_ ?_ _ | (simp; done) | (simp; omega))⟩

set_option maxHeartbeats 1000000 in
theorem eqSignal_any (x y : Sig) (w : World) :
    Calls Try.prog 37 #[.agg #[.int .i64 x.s, .int .i64 x.n], .agg #[.int .i64 y.s, .int .i64 y.n]] w fun e w' => e = .returned (.bool (sameB x y)) ∧ Below w.heap.size w w' := by
  by_cases h1 : x.s = y.s <;> by_cases h2 : x.n = y.n
  all_goals
    go_enter Try.func37, Try.ntmps37
    go_wp2
    go_returns
    refine ⟨ret_bool (by rw [sig_eq]; simp [*]), by repeat' (first | exact bl_refl _ | refine bl_alloc ?_ _ | refine bl_set ?_ ?_ _ | (simp; done) | (simp; omega))⟩

def eqSigs (xs ys : List Sig) : Bool := decide (xs = ys)
set_option maxHeartbeats 1000000 in
theorem eqSignalS_any (A B : Option Addr) (n m c d : Nat) (xs ys : List Sig) (w : World) (hn : (n : Int) ≤ 9223372036854775807) (hx : Sl w A n xs) (hy : Sl w B m ys) :
    Calls Try.prog 13 #[.slice A n c, .slice B m d] w fun e w' => e = .returned (.bool (sameB xs ys)) ∧ Below w.heap.size w w' := by
  have Hx := Lib.hid hx.1
  have Hy := Lib.hid hy.1
  by_cases hnm : n = m
  · subst hnm
    have hd : ((n : Int) != (n : Int)) = false := by simp
    go_enter Try.func13, Try.ntmps13
    go_wp2
    go_loopw [5] (fun i wr => ∃ k : Nat, k ≤ n ∧ i = .int .i64 k ∧ Below w.heap.size w wr ∧ Hid (xs.take k = ys.take k)) (fun i _ => n - (intOf i).toNat)
    case atStart => exact ⟨0, Nat.zero_le _, rfl, bl_refl _, rfl⟩
    case round =>
      obtain ⟨k, hk, rfl, hb, hg⟩ := hrel
      by_cases hlt : k < n
      · obtain ⟨b, o, rfl, c0, c1⟩ := (hx.below hb).sig hlt
        obtain ⟨b', o', rfl, d0, d1⟩ := (hy.below hb).sig hlt
        clear hx hy
        by_cases he : sameB (nth xs k) (nth ys k) = true
        · skip
          go_wp2_with fail
          refine wp_region_grow (by kernel_rfl) (by kernel_rfl) (fun W hW => ?_)
          have e0 := Gw.cell (by rw [hW]; exact c0 : W.cell? _ = _)
          have e1 := Gw.cell (by rw [hW]; exact c1 : W.cell? _ = _)
          have e2 := Gw.cell (by rw [hW]; exact d0 : W.cell? _ = _)
          have e3 := Gw.cell (by rw [hW]; exact d1 : W.cell? _ = _)
          have HW := Lib.hid hW
          clear hW
          repeat (go_big_quiet_step ((go_at_call 37; exact Calls.grow_of (eqSignal_any _ _ _))))
          refine wpGrow_nil (fun V hV => ?_)
          have hbV : Below w.heap.size w V := bl_trans hb (by rw [← HW.out]; exact hV)
          clear e0 e1 e2 e3 hV
          go_wp2
          go_roundw
          case rel => exact ⟨k + 1, by omega, by go_num, hbV, sameB_take (by rw [Hx.out]; exact hlt) (by rw [Hy.out]; exact hlt) hg he⟩
          case measure => simp [intOf]; omega
        · have he : sameB (nth xs k) (nth ys k) = false := by simpa using he
          go_wp2_with fail
          refine wp_region_grow (by kernel_rfl) (by kernel_rfl) (fun W hW => ?_)
          have e0 := Gw.cell (by rw [hW]; exact c0 : W.cell? _ = _)
          have e1 := Gw.cell (by rw [hW]; exact c1 : W.cell? _ = _)
          have e2 := Gw.cell (by rw [hW]; exact d0 : W.cell? _ = _)
          have e3 := Gw.cell (by rw [hW]; exact d1 : W.cell? _ = _)
          have HW := Lib.hid hW
          clear hW
          repeat (go_big_quiet_step ((go_at_call 37; exact Calls.grow_of (eqSignal_any _ _ _))))
          refine wpGrow_nil (fun V hV => ?_)
          have hbV : Below w.heap.size w V := bl_trans hb (by rw [← HW.out]; exact hV)
          clear e0 e1 e2 e3 hV
          go_wp2
          go_ret
          exact ⟨ret_bool (sameB_nth he).symm, hbV⟩
      · obtain rfl : k = n := by omega
        go_wp2
        go_ret
        exact ⟨ret_bool (sameB_all Hx.out Hy.out hg).symm, hb⟩
  · have hd : ((n : Int) != (m : Int)) = true := by simp; omega
    go_enter Try.func13, Try.ntmps13
    go_wp2
    go_ret
    exact ⟨ret_bool (sameB_len (by rw [Hx.out, Hy.out]; exact hnm)).symm, bl_refl _⟩
end Go.Proofs.Ytjdaikpkcafcdaa
