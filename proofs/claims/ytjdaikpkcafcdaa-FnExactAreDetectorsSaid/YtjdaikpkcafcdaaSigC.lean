/-
  Signals: the copy of a list. No conditions.
-/
import Derived.Test.YtjdaikpkcafcdaaSigB
namespace Go.Proofs.Ytjdaikpkcafcdaa
open Go.RowKit

theorem sig_info : (Try.prog.info? 53).map (fun i => (i.zero, i.size, i.bytes)) = some (some (.agg #[.int .i64 0, .int .i64 0]), 2, 16) := by kernel_rfl

set_option maxHeartbeats 1000000 in
theorem toSignalS_any (A : Option Addr) (n c : Nat) (xs : List Sig) (w : World) (hn : n ≤ 1048576) (hx : Sl w A n xs) :
    Calls Try.prog 11 #[.slice A n c] w (RetOwn w 53 xs) := by
  have Hx := Lib.hid hx.1
  obtain ⟨i0, hi, hz0, hz1, hz2⟩ := info_parts sig_info
  have hmk := fun W => run_make_rowN (P := Try.prog) 25 53 i0 _ Try.underlying25 hi hz0 .i64 .i64 n n (Nat.le_refl _) (by rw [hz2]; omega) (by omega) W
  rw [hz1] at hmk
  clear hi hz0 hz1 hz2
  go_enter Try.func11, Try.ntmps11
  go_wp2
  clear hmk
  go_loopw [4] (fun i wr => ∃ (k : Nat) (L : List Sig), k ≤ n ∧ i = .int .i64 k ∧ Below w.heap.size w wr ∧ Own wr w.heap.size 53 (.slice (some ⟨w.heap.size, 0, none⟩) n n) L ∧ Hid (L = xs.take k ++ List.replicate (n - k) (default : Sig))) (fun i _ => n - (intOf i).toNat)
  case atStart => exact ⟨0, _, Nat.zero_le _, rfl, bl_alloc (bl_refl _) _, Own.made w _ default rfl n (by unfold maxLen; omega), rfl⟩
  case round =>
    obtain ⟨k, L, hk, rfl, hb, ho, HL⟩ := hrel
    by_cases hlt : k < n
    · obtain ⟨b, o, rfl, c0, c1⟩ := (hx.below hb).sig hlt
      clear hx
      go_wp2_with fail
      refine (toSignal_any _ _).mono ?_
      rintro e V ⟨rfl, hV⟩
      have hoV := ho.below hV
      have d0 : V.cell? ⟨w.heap.size, k * 2, none⟩ = some (.int .i64 (nth L k).s) := hoV.cellAt hlt 0 _ rfl
      have d1 : V.cell? ⟨w.heap.size, k * 2 + 1, none⟩ = some (.int .i64 (nth L k).n) := hoV.cellAt hlt 1 _ rfl
      have f0 := hoV.frozenAt (k * 2)
      have f1 := hoV.frozenAt (k * 2 + 1)
      clear c0 c1 ho
      go_wp2
      go_roundw
      case rel =>
        refine ⟨k + 1, L.set k (nth xs k), by omega, by go_num, ?_, hoV.put hlt (nth xs k), set_take Hx.out hlt HL.out (get_nth (by rw [Hx.out]; exact hlt))⟩
        exact bl_set (bl_set (bl_trans hb hV) (Nat.le_refl _) _) (Nat.le_refl _) _
      case measure => simp [intOf]; omega
    · obtain rfl : k = n := by omega
      have HL2 : Hid (L = xs) := by rw [Hid, HL.out, ← Hx.out]; simp
      go_wp2
      go_ret
      exact retOwn_mk Hx.out (by rw [← HL2.out]; exact ho) hb
end Go.Proofs.Ytjdaikpkcafcdaa
