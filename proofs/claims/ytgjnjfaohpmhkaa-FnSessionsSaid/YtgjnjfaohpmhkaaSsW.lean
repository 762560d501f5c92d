/-
  Places exchanged in memory: slices.swapRangeCmpFunc at int. No conditions.
-/
import Derived.Test.YtgjnjfaohpmhkaaSsQ
import Derived.Test.YtgjnjfaohpmhkaaInts
import Derived.Test.YtgjnjfaohpmhkaaMem7
import Derived.Test.YtgjnjfaohpmhkaaMem3
import Derived.RegionTactic
import Derived.ChangeAlike
namespace Go.Proofs.Ytgjnjfaohpmhkaa
open Go.RowKit

theorem Own.swap {w : World} {base g n c : Nat} {E : TypeId} {L : List Int} (h : Own w base E (.slice (some ⟨g, 0, none⟩) n c) L) {i j : Nat} (hi : i < n) (hj : j < n) :
    Own ((w.setCell ⟨g, i, none⟩ (.int .i64 (nth L j))).setCell ⟨g, j, none⟩ (.int .i64 (nth L i))) base E (.slice (some ⟨g, 0, none⟩) n c) (swapL L i j) := (h.putint hi _).putint hj _
theorem Own.icell {w : World} {base g n c : Nat} {E : TypeId} {L : List Int} (h : Own w base E (.slice (some ⟨g, 0, none⟩) n c) L) {i : Nat} (hi : i < n) : w.cell? ⟨g, i, none⟩ = some (.int .i64 (nth L i)) := by
  have h0 := h.cellAt hi 0 _ rfl
  simpa [Flat.sz] using h0
set_option maxRecDepth 100000 in
set_option maxHeartbeats 8000000 in
theorem swapRange_any (base g n c a b m : Nat) (L : List Int) (cv : Value) (w : World) (hab : a + m ≤ b) (hbn : b + m ≤ n) (hn : n ≤ 1000) (ho : Own w base 3 (.slice (some ⟨g, 0, none⟩) n c) L) :
    Calls Try.prog 95 #[.slice (some ⟨g, 0, none⟩) n c, .int .i64 (a : Int), .int .i64 (b : Int), .int .i64 (m : Int), cv] w fun e w' => e = .returned (.tuple #[]) ∧ Own w' base 3 (.slice (some ⟨g, 0, none⟩) n c) (swR L a b m) ∧ OnlyF [g] w w' := by
  have HL := Lib.hid ho.sl.1
  go_enter Try.func95, Try.ntmps95
  go_wp2
  go_loopw [10] (fun iv wr => ∃ k : Nat, k ≤ m ∧ iv = .int .i64 k ∧ Own wr base 3 (.slice (some ⟨g, 0, none⟩) n c) (swR L a b k) ∧ OnlyF [g] w wr) (fun iv _ => m - (intOf iv).toNat)
  case atStart => exact ⟨0, Nat.zero_le _, rfl, ho, OnlyF.refl _ _⟩
  case round =>
    obtain ⟨k, hk, rfl, hor, hfr⟩ := hrel
    by_cases hlt : k < m
    · have hkd : (k : Int) < m := by omega
      have hkb : decide (k < m) = true := decide_eq_true hlt
      have w1 : IntKind.i64.wrap ((a : Int) + k) = ((a + k : Nat) : Int) := by rw [IntWalk.i64_in _ (by omega)]; omega
      have w2 : IntKind.i64.wrap ((b : Int) + k) = ((b + k : Nat) : Int) := by rw [IntWalk.i64_in _ (by omega)]; omega
      have i1 : a + k < n := by omega
      have i2 : b + k < n := by omega
      have c1 := hor.icell i1
      have c2 := hor.icell i2
      have f1 := hor.frozenAt (a + k)
      have f2 := hor.frozenAt (b + k)
      have hs := Lib.hid (hor.swap i1 i2)
      have hfx : OnlyF [g] w ((wr.setCell ⟨g, a + k, none⟩ (.int .i64 (nth (swR L a b k) (b + k)))).setCell ⟨g, b + k, none⟩ (.int .i64 (nth (swR L a b k) (a + k)))) := (hfr.set (List.mem_singleton.2 rfl) _).set (List.mem_singleton.2 rfl) _
      have HFX := Lib.hid hfx
      have ne1 : ¬ (a + k = b + k) := by omega
      have ne2 : ¬ (b + k = a + k) := by omega
      obtain ⟨u1, hu1⟩ : ∃ u, nth (swR L a b k) (a + k) = u := ⟨_, rfl⟩
      obtain ⟨u2, hu2⟩ : ∃ u, nth (swR L a b k) (b + k) = u := ⟨_, rfl⟩
      rw [hu1] at c1 hs HFX
      rw [hu2] at c2 hs HFX
      clear hfx hor hu1 hu2
      go_wp2
      go_region
      all_goals
        go_wp2
        go_roundw
        case rel => exact ⟨k + 1, by omega, by go_num, hs.out.below (by repeat' (first | exact bl_refl _ | refine bl_drew ?_)), HFX.out.trans (.below (by repeat' (first | exact bl_refl _ | refine bl_drew ?_)))⟩
        case measure => simp [intOf]; omega
    · obtain rfl : k = m := by omega
      go_wp2
      go_end0
      exact ⟨rfl, hor, hfr⟩
end Go.Proofs.Ytgjnjfaohpmhkaa
