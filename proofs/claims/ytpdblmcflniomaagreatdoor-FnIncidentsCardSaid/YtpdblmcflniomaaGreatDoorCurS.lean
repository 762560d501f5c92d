/-
  The drawing of inputs: a text with one or two edits. No conditions.
-/
import Derived.Test.YtpdblmcflniomaaGreatDoorIv13
import Derived.Test.YtpdblmcflniomaaGreatDoorIv12
namespace Go.Proofs.YtpdblmcflniomaaGreatDoor
open Go.RowKit

theorem conv1x (W : World) (b cap : Nat) (x : UInt8) (hc : W.cell? ⟨b, 0, none⟩ = some (.int .u8 (x.toNat : Int))) :
    (convert 22 9 (.slice (some ⟨b, 0, none⟩) 1 cap)).run Tryz.prog W = .ok (.string ⟨#[x]⟩) W := by
  refine run_convert_bytes_back W 22 9 5 ⟨b, 0, none⟩ cap [x] Tryz.underlying22 Tryz.underlying5 Tryz.underlying9 ?_
  intro j hj
  have hj0 : j = 0 := by simpa using hj
  subst hj0
  rw [addr_add]
  exact hc
theorem ba_one (x : UInt8) : (⟨#[x]⟩ : ByteArray).size = 1 := rfl
set_option maxRecDepth 100000 in
set_option maxHeartbeats 8000000 in
theorem spoilt_any (g : Nat) (N : Int) (t v : ByteArray) (w : World) (hc : Cur w g N) (hN : N ≤ 900000000) (ht : t.size ≤ 1048576) (hv : 1 ≤ v.size) (hv' : v.size ≤ 100) :
    Calls Tryz.prog 64 #[.pointer (some ⟨g, 0, none⟩), .string t, .string v] w fun e w' => ∃ r : ByteArray, e = .returned (.string r) ∧ r.size ≤ t.size + 2 ∧ Cur w' g (N + 20) ∧ OnlyF [g] w w' := by
  go_enter Tryz.func64, Tryz.ntmps64
  go_wp2_with fail
  refine (pick_any g N 2 _ hc (by omega) (by omega)).mono ?_
  rintro e V1 ⟨r, rfl, hr, hc1, hf1⟩
  have hr2 : r < 2 := hr.2 (by omega)
  have hw0 : IntKind.i64.wrap (1 + r) = 1 + r := wrapi (by omega) (by omega)
  go_wp2
  go_loopw [1, 7] (fun s q wr => ∃ (k : Int) (u : ByteArray), 0 ≤ k ∧ k ≤ 2 ∧ s = .string u ∧ q = .int .i64 k ∧ u.size ≤ t.size + (2 - k).toNat ∧ Cur wr g (N + 2 + 9 * (2 - k)) ∧ OnlyF [g] w wr) (fun s q wr => (intOf q).toNat)
  case atStart => exact ⟨1 + r, t, by omega, by omega, rfl, rfl, by omega, hc1.mono (by omega), hf1⟩
  case round =>
    obtain ⟨k, u, hk0, hk2, rfl, rfl, hu, hcr, hfr⟩ := hrel
    by_cases hk : 0 < k
    · by_cases hz : 0 < u.size
      · have hkd : decide (k > 0) = true := by simpa using hk
        have hzd : decide ((u.size : Int) > 0) = true := by simp; omega
        have hwk : IntKind.i64.wrap (k - 1) = k - 1 := wrapi (by omega) (by omega)
        go_wp2_with fail
        refine (pick_any g _ (u.size : Int) _ hcr (by omega) (by omega)).mono ?_
        rintro e V2 ⟨i, rfl, hi, hc2, hf2⟩
        obtain ⟨i, rfl⟩ := Int.eq_ofNat_of_zero_le hi.1
        have hi := hi.2 (by omega)
        have hi : i < u.size := by omega
        go_wp2_with fail
        refine (pick_any g _ (v.size : Int) _ hc2 (by omega) (by omega)).mono ?_
        rintro e V3 ⟨j, rfl, hj, hc3, hf3⟩
        obtain ⟨j, rfl⟩ := Int.eq_ofNat_of_zero_le hj.1
        have hj := hj.2 (by omega)
        have hj : j < v.size := by omega
        have kc := conv1x (V3.alloc (.cells #[.int .u8 ((v[j]'hj).toNat : Int)] 5)) V3.heap.size 1 (v[j]'hj) (by go_simp)
        go_wp2_with fail
        refine (pick_any g _ 3 _ (hc3.below (by repeat' (first | exact bl_refl _ | refine bl_alloc ?_ _ | refine bl_drew ?_))) (by omega) (by omega)).mono ?_
        rintro e V4 ⟨p, rfl, hp, hc4, hf4⟩
        have hf : OnlyF [g] w V4 := ((hfr.trans hf2).trans hf3).trans ((OnlyF.below (by repeat' (first | exact bl_refl _ | refine bl_alloc ?_ _ | refine bl_drew ?_))).trans hf4)
        have hp2 := hp.2 (by omega)
        have s0 : (u.extract 0 i).size = i := by rw [ByteArray.size_extract]; omega
        have s1 : (u.extract i u.size).size = u.size - i := by rw [ByteArray.size_extract]; omega
        have s2 : (u.extract (i + 1) u.size).size = u.size - (i + 1) := by rw [ByteArray.size_extract]; omega
        have s3 := ba_one (v[j]'hj)
        have s4 : (u.extract 0 i ++ ⟨#[v[j]'hj]⟩).size = i + 1 := by rw [ByteArray.size_append, s0]; exact congrArg (i + ·) s3
        have hwi : IntKind.i64.wrap ((i : Int) + 1) = (i : Int) + 1 := wrapi (by omega) (by omega)
        have hid : (i : Int) ≤ u.size := by omega
        have hid2 : (i : Int) + 1 ≤ u.size := by omega
        have a1 : ¬ (9223372036854775807 < (u.extract 0 i).size + (⟨#[v[j]'hj]⟩ : ByteArray).size) := by omega
        have a2 : ¬ (9223372036854775807 < (u.extract 0 i ++ ⟨#[v[j]'hj]⟩).size + (u.extract i u.size).size) := by omega
        have a3 : ¬ (9223372036854775807 < (u.extract 0 i ++ ⟨#[v[j]'hj]⟩).size + (u.extract (i + 1) u.size).size) := by omega
        have a4 : ¬ (9223372036854775807 < (u.extract 0 i).size + (u.extract (i + 1) u.size).size) := by omega
        have hcd : Cur V4.drew g (N + 2 + 9 * (2 - (k - 1))) := (hc4.mono (by omega)).below (bl_drew (bl_refl _))
        have hfd : OnlyF [g] w V4.drew := hf.drew
        have hp3 : p = 0 ∨ p = 1 ∨ p = 2 := by omega
        clear hp
        rcases hp3 with rfl | rfl | rfl
        all_goals (go_wp2; go_region_with (fail))
        all_goals
          go_wp2
          go_roundw
          case rel => exact ⟨k - 1, _, by omega, by omega, rfl, rfl, by simp only [ByteArray.size_append, s0, s1, s2, s4]; omega, hcd, hfd⟩
          case measure => simp [intOf]; omega
      · have hkd : decide (k > 0) = true := by simpa using hk
        have hzz : u.size = 0 := by omega
        have hzd : decide ((u.size : Int) > 0) = false := by simp [hzz]
        go_wp2
        go_ret
        exact ⟨u, rfl, by omega, hcr.mono (by omega), hfr⟩
    · have hkd : decide (k > 0) = false := by simpa using hk
      go_wp2
      go_ret
      exact ⟨u, rfl, by omega, hcr.mono (by omega), hfr⟩
end Go.Proofs.YtpdblmcflniomaaGreatDoor
