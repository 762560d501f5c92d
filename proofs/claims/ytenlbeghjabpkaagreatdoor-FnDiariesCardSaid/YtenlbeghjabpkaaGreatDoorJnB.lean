/-
  The line of a state, as the program writes it. No conditions.
-/
import Derived.Test.YtenlbeghjabpkaaGreatDoorJnA
import Derived.Lib.ConvBytes
namespace Go.Proofs.YtenlbeghjabpkaaGreatDoor
open Go.RowKit

theorem sumL_take {s : ByteArray} {k : Nat} (hk : k < s.size) : sumL (s.data.toList.take (k + 1)) = (31 * sumL (s.data.toList.take k) + ((s.data.toList.getD k 0).toNat : Int)) % 99991 := by
  have h : k < s.data.toList.length := by rw [ba_len]; exact hk
  rw [List.take_add_one, List.getElem?_eq_getElem h, List.getD_eq_getElem?_getD, List.getElem?_eq_getElem h]
  exact sumL_snoc _ _
theorem sumL_all (s : ByteArray) {k : Nat} (hk : k = s.size) : sumL (s.data.toList.take k) = sumL s.data.toList := by
  rw [List.take_of_length_le (by rw [ba_len]; omega)]
set_option maxRecDepth 100000 in
set_option maxHeartbeats 2000000 in
theorem stateLine_any (n : Int) (x : State) (w : World) (hk : okL n x = true) (ht : Tab w) :
    Calls Tryz.prog 27 #[.int .i64 n, .agg #[.string x.Name, .int .i64 x.Value]] w fun e w' => e = .returned (.string (lineB n x)) ∧ Below w.heap.size w w' := by
  unfold lineB headB
  obtain ⟨⟨hn0, hn1⟩, hx, hv0, hv1⟩ := okL_bd hk
  have hs1 := it_len hn0 1 (by omega)
  have hs2 := it_len hv0 3 (by omega)
  go_enter Tryz.func27, Tryz.ntmps27
  go_wp2_with fail
  refine wp_region_grow (by kernel_rfl) (by kernel_rfl) (fun X hX => ?_)
  have hbX : Below w.heap.size w X := by rw [hX]; exact bl_alloc (bl_refl _) _
  have hT : ∀ g : Gw X, Tab g.val := fun g => (ht.below hbX).below g.property
  have q0 : ∀ g : Gw X, g.val.cell? ⟨w.heap.size, 0, none⟩ = some (.string x.Name) := Gw.cell (by rw [hX]; go_simp)
  have q1 : ∀ g : Gw X, g.val.cell? ⟨w.heap.size, 1, none⟩ = some (.int .i64 x.Value) := Gw.cell (by rw [hX]; go_simp)
  have HX := Lib.hid hX
  have HT := Lib.hid hT
  clear hX hT
  repeat (go_big_quiet_step (exact Calls.grow_of (itoa_any _ _ (by omega) (by omega) (HT.out _))))
  refine wpGrow_nil (fun V hV => ?_)
  have hbV := bl_trans hbX hV
  obtain ⟨H, hH⟩ : ∃ H, H = itB n ++ ⟨#[61]⟩ ++ x.Name ++ ⟨#[61]⟩ ++ itB x.Value ++ ⟨#[61]⟩ := ⟨_, rfl⟩
  have hl : H.size ≤ 15 := by rw [hH]; exact head_len hk
  rw [← hH]
  have HH := Lib.hid hH
  clear q0 q1 hH hs1 hs2 hn0 hn1 hv0 hv1 hx
  have hcv := Lib.run_convert_string_bytes (P := Tryz.prog) V 9 22 5 H (u := .string) Tryz.underlying9 Tryz.underlying22 Tryz.underlying5
  have hB : ∀ j, j < H.size → (Lib.bytesWorld V 5 H).cell? ⟨V.heap.size, j, none⟩ = some (.int .u8 (H.data.toList.getD j 0).toNat) := fun j hj => Lib.bytesWorld_cell V 5 H j hj
  have hbW : Below V.heap.size V (Lib.bytesWorld V 5 H) := Lib.bytesWorld_below _ _ _
  obtain ⟨W1, hW1⟩ : ∃ W1, W1 = Lib.bytesWorld V 5 H := ⟨_, rfl⟩
  rw [← hW1] at hcv hB hbW
  have HB := Lib.hid hB
  clear hW1 hB
  have hbW1 := bl_trans hbV hbW
  go_wp2
  go_loop [24, 6] (fun vi vs => ∃ k : Nat, k ≤ H.size ∧ vi = .int .i64 k ∧ vs = .int .i64 (sumL (H.data.toList.take k))) (fun vi _ => H.size - (RowKit.intOf vi).toNat)
  case atStart => exact ⟨0, Nat.zero_le _, rfl, rfl⟩
  case round =>
    obtain ⟨k, hk', rfl, rfl⟩ := hrel
    by_cases hkn : k < H.size
    · have hc1 : W1.cell? ⟨V.heap.size, k, none⟩ = some (.int .u8 (H.data.toList.getD k 0).toNat) := HB.out k hkn
      have hbyte : (H.data.toList.getD k 0).toNat ≤ 255 := by have := (H.data.toList.getD k 0).toNat_lt; omega
      have hst := Lib.hid (sumL_take hkn)
      have hsb := sumL_bd (H.data.toList.take k)
      generalize (H.data.toList.getD k 0).toNat = b at *
      generalize sumL (H.data.toList.take k) = q at *
      obtain ⟨hq0, hq1⟩ := hsb
      go_wp2
      go_round
      case rel => exact ⟨k + 1, by omega, by go_num, by rw [hst.out]⟩
      case measure => simp [RowKit.intOf]; omega
    · have hke : k = H.size := by omega
      have hsb := sumL_bd H.data.toList
      obtain ⟨hq0, hq1⟩ := hsb
      rw [sumL_all H hke]
      clear hke
      have hs3 := it_len hq0 4 (by omega)
      generalize hqq : sumL H.data.toList = q at hq0 hq1 hs3 ⊢
      have HQ := Lib.hid hqq
      clear hqq
      go_wp2_with fail
      refine (itoa_any q _ (by omega) (by omega) ((ht.below hbV).below hbW)).mono ?_
      rintro e V2 ⟨rfl, hb2⟩
      go_wp2
      go_ret
      exact ⟨by show Ending.returned (.string (H ++ itB q ++ ⟨#[10]⟩)) = _; rw [← HQ.out, HH.out], bl_trans hbW1 hb2⟩
end Go.Proofs.YtenlbeghjabpkaaGreatDoor
