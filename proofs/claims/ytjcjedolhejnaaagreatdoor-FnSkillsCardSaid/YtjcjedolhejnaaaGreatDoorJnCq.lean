/-
  The reference's decimal numerals. No conditions.
-/
import Derived.Test.YtjcjedolhejnaaaGreatDoorJnBq
namespace Go.Proofs.YtjcjedolhejnaaaGreatDoor
open Go.RowKit

def digB (d : Int) : ByteArray := ⟨#[UInt8.ofNat (48 + d.toNat)]⟩
theorem itB_low {n : Int} (h0 : 0 ≤ n) (h : n < 10) : itB n = digB n := by
  obtain ⟨u, rfl⟩ := Int.eq_ofNat_of_zero_le h0
  rw [itB_nat, Lib.decDigits, dif_pos (by omega)]; rfl
theorem itB_high {n : Int} (h : 10 ≤ n) : itB n = itB (n / 10) ++ digB (n % 10) := by
  obtain ⟨u, rfl⟩ := Int.eq_ofNat_of_zero_le (by omega : 0 ≤ n)
  have e1 : (u : Int) / 10 = ((u / 10 : Nat) : Int) := by omega
  have e2 : ((u : Int) % 10).toNat = u % 10 := by omega
  rw [digB, e2, e1, itB_nat, itB_nat, Lib.decDigits, dif_neg (by omega)]
  apply ba_ext; simp
theorem conv1 (W : World) (b cap : Nat) (d : Int) (h0 : 0 ≤ d) (h1 : d ≤ 9) (hc : W.cell? ⟨b, 0, none⟩ = some (.int .u8 (48 + d))) :
    (convert 22 9 (.slice (some ⟨b, 0, none⟩) 1 cap)).run Tryz.prog W = .ok (.string (digB d)) W := by
  refine run_convert_bytes_back W 22 9 5 ⟨b, 0, none⟩ cap [UInt8.ofNat (48 + d.toNat)] Tryz.underlying22 Tryz.underlying5 Tryz.underlying9 ?_
  intro j hj
  have hj0 : j = 0 := by simpa using hj
  subst hj0
  have e : ((UInt8.ofNat (48 + d.toNat)).toNat : Int) = 48 + d := by rw [u8n (by omega)]; omega
  rw [addr_add]
  simp only [List.getElem_cons_zero, e]
  exact hc
set_option maxRecDepth 100000 in
set_option maxHeartbeats 4000000 in
theorem l1Num_upto (k : Nat) : ∀ (n : Int) (w : World), 0 ≤ n → n ≤ 1000000 → n.toNat ≤ k → Calls Tryz.prog 82 #[.int .i64 n] w fun e w' => e = .returned (.string (itB n)) ∧ Below w.heap.size w w' := by
  induction k with
  | zero =>
    intro n w h0 h1 hk
    obtain rfl : n = 0 := by omega
    have kc := conv1 (w.alloc (.cells #[.int .u8 48] 5)) w.heap.size 1 0 (by omega) (by omega) (by go_simp)
    go_enter Tryz.func82, Tryz.ntmps82
    go_wp2
    go_ret
    exact ⟨by rw [itB_low (by omega) (by omega)]; rfl, bl_alloc (bl_refl _) _⟩
  | succ k ih =>
    intro n w h0 h1 hk
    by_cases h : n < 10
    · have kc := conv1 (w.alloc (.cells #[.int .u8 (48 + n)] 5)) w.heap.size 1 n h0 (by omega) (by go_simp)
      go_enter Tryz.func82, Tryz.ntmps82
      go_wp2
      go_ret
      exact ⟨by rw [itB_low h0 h]; rfl, bl_alloc (bl_refl _) _⟩
    · have hg : 10 ≤ n := by omega
      have hi : ∀ W : World, Calls Tryz.prog 82 #[.int .i64 (n / 10)] W fun e w' => e = .returned (.string (itB (n / 10))) ∧ Below W.heap.size W w' := fun W => ih (n / 10) W (by omega) (by omega) (by omega)
      have hd0 : 0 ≤ n % 10 := by omega
      have hd1 : n % 10 ≤ 9 := by omega
      have kc := fun (W : World) (b : Nat) => conv1 W b 1 (n % 10) hd0 hd1
      have hs := it_len (n := n / 10) (by omega) 5 (by omega)
      have HI := Lib.hid hi
      have hds : (digB (n % 10)).size ≤ 1 := Nat.le_refl 1
      have w1 : n.tdiv 10 = n / 10 := Int.tdiv_eq_ediv_of_nonneg h0
      have w2 : n.tmod 10 = n % 10 := Int.tmod_eq_emod_of_nonneg h0
      have w3 : IntKind.i64.wrap (n / 10) = n / 10 := IntWalk.i64_in _ (by omega)
      have w4 : IntKind.i64.wrap (48 + n % 10) = 48 + n % 10 := IntWalk.i64_in _ (by omega)
      have w5 : IntKind.u8.wrap (48 + n % 10) = 48 + n % 10 := by rw [IntKind.wrap_u8]; omega
      have w6 : IntKind.i64.wrap (n % 10) = n % 10 := IntWalk.i64_in _ (by omega)
      clear hi ih hk h
      rw [itB_high hg]
      go_enter Tryz.func82, Tryz.ntmps82
      go_wp2_with fail
      go_region_with (first | (go_at_call 82; refine (HI.out _).mono ?_; rintro e V ⟨rfl, hb⟩; obtain hq : V.cell? ⟨w.heap.size, 0, none⟩ = some (.int .u8 (48 + n % 10)); focus (refine cell_later hb ?_; go_simp; done)) | (go_at_call 82; refine (HI.out _).mono ?_; rintro e V ⟨rfl, hb⟩))
      all_goals
        clear kc w1 w2 w3 w4 w5 w6
        go_wp2
        go_ret
        exact ⟨rfl, by first | exact bl_alloc (bl_trans (bl_drew (bl_refl w)) hb) _ | exact bl_trans (bl_drew (bl_refl w)) hb | exact bl_trans (bl_alloc (bl_drew (bl_refl w)) _) hb⟩
theorem l1Num_any (n : Int) (w : World) (h0 : 0 ≤ n) (h1 : n ≤ 1000000) : Calls Tryz.prog 82 #[.int .i64 n] w fun e w' => e = .returned (.string (itB n)) ∧ Below w.heap.size w w' := l1Num_upto n.toNat n w h0 h1 (Nat.le_refl _)
theorem sumL_bt {s : ByteArray} {k : Nat} (hk : k < s.size) : sumL (s.data.toList.take (k + 1)) = (31 * sumL (s.data.toList.take k) + Go.PlainAid.bt s k) % 99991 := by
  have h : k < s.data.toList.length := by rw [ba_len]; exact hk
  rw [sumL_take hk, List.getD_eq_getElem?_getD, List.getElem?_eq_getElem h, ← Go.PlainAid.get_bt s k hk]; rfl
end Go.Proofs.YtjcjedolhejnaaaGreatDoor
