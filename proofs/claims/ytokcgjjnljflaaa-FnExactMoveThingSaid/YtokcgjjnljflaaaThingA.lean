/-
  Things: the reference's test of a list answers thingsB. No conditions.
-/
import Derived.Test.YtokcgjjnljflaaaThing
import Derived.Test.YtokcgjjnljflaaaNamesS
import Derived.Test.YtokcgjjnljflaaaMem4
namespace Go.Proofs.Ytokcgjjnljflaaa
open Go.RowKit

def okThing (xs : List Thing) (k : Nat) : Bool :=
  wordB 8 (nth xs k).Name && inB (nth xs k).Count 1 99 && inB (nth xs k).Day 0 9999 && !(decide (0 < k) && decide (Op.bytesLess (nth xs (k - 1)).Name.toList (nth xs k).Name.toList = false))
def thingsB (xs : List Thing) : Bool := allB xs.length (okThing xs) && decide (xs.length ≤ 12)
theorem okThing_0 {xs : List Thing} {k : Nat} (h : wordB 8 (nth xs k).Name = false) : okThing xs k = false := by simp [okThing, h]
theorem okThing_1 {xs : List Thing} {k : Nat} (h : inB (nth xs k).Count 1 99 = false) : okThing xs k = false := by simp [okThing, h]
theorem okThing_2 {xs : List Thing} {k : Nat} (h : inB (nth xs k).Day 0 9999 = false) : okThing xs k = false := by simp [okThing, h]
theorem okThing_o {xs : List Thing} {k : Nat} (h : 0 < k) (h' : Op.bytesLess (nth xs (k - 1)).Name.toList (nth xs k).Name.toList = false) : okThing xs k = false := by simp only [okThing, decide_eq_true h, decide_eq_true h']; simp
theorem okThing_y {xs : List Thing} {k : Nat} (h0 : wordB 8 (nth xs k).Name = true) (h1 : inB (nth xs k).Count 1 99 = true) (h2 : inB (nth xs k).Day 0 9999 = true) (h : ¬ 0 < k ∨ ¬ Op.bytesLess (nth xs (k - 1)).Name.toList (nth xs k).Name.toList = false) : okThing xs k = true := by
  rcases h with h | h <;> simp only [okThing, h0, h1, h2, decide_eq_false h] <;> simp
theorem thingsB_no {xs : List Thing} {k : Nat} (hk : k < xs.length) (h : okThing xs k = false) : thingsB xs = false := by simp [thingsB, allB_false hk h]
theorem thingsB_all {xs : List Thing} (h : ∀ j, j < xs.length → okThing xs j = true) : thingsB xs = decide (xs.length ≤ 12) := by simp [thingsB, allB_true h]
theorem thingsB_len {xs : List Thing} (h : thingsB xs = true) : xs.length ≤ 12 := by simp [thingsB] at h; exact h.2
theorem thingsB_at {xs : List Thing} (h : thingsB xs = true) {k : Nat} (hk : k < xs.length) : okThing xs k = true := by simp only [thingsB, Bool.and_eq_true] at h; exact allB_iff.1 h.1 k hk
theorem eqDay_any (n : Int) (w : World) :
    Calls Try.prog 63 #[.int .i64 n] w fun e w' => e = .returned (.bool (inB n 0 9999)) ∧ w' = w := by
  go_enter Try.func63, Try.ntmps63
  go_wp2_with (go_at_call 49; refine (l1In_any _ _ _ _).mono ?_; rintro e V ⟨rfl, rfl⟩)
  go_ret
  exact ⟨rfl, rfl⟩
theorem eqCount_any (n : Int) (w : World) :
    Calls Try.prog 28 #[.int .i64 n] w fun e w' => e = .returned (.bool (inB n 1 99)) ∧ w' = w := by
  go_enter Try.func28, Try.ntmps28
  go_wp2_with (go_at_call 49; refine (l1In_any _ _ _ _).mono ?_; rintro e V ⟨rfl, rfl⟩)
  go_ret
  exact ⟨rfl, rfl⟩
set_option maxHeartbeats 1000000 in
theorem eqGood_any (xs : List Thing) (A : Option Addr) (n c : Nat) (w : World) (hn : (n : Int) ≤ 9223372036854775807) (hs : Sl w A n xs) (hv : ∀ x, x ∈ xs → x.Name.size ≤ maxLen) :
    Calls Try.prog 36 #[.slice A n c] w fun e w' => e = .returned (.bool (thingsB xs)) ∧ Below w.heap.size w w' := by
  have HV := Lib.hid hv
  clear hv
  have HL := Lib.hid hs.1
  go_enter Try.func36, Try.ntmps36
  go_wp2
  go_loopw [7] (fun i wr => ∃ k : Nat, k ≤ n ∧ i = .int .i64 k ∧ Below w.heap.size w wr ∧ Hid (∀ j, j < k → okThing xs j = true)) (fun i _ => n - (intOf i).toNat)
  case atStart => exact ⟨0, Nat.zero_le _, rfl, Below.refl _ _, fun j hj => absurd hj (by omega)⟩
  case round =>
    obtain ⟨k, hk, rfl, hb, hg⟩ := hrel
    by_cases hlt : k < n
    · have hs' := hs.below hb
      obtain ⟨b, o, rfl, hbz, c0, c1, c2⟩ := hs'.thing hlt
      clear hs
      have hsz := HV.out _ (nth_mem (xs := xs) (k := k) (by rw [HL.out]; exact hlt))
      have hszh := Lib.hid hsz
      clear hsz
      by_cases g0 : wordB 8 (nth xs k).Name = false
      · clear hs'
        go_wp2_with fail
        go_quiet ((first | (go_at_call 27; exact Calls.quiet_of_same (eqName_any _ _ hszh.out)) | (go_at_call 28; exact Calls.quiet_of_same (eqCount_any _ _)) | (go_at_call 63; exact Calls.quiet_of_same (eqDay_any _ _))))
        go_wp2
        go_ret
        exact ⟨ret_bool (thingsB_no (k := k) (by rw [HL.out]; exact hlt) (okThing_0 g0)).symm, bl_drewN (bl_alloc hb _) _⟩
      have g0 : wordB 8 (nth xs k).Name = true := by simpa using g0
      by_cases g1 : inB (nth xs k).Count 1 99 = false
      · clear hs'
        go_wp2_with fail
        go_quiet ((first | (go_at_call 27; exact Calls.quiet_of_same (eqName_any _ _ hszh.out)) | (go_at_call 28; exact Calls.quiet_of_same (eqCount_any _ _)) | (go_at_call 63; exact Calls.quiet_of_same (eqDay_any _ _))))
        go_wp2
        go_ret
        exact ⟨ret_bool (thingsB_no (k := k) (by rw [HL.out]; exact hlt) (okThing_1 g1)).symm, bl_drewN (bl_alloc hb _) _⟩
      have g1 : inB (nth xs k).Count 1 99 = true := by simpa using g1
      by_cases g2 : inB (nth xs k).Day 0 9999 = false
      · clear hs'
        go_wp2_with fail
        go_quiet ((first | (go_at_call 27; exact Calls.quiet_of_same (eqName_any _ _ hszh.out)) | (go_at_call 28; exact Calls.quiet_of_same (eqCount_any _ _)) | (go_at_call 63; exact Calls.quiet_of_same (eqDay_any _ _))))
        go_wp2
        go_ret
        exact ⟨ret_bool (thingsB_no (k := k) (by rw [HL.out]; exact hlt) (okThing_2 g2)).symm, bl_drewN (bl_alloc hb _) _⟩
      have g2 : inB (nth xs k).Day 0 9999 = true := by simpa using g2
      by_cases hk0 : 0 < k
      · have cp : wr.cell? ⟨b, o + (k - 1) * 3, none⟩ = some (.string (nth xs (k - 1)).Name) := hs'.flat2 (k := k - 1) (by omega) 0 _ rfl
        clear hs'
        have i2 : 0 ≤ (k : Int) - 1 := by omega
        have i4 : (k : Int) - 1 < n := by omega
        have i1 : IntKind.i64.wrap ((k : Int) - 1) = (k : Int) - 1 := IntWalk.i64_in _ (by omega)
        have i3 : ((k : Int) - 1).toNat = k - 1 := by omega
        by_cases go : Op.bytesLess (nth xs (k - 1)).Name.toList (nth xs k).Name.toList = false
        rotate_left
        · have gs : Op.bytesLess (nth xs (k - 1)).Name.toList (nth xs k).Name.toList = true := by simpa using go
          go_wp2_with fail
          go_quiet ((first | (go_at_call 27; exact Calls.quiet_of_same (eqName_any _ _ hszh.out)) | (go_at_call 28; exact Calls.quiet_of_same (eqCount_any _ _)) | (go_at_call 63; exact Calls.quiet_of_same (eqDay_any _ _))))
          clear i1 i3
          go_wp2
          go_roundw
          case rel => exact ⟨k + 1, by omega, by go_num, bl_drewN (bl_alloc hb _) _, upto_succ hg (okThing_y g0 g1 g2 (.inr go))⟩
          case measure => simp [intOf]; omega
        have gs : Op.bytesLess (nth xs (k - 1)).Name.toList (nth xs k).Name.toList = false := by simpa using go
        go_wp2_with fail
        go_quiet ((first | (go_at_call 27; exact Calls.quiet_of_same (eqName_any _ _ hszh.out)) | (go_at_call 28; exact Calls.quiet_of_same (eqCount_any _ _)) | (go_at_call 63; exact Calls.quiet_of_same (eqDay_any _ _))))
        clear i1 i3
        go_wp2
        go_ret
        exact ⟨ret_bool (thingsB_no (k := k) (by rw [HL.out]; exact hlt) (okThing_o hk0 go)).symm, bl_drewN (bl_alloc hb _) _⟩
      · have hkd : decide (0 < k) = false := by simpa using hk0
        clear hs'
        go_wp2_with fail
        go_quiet ((first | (go_at_call 27; exact Calls.quiet_of_same (eqName_any _ _ hszh.out)) | (go_at_call 28; exact Calls.quiet_of_same (eqCount_any _ _)) | (go_at_call 63; exact Calls.quiet_of_same (eqDay_any _ _))))
        go_wp2
        go_roundw
        case rel => exact ⟨k + 1, by omega, by go_num, bl_drewN (bl_alloc hb _) _, upto_succ hg (okThing_y g0 g1 g2 (.inl hk0))⟩
        case measure => simp [intOf]; omega
    · obtain rfl : k = n := by omega
      go_wp2
      go_ret
      refine ⟨ret_bool ?_, hb⟩
      rw [thingsB_all (by rw [HL.out]; exact hg), HL.out]
      simp
      try omega

end Go.Proofs.Ytokcgjjnljflaaa
