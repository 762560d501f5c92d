/-
  UnknownNames: the program's answer. No conditions.
-/
import Derived.Test.YtkgjbijkjlmomaaUnQ
import Derived.Test.YtkgjbijkjlmomaaIncV
namespace Go.Proofs.Ytkgjbijkjlmomaa
open Go.RowKit

set_option maxRecDepth 100000 in
set_option maxHeartbeats 8000000 in
theorem implUnknownNames_any (xs : List Incident) (fs : List Appliance) (A B : Option Addr) (n c m d : Nat) (w : World) (hn : (n : Int) ≤ 9223372036854775807) (hm : (m : Int) ≤ 9223372036854775807) (hc : n ≤ c) (hs : Sl w A n xs) (ht : Sl w B m fs) (hv : ∀ x, x ∈ xs → ∀ y, y ∈ x.Names → y.size ≤ maxLen) (hv2 : ∀ x, x ∈ fs → x.Name.size ≤ maxLen) :
    Calls Try.prog 30 #[.slice A n c, .slice B m d] w (RetOwn2 w 9 (unF xs fs)) := by
  have HV := Lib.hid hv
  have HV2 := Lib.hid hv2
  have HL := Lib.hid hs.1
  clear hv hv2
  go_enter Try.func30, Try.ntmps30
  have hk0 := bl_refl w
  go_wp2_with fail
  refine (areIncidents_any xs _ _ _ _ hn hc hs HV.out).mono ?_
  rintro e V1 ⟨rfl, hb1⟩
  have hB1 := bl_trans (a := w) (bl_refl _) hb1
  have hk1 := bl_trans hk0 hB1
  have z1 := Lib.hid hB1.size
  cases h0 : incsB xs
  · have Hz := Lib.hid (unF_no (xs := xs) (fs := fs) (by rw [h0]; first | done | simp))
    clear h0
    go_wp2
    go_ret2
    exact retOwn2_mk Hz.out (Own.nil _ _ _) hk1
  have H0 := Lib.hid h0
  clear h0
  go_wp2_with fail
  refine (isFleet_any fs _ _ _ _ hm (ht.below hk1) HV2.out).mono ?_
  rintro e V2 ⟨rfl, hb2⟩
  have hB2 := bl_trans (a := V1) (bl_refl _) hb2
  have hk2 := bl_trans hk1 hB2
  have z2 := Lib.hid hB2.size
  clear hk1
  cases h1 : fleetB fs
  · have Hz := Lib.hid (unF_no (xs := xs) (fs := fs) (by rw [h1]; first | done | simp))
    clear h1
    go_wp2
    go_ret2
    exact retOwn2_mk Hz.out (Own.nil _ _ _) hk2
  have H1 := Lib.hid h1
  clear h1
  have Hz := Lib.hid (unF_yes H0.out H1.out)
  have HVI := Lib.hid (incs_iff.1 H0.out)
  have HS := Lib.hid hs
  have HT := Lib.hid ht
  clear hs ht
  go_wp2
  go_loopw [6, 21] (fun v iv wr => ∃ (k q c' : Nat) (A' : Option Addr), k ≤ n ∧ iv = .int .i64 k ∧ v = .slice A' q c' ∧ q ≤ 200 ∧ Own wr w.heap.size 9 (.slice A' q c') (unU xs fs (k) (0)) ∧ Below w.heap.size w wr) (fun _ iv _ => n - (intOf iv).toNat)
  case atStart => exact ⟨0, 0, 0, none, Nat.zero_le _, rfl, rfl, Nat.zero_le _, by rw [unU_start]; exact Own.nil _ _ _, hk2⟩
  case round =>
    obtain ⟨k, q0, c0', A0', hk, rfl, rfl, hq0, ho0, hb0⟩ := hrel
    by_cases hlt : k < n
    · obtain ⟨b, o, A2, c2, rfl, hbz, c0, c1, c2', c3, hi, hil⟩ := HS.out.incident hlt
      have c0 := cell_later hb0 c0
      have c1 := cell_later hb0 c1
      have c2' := cell_later hb0 c2'
      have c3 := cell_later hb0 c3
      have hbz := World.block_lt_of_cell? _ _ c0
      have hkx : k < xs.length := by rw [HL.out]; exact hlt
      have hnl : (nth xs k).Names.length ≤ 12 := vi_names HVI.out _ (nth_mem hkx)
      have Hi := Lib.hid hi
      have HHB := Lib.hid hb0
      have HHO := Lib.hid ho0
      obtain ⟨wo, hwo⟩ : ∃ W, W = wr := ⟨_, rfl⟩
      subst hwo
      clear hi hil hb0 ho0
      go_wp2
      go_loopw [6, 28] (fun v iv wr => ∃ (j q c' : Nat) (A' : Option Addr), j ≤ (nth xs k).Names.length ∧ iv = .int .i64 j ∧ v = .slice A' q c' ∧ q ≤ 200 ∧ Own wr w.heap.size 9 (.slice A' q c') (unU xs fs (k) (j)) ∧ Below w.heap.size w wr) (fun _ iv _ => (nth xs k).Names.length - (intOf iv).toNat)
      case atStart => exact ⟨0, q0, c0', A0', Nat.zero_le _, rfl, rfl, hq0, HHO.out.alloc _, bl_alloc HHB.out _⟩
      case round =>
        obtain ⟨j, q, c', A', hj, rfl, rfl, hq, ho, hbj⟩ := hrel
        clear c0 c1 c2' c3
        by_cases hj2 : j < (nth xs k).Names.length
        · obtain ⟨b3, o3, rfl, hz3, n0⟩ := (Hi.out.below hbj).str hj2
          obtain ⟨s, hs0⟩ : ∃ s, s = nth (nth xs k).Names j := ⟨_, rfl⟩
          rw [← hs0] at n0
          have HS0 := Lib.hid hs0
          have hs0' := Lib.hid hs0.symm
          clear hs0
          have hbwj := hbj
          go_wp2_with fail
          refine (findAppliance_any fs s _ _ _ _ hm (HT.out.below hbwj)).mono ?_
          rintro e V ⟨rfl, hV⟩
          have hoV := ho.below hV
          have HBW := Lib.hid (bl_trans hbwj hV)
          have e3 := cell_later hV n0
          have hcq := hoV.cap
          obtain ⟨t, ht0⟩ : ∃ t, t = apF fs s := ⟨_, rfl⟩
          rw [← ht0]
          clear ho n0 hV hbwj
          by_cases hap0 : t < 0
          · have hap : apF fs s < 0 := by rw [← ht0]; exact hap0
            have hd : decide (t < 0) = true := by simpa using hap0
            clear ht0
            have hyes := Lib.hid (unU_yes (fs := fs) hj2 (by rw [← HS0.out]; exact hap))
            go_wp2_with ((at_builtin; refine wpList_app1g rfl (.tmp 36) (.tmp 38) _ _ rfl el_str s rfl hoV HBW.out rfl (by simp) (by omega) ?_; intro A3 c3 w2 ho2 hb2 hg2))
            go_roundw
            case rel => exact ⟨j + 1, q + 1, c3, A3, by omega, by go_num, rfl, by have := ho2.sl.1; rw [List.length_append] at this; have h9 := unU_len (fs := fs) (j := j + 1) HVI.out hkx; rw [hyes.out, List.length_append, hs0'.out] at h9; omega, by rw [hyes.out, hs0'.out]; exact ho2, hb2⟩
            case measure => simp [intOf]; omega
          · have hno := Lib.hid (unU_no (fs := fs) hj2 (by rw [← HS0.out, ← ht0]; exact hap0))
            have hd : decide (t < 0) = false := by simpa using hap0
            clear ht0
            go_wp2
            go_roundw
            case rel => exact ⟨j + 1, q, c', A', by omega, by go_num, rfl, hq, by rw [hno.out]; exact hoV, HBW.out⟩
            case measure => simp [intOf]; omega
        · obtain rfl : j = (nth xs k).Names.length := by omega
          have hnx := Lib.hid (unU_next (fs := fs) hkx)
          have hbw := hbj
          go_wp2
          go_roundw
          case rel => exact ⟨k + 1, q, c', A', by omega, by go_num, rfl, hq, by rw [← hnx.out]; exact ho, hbw⟩
          case measure => simp [intOf]; omega
    · obtain rfl : k = n := by omega
      have hfin := Lib.hid (unU_end (fs := fs) (k := k) (by rw [HL.out]; exact Nat.le_refl _))
      rw [hfin.out] at ho0
      go_wp2_with fail
      refine (sortS_any (unkL xs fs) _ _ _ w.heap.size _ (by omega) ho0).mono ?_
      rintro e V9 ⟨rfl, ho9, hg9⟩
      have hbk := below_only hb0 (OnlyF.of_gb hg9) (fun y hy => ho0.lt y (by simpa using hy)) (Nat.le_refl _)
      rw [sortL_adL (unk_props HVI.out).1] at ho9
      clear hg9 ho0 hb0
      go_wp2
      go_ret2
      exact retOwn2_mk Hz.out ho9 hbk

end Go.Proofs.Ytkgjbijkjlmomaa
