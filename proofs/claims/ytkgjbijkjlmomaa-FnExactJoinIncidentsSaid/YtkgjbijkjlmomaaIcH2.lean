/-
  JoinIncidents: the reference's answer. No conditions.
-/
import Derived.Test.YtkgjbijkjlmomaaIcX2
import Derived.Test.YtkgjbijkjlmomaaIcB
import Derived.Test.YtkgjbijkjlmomaaIcG4
import Derived.Test.YtkgjbijkjlmomaaIcH0
import Derived.Test.YtkgjbijkjlmomaaIcO
namespace Go.Proofs.Ytkgjbijkjlmomaa
open Go.RowKit

theorem hv_join {xs : List Incident} {a b : Nat} (hv : ∀ x, x ∈ xs → ∀ y, y ∈ x.Names → y.size ≤ maxLen) (ha : a < xs.length) (hb : b < xs.length) (hp : ∀ t, t ∈ (adN (nth xs a) (nth xs b).Names).Names ↔ t ∈ (nth xs a).Names ∨ t ∈ (nth xs b).Names) : ∀ x, x ∈ jnL xs a b → ∀ y, y ∈ x.Names → y.size ≤ maxLen := fun x hx => by
  rcases List.mem_or_eq_of_mem_set hx with hx | rfl
  · rcases List.mem_or_eq_of_mem_set hx with hx | rfl
    · exact hv x hx
    · intro y hy; cases hy
  · intro y hy
    rcases (hp y).1 hy with h | h
    · exact hv _ (nth_mem ha) y h
    · exact hv _ (nth_mem hb) y h
theorem nth_clL {xs : List Incident} {a b : Nat} (ha : a < xs.length) (hab : a ≠ b) : nth (clL xs b) a = nth xs a := by unfold clL; rw [nth_set ha, if_neg (fun h => hab h.symm)]
theorem set_selfC {xs : List Incident} {a : Nat} (h : a < xs.length) : xs.set a (nth xs a) = xs := by rw [← nth_ge h]; exact List.set_getElem_self h
set_option maxRecDepth 100000 in
set_option maxHeartbeats 4000000 in
theorem specJoinIncidents_any (xs : List Incident) (number other : Int) (A : Option Addr) (n c : Nat) (w : World) (hn : n ≤ 1048576) (hc : n ≤ c) (hs : Sl w A n xs) (hv : ∀ x, x ∈ xs → ∀ y, y ∈ x.Names → y.size ≤ maxLen) (hin : ∀ x, x ∈ xs → x.Names.length ≤ 1048576) :
    Calls Try.prog 25 #[.slice A n c, .int .i64 number, .int .i64 other] w (RetOwnX2 incidentN w 56 9 (joF xs number other)) := by
  have HV := Lib.hid hv
  have HIN := Lib.hid hin
  have HL := Lib.hid hs.1
  have hn' : (n : Int) ≤ 9223372036854775807 := by omega
  clear hv hin
  go_enter Try.func25, Try.ntmps25
  have hk0 := bl_refl w
  go_wp2_with fail
  refine (ixFind_any xs number _ _ _ _ hn' hs).mono ?_
  rintro e V1 ⟨rfl, hb1⟩
  have hB1 := bl_trans (a := w) (bl_refl _) hb1
  have hk1 := bl_trans hk0 hB1
  have z1 := Lib.hid hB1.size
  go_wp2_with fail
  refine (ixFind_any xs other _ _ _ _ hn' (hs.below hk1)).mono ?_
  rintro e V2 ⟨rfl, hb2⟩
  have hB2 := bl_trans (a := V1) (bl_refl _) hb2
  have hk2 := bl_trans hk1 hB2
  have z2 := Lib.hid hB2.size
  clear hk1
  have hg1 := (indexF_range (isO number) xs)
  have hg2 := (indexF_range (isO other) xs)
  obtain ⟨i, hi⟩ : ∃ i, i = openI xs number := ⟨_, rfl⟩
  obtain ⟨i2, hi2⟩ : ∃ i2, i2 = openI xs other := ⟨_, rfl⟩
  have hr1 : -1 ≤ i ∧ i < xs.length := by rw [hi]; exact hg1
  have hr2 : -1 ≤ i2 ∧ i2 < xs.length := by rw [hi2]; exact hg2
  rw [← hi, ← hi2]
  have Hi := Lib.hid hi
  have Hi2 := Lib.hid hi2
  clear hi hi2 hg1 hg2
  go_wp2_with fail
  refine (ixGood_any xs _ _ _ _ hn' hc (hs.below hk2) HV.out).mono ?_
  rintro e V3 ⟨rfl, hb3⟩
  have hB3 := bl_trans (a := V2) (bl_refl _) hb3
  have hk3 := bl_trans hk2 hB3
  have z3 := Lib.hid hB3.size
  clear hk2
  cases h0 : incsB xs
  · have Hz := Lib.hid (joF_no (xs := xs) (number := number) (other := other) (by unfold jnC; rw [h0]; simp))
    clear h0
    go_wp2
    go_ret2
    exact retOwnX2_nil (by decide) Hz.out hk3
  have H0 := Lib.hid h0
  clear h0
  by_cases h8 : i < 0
  · have hd : decide (i < 0) = true := by simpa using h8
    have Hz := Lib.hid (joF_no (xs := xs) (number := number) (other := other) (by unfold jnC; rw [← Hi.out, decide_eq_false (by omega : ¬ 0 ≤ i)]; simp))
    go_wp2
    go_ret2
    exact retOwnX2_nil (by decide) Hz.out hk3
  have hd : decide (i < 0) = false := by simpa using h8
  by_cases h9 : i2 < 0
  · have hd2 : decide (i2 < 0) = true := by simpa using h9
    have Hz := Lib.hid (joF_no (xs := xs) (number := number) (other := other) (by unfold jnC; rw [← Hi2.out, decide_eq_false (by omega : ¬ 0 ≤ i2)]; simp))
    go_wp2
    go_ret2
    exact retOwnX2_nil (by decide) Hz.out hk3
  have hd2 : decide (i2 < 0) = false := by simpa using h9
  obtain ⟨a, rfl⟩ := Int.eq_ofNat_of_zero_le (by omega : 0 ≤ i)
  obtain ⟨b, rfl⟩ := Int.eq_ofNat_of_zero_le (by omega : 0 ≤ i2)
  have hax : a < xs.length := by omega
  have hbx : b < xs.length := by omega
  have han : a < n := by have := HL.out; omega
  have hbn : b < n := by have := HL.out; omega
  clear hr1 hr2 h8 h9
  by_cases h7 : a = b
  · have hd3 : ((a : Int) == (b : Int)) = true := by simp [h7]
    have Hz := Lib.hid (joF_no (xs := xs) (number := number) (other := other) (by unfold jnC; rw [← Hi.out, ← Hi2.out, decide_eq_true (by omega : (a : Int) = (b : Int))]; simp))
    clear h7
    go_wp2
    go_ret2
    exact retOwnX2_nil (by decide) Hz.out hk3
  have hd3 : ((a : Int) == (b : Int)) = false := by simp; omega
  have H7 := Lib.hid h7
  have hv := incs_iff.1 H0.out
  have l1 := vi_names hv _ (nth_mem hax)
  have l2 := vi_names hv _ (nth_mem hbx)
  have HVI := Lib.hid hv
  have HGd := Lib.hid (join_good hv hax (open_at Hi.out.symm).2.2 hbx h7)
  clear hv h7
  obtain ⟨b2, o2, A2, k2, rfl, hz2, _, _, _, d3, hiB, _⟩ := hs.incident hbn
  have HiB := Lib.hid hiB
  have hbI : (b : Int) < n := by omega
  have hb0 : (0 : Int) ≤ b := by omega
  have hbc : b ≤ c := by omega
  have hxn : xs.length ≤ 1048576 := by rw [HL.out]; exact hn
  clear hiB
  go_wp2_with fail
  refine (ixClose_any xs b _ _ _ _ hn (hs.below hk3) HIN.out hbn).mono ?_
  rintro e V4 ⟨A_c, c_c, F_c, rfl, ho_c, hb4⟩
  have hB4 := bl_trans (a := V3) (bl_refl _) hb4
  have hk4 := bl_trans hk3 hB4
  have z4 := Lib.hid hB4.size
  clear hk3
  obtain ⟨ps, hp, _, hop⟩ := ho_c
  have hpC : incidentN.plain ps = clL xs b := hp
  have HOP : Hid (OwnP incidentN V4 w.heap.size 56 9 (.slice A_c xs.length c_c) ps) := by have h := hop.mono (b := w.heap.size) (by have := z1.out; have := z2.out; have := z3.out; have := z4.out; omega); rw [List.length_set] at h; exact h
  have HP0 : Hid (incidentN.plain ps = (clL xs b).set a (adN (nth xs a) ((nth xs b).Names.take 0))) := by rw [Hid, hpC, List.take_zero, adN_nil, ← nth_clL hax H7.out]; exact (set_selfC (by rw [clL_len]; exact hax)).symm
  have HK := Lib.hid hk4
  have d4 := cell_later HK.out d3
  have hz4 := World.block_lt_of_cell? _ _ d4
  clear d3 hz2 hs hop hp hpC
  go_wp2
  go_loopw [10, 44] (fun tv iv wr => ∃ (k c' : Nat) (A' : Option Addr) (ps' : List (IncidentR × List ByteArray)), k ≤ (nth xs b).Names.length ∧ iv = .int .i64 k ∧ tv = .slice A' xs.length c' ∧ OwnP incidentN wr w.heap.size 56 9 (.slice A' xs.length c') ps' ∧ Hid (incidentN.plain ps' = (clL xs b).set a (adN (nth xs a) ((nth xs b).Names.take k))) ∧ Below w.heap.size w wr) (fun _ iv _ => (nth xs b).Names.length - (intOf iv).toNat)
  case atStart => exact ⟨0, c_c, A_c, ps, Nat.zero_le _, rfl, rfl, HOP.out, HP0, HK.out⟩
  case round =>
    obtain ⟨k, c', A', ps', hk, rfl, rfl, hop, hpl, hbw⟩ := hrel
    clear d4 hz4
    by_cases hlt : k < (nth xs b).Names.length
    · obtain ⟨b3, o3, rfl, hz3, n0⟩ := (HiB.out.below hbw).str hlt
      obtain ⟨p1, p2, p3⟩ := adT_props (k := k) HVI.out hax hbx H7.out
      have hyl : ((clL xs b).set a (adN (nth xs a) ((nth xs b).Names.take k))).length = xs.length := by rw [List.length_set, clL_len]
      have hya : nth ((clL xs b).set a (adN (nth xs a) ((nth xs b).Names.take k))) a = adN (nth xs a) ((nth xs b).Names.take k) := by rw [nth_set (by rw [clL_len]; exact hax), if_pos rfl]
      rw [List.length_take] at p2
      have hin2 : ∀ x, x ∈ (clL xs b).set a (adN (nth xs a) ((nth xs b).Names.take k)) → x.Names.length ≤ 1048576 := fun x hx => by
        have := set_names (m := 24) (set_names (m := 24) (fun x hx => Nat.le_trans (vi_names HVI.out x hx) (by omega)) (Nat.zero_le _)) (by rw [p2]; omega) x hx
        omega
      have HC : Hid (Calls Try.prog 56 #[.slice A' xs.length c', .int .i64 a, .string (nth (nth xs b).Names k)] wr (RetOwnX incidentN wr 56 9 ((clL xs b).set a (adN (nth xs a) ((nth xs b).Names.take (k + 1)))))) := by
        have hsl := hop.sl
        rw [hpl.out] at hsl
        have h := ixAdd_any ((clL xs b).set a (adN (nth xs a) ((nth xs b).Names.take k))) a (nth (nth xs b).Names k) A' xs.length c' wr hxn hsl hin2 hax (by rw [hya]; exact adT_no HVI.out hax hbx H7.out hlt)
        rw [hya, List.set_set, ← adN_succ hlt] at h
        exact h
      have HBW := Lib.hid hbw
      clear p1 p2 p3 hyl hya hop hpl hbw hin2
      have hyl2 : Hid (((clL xs b).set a (adN (nth xs a) ((nth xs b).Names.take (k + 1)))).length = xs.length) := by rw [Hid, List.length_set, clL_len]
      go_wp2_with fail
      refine HC.out.mono ?_
      rintro e V2 ⟨A_d, c_d, F_d, rfl, ho_d, hb2⟩
      obtain ⟨ps2, hp2, _, hop2⟩ := ho_d
      rw [hyl2.out] at hop2 ⊢
      have hop3 := hop2.mono (b := w.heap.size) HBW.out.size
      have hbw2 := bl_trans HBW.out hb2
      clear hb2 n0 hop2
      go_wp2
      go_roundw
      case rel => exact ⟨k + 1, c_d, A_d, ps2, by omega, by go_num, rfl, hop3, hp2, hbw2⟩
      case measure => simp [intOf]; omega
    · obtain rfl : k = (nth xs b).Names.length := by omega
      rw [List.take_length] at hpl
      have hpJ : incidentN.plain ps' = jnL xs a b := hpl.out
      have p3 := (adT_props (k := (nth xs b).Names.length) HVI.out hax hbx H7.out).2.2
      rw [List.take_length] at p3
      have HVJ := Lib.hid (hv_join HV.out hax hbx p3)
      have hsl := hop.sl
      rw [hpJ] at hsl
      have hcc := hop.out.cap.1
      have HOP2 := Lib.hid hop
      have HBW := Lib.hid hbw
      clear hpl p3 hop hbw
      go_wp2_with fail
      refine (ixIf_any (jnL xs a b) _ _ _ _ _ (by omega) hcc hsl HVJ.out HGd.out).mono ?_
      rintro e V9 ⟨rfl, hb9⟩
      have hbk := bl_trans HBW.out hb9
      have HO9 := Lib.hid (HOP2.out.below hb9)
      clear hsl hcc hb9
      cases h8 : decide ((nth xs a).Names.length + (nth xs b).Names.length ≤ 12)
      · have Hz := Lib.hid (joF_no (xs := xs) (number := number) (other := other) (by unfold jnC; rw [← Hi.out, ← Hi2.out]; show (_ && decide ((nth xs a).Names.length + (nth xs b).Names.length ≤ 12)) = false; rw [h8]; simp))
        clear h8 HO9
        go_wp2
        go_ret2
        exact retOwnX2_nil (by decide) Hz.out hbk
      · have Hz := Lib.hid (joF_yes H0.out Hi.out.symm Hi2.out.symm H7.out (of_decide_eq_true h8))
        clear h8
        go_wp2
        go_ret2
        exact retOwnX2_mk Hz.out hpJ HO9.out hbk

end Go.Proofs.Ytkgjbijkjlmomaa
