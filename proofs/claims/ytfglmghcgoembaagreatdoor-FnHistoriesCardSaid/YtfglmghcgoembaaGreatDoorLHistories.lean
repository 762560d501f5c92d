/-
  The law on Histories: it answers true at every input, and every argument reads as before. No conditions.
-/
import Derived.Test.YtfglmghcgoembaaGreatDoorHx17
import Derived.Test.YtfglmghcgoembaaGreatDoorHx18
import Derived.Test.YtfglmghcgoembaaGreatDoorHx26
import Derived.Test.YtfglmghcgoembaaGreatDoorHx27
import Derived.Test.YtfglmghcgoembaaGreatDoorHx33
import Derived.Test.YtfglmghcgoembaaGreatDoorHx32
import Derived.Test.YtfglmghcgoembaaGreatDoorHx25
import Derived.Test.YtfglmghcgoembaaGreatDoorHx34
import Derived.Test.YtfglmghcgoembaaGreatDoorRow
import Derived.Test.YtfglmghcgoembaaGreatDoorRows
import Derived.Test.YtfglmghcgoembaaGreatDoorHx3
import Derived.Test.YtfglmghcgoembaaGreatDoorCards
import Derived.Test.YtfglmghcgoembaaGreatDoorTie
import Derived.Deep.DeepCutAuto
import Derived.Deep.CutBlock
import Derived.Handed
import Derived.LaidLaws
import Derived.Lay
import Derived.SevenTiedAt
namespace Go.Proofs.YtfglmghcgoembaaGreatDoor.lawHistories
open Go.RowKit

theorem jo_len {a b j : List Entry} {ok : Bool} (h : joF a b = (j, ok)) : j.length ≤ a.length + b.length := by
  unfold joF at h
  split at h
  · injection h with h _; subst h; omega
  · split at h
    · injection h with h _; subst h; omega
    · injection h with h _; subst h; simp
theorem mh_any {a b M : List Entry} {ok : Bool} (h : mhF a b = (M, ok)) (sa : SmE a) (sb : SmE b) (la : a.length ≤ 60) (lb : b.length ≤ 60) : M.length ≤ 240 ∧ SmE M := by
  unfold mhF at h
  split at h
  · injection h with h _
    subst h
    have l1 := jo_len (show joF (fil 1 a) (fil 1 b) = ((joF (fil 1 a) (fil 1 b)).1, (joF (fil 1 a) (fil 1 b)).2) from rfl)
    have l2 := jo_len (show joF (fil 2 a) (fil 2 b) = ((joF (fil 2 a) (fil 2 b)).1, (joF (fil 2 a) (fil 2 b)).2) from rfl)
    have f1 := fil_len 1 a
    have f2 := fil_len 1 b
    have f3 := fil_len 2 a
    have f4 := fil_len 2 b
    exact ⟨by rw [mgL_len]; omega, SmE.mg (SmE.jo (sa.fil 1) (sb.fil 1) (show joF (fil 1 a) (fil 1 b) = ((joF (fil 1 a) (fil 1 b)).1, (joF (fil 1 a) (fil 1 b)).2) from rfl)) (SmE.jo (sa.fil 2) (sb.fil 2) (show joF (fil 2 a) (fil 2 b) = ((joF (fil 2 a) (fil 2 b)).1, (joF (fil 2 a) (fil 2 b)).2) from rfl))⟩
  · injection h with h _; subst h; exact ⟨by simp, SmE.nil⟩
theorem lk_any {a b C : List Entry} {ok : Bool} (h : lkF a b = (C, ok)) (sb : SmE b) (lb : b.length ≤ 60) : C.length ≤ 60 ∧ SmE C := by
  unfold lkF at h
  split at h
  · injection h with h _
    subst h
    have l1 : (lackL a b).length ≤ b.length := List.length_filter_le _ _
    exact ⟨by omega, sb.lack⟩
  · injection h with h _; subst h; exact ⟨by simp, SmE.nil⟩
theorem lk_one {a b C : List Entry} {ok : Bool} (h : lkF a b = (C, ok)) : ok = (hiB a && hiB b) := by
  unfold lkF at h
  split at h
  · rename_i hc; injection h with _ h; rw [hc]; exact h.symm
  · rename_i hc; injection h with _ h; rw [← h]; simpa using hc
theorem mh_ok {a b M : List Entry} (h : mhF a b = (M, true)) : hiB a = true ∧ hiB b = true := by
  obtain ⟨ha, hb, _⟩ := mh_parts h
  exact ⟨hi_iff.2 ha, hi_iff.2 hb⟩
theorem sh_any {h F S : List Entry} {ok : Bool} (k : shF h = (F, S, ok)) (hl : h.length ≤ 60) : F.length ≤ 60 ∧ S.length ≤ 60 ∧ hiB h = ok := by
  unfold shF at k
  split at k
  · rename_i hc
    injection k with k1 k2
    injection k2 with k2 k3
    subst k1 k2 k3
    have := fil_len 1 h
    have := fil_len 2 h
    exact ⟨by omega, by omega, hc⟩
  · rename_i hc
    injection k with k1 k2
    injection k2 with k2 k3
    subst k1 k2 k3
    exact ⟨by simp, by simp, by simpa using hc⟩
theorem sh_parts {h F S : List Entry} (k : shF h = (F, S, true)) : Lg F ∧ Lg S ∧ OfR 1 F ∧ OfR 2 S ∧ mgL F S = h := by
  unfold shF at k
  split at k
  · rename_i hc
    injection k with k1 k2
    injection k2 with k2 _
    subst k1 k2
    have hi := hi_iff.1 hc
    exact ⟨hi.f, hi.s2, fil_of, fil_of, by have := hi.e; rw [hi.two] at this; exact this.symm⟩
  · cases k
theorem pl_parts {h : List Entry} {r n : Int} {i : Nat} (k : plF h r n = ((i : Int), true)) : inB r 1 2 = true ∧ inB n 1 999 = true ∧ indexF (isP r n) h = (i : Int) := by
  unfold plF at k
  split at k
  · rename_i hc
    simp only [Bool.and_eq_true] at hc
    split at k
    · cases k
    · injection k with k _; exact ⟨hc.1.2, hc.2, k⟩
  · cases k
set_option maxHeartbeats 2000000 in
theorem big_any (A B : Option Addr) (n m c d : Nat) (w : World) :
    Calls Tryz.prog 4 #[.slice A n c, .slice B m d] w fun e w' => (∃ b : Bool, e = .returned (.bool b)) ∧ Below w.heap.size w w' := by
  obtain ⟨L, hL⟩ : ∃ L, IntKind.i64.wrap (1048576 - (n : Int)) = L := ⟨_, rfl⟩
  by_cases h : 1048576 < n
  · have h2 : (1048576 : Int) < n := by omega
    have h3 : decide (1048576 < n) = true := decide_eq_true h
    go_enter Tryz.func4, Tryz.ntmps4
    go_wp2
    go_ret
    exact ⟨⟨_, rfl⟩, bl_refl _⟩
  · have h2 : ¬ (1048576 : Int) < n := by omega
    have h3 : decide (1048576 < n) = false := decide_eq_false h
    go_enter Tryz.func4, Tryz.ntmps4
    go_wp2
    go_ret
    refine ⟨?_, bl_refl _⟩
    cases decide (L < (m : Int))
    · exact .inl rfl
    · exact .inr rfl
set_option maxRecDepth 100000 in
set_option maxHeartbeats 16000000 in
theorem walk (A0 : Option Addr) (n0 c0 : Nat) (x0 : List Byt) (A1 : Option Addr) (n1 c1 : Nat) (x1 : List Byt) (w : World) (he : Tab w) (hx0 : CodeIs w A0 n0 x0) (hx1 : CodeIs w A1 n1 x1) :
    Calls Tryz.prog 3 #[.slice A0 n0 c0, .slice A1 n1 c1] w fun e w' => e = .returned (.bool true) ∧ Below w.heap.size w w' := by
  go_enter Tryz.func3, Tryz.ntmps3
  have hk0 := bl_refl w
  go_wp2_with fail
  refine (big_any A0 A1 n0 n1 c0 c1 _).mono ?_
  rintro e V1 ⟨⟨bb, rfl⟩, hb1⟩
  have hB1 := bl_trans (a := w) (bl_refl _) hb1
  have hk1 := bl_trans hk0 hB1
  have z1 := Lib.hid hB1.size
  cases bb
  case true =>
    go_wp2
    go_ret
    exact ⟨rfl, hk1⟩
  go_wp2_with fail
  refine (drawMerge_any A0 n0 c0 x0 _ (hx0.below hk1)).mono ?_
  rintro e V2 ⟨a, b, A_a, c_a, A_b, c_b, rfl, hal, hbl, hsa, hsb, ho_a, ho_b, hb2⟩
  have hB2 := bl_trans (a := V1) (bl_refl _) hb2
  have hk2 := bl_trans hk1 hB2
  have z2 := Lib.hid hB2.size
  clear hk1
  obtain ⟨⟨M, ok⟩, hM⟩ : ∃ R, mhF a b = R := ⟨_, rfl⟩
  obtain ⟨⟨C, one⟩, hC⟩ : ∃ R, lkF a b = R := ⟨_, rfl⟩
  obtain ⟨ha, eha⟩ : ∃ v, hiB a = v := ⟨_, rfl⟩
  obtain ⟨hbv, ehb⟩ : ∃ v, hiB b = v := ⟨_, rfl⟩
  obtain ⟨hMl, hsM⟩ := mh_any hM hsa hsb hal hbl
  obtain ⟨hCl, hsC⟩ := lk_any hC hsb hbl
  have hone : one = (ha && hbv) := by rw [← eha, ← ehb]; exact lk_one hC
  have hok : ok = true → ha = true ∧ hbv = true := fun h => by rw [← eha, ← ehb]; exact mh_ok (by rw [← h]; exact hM)
  have hlaw : ok = true → mhF b a = (M, true) ∧ mhF M a = (M, true) ∧ hiB M = true ∧ M.length = a.length + C.length ∧ lkF M a = ([], true) ∧ lkF M b = ([], true) := fun h => by
    have hl := merge_law (show mhF a b = (M, true) by rw [← h]; exact hM)
    have hc := hl.2.2.2.1
    rw [hC] at hc
    injection hc with hc _
    rw [← hc] at hl
    exact ⟨hl.1, hl.2.1, hl.2.2.1, hl.2.2.2.2.1, hl.2.2.2.2.2.1, hl.2.2.2.2.2.2⟩
  have kMi := Lib.hid (show ∀ (W : World) (hs0 : Sl W A_a a.length a) (hs1 : Sl W A_b b.length b), Calls Tryz.prog 6 #[.slice A_a a.length c_a, .slice A_b b.length c_b] W fun e w' => ∃ A c, e = .returned (.tuple #[.slice A M.length c, .bool ok]) ∧ Own w' W.heap.size 40 (.slice A M.length c) M ∧ Below W.heap.size W w' from fun W hs0 hs1 => by have h := implMerge_any a b A_a A_b _ _ c_a c_b W (by omega) (by omega) hs0 hs1 hsa.max hsb.max; rw [hM] at h; exact h)
  have kLi := Lib.hid (show ∀ (W : World) (hs0 : Sl W A_a a.length a) (hs1 : Sl W A_b b.length b), Calls Tryz.prog 8 #[.slice A_a a.length c_a, .slice A_b b.length c_b] W fun e w' => ∃ A c, e = .returned (.tuple #[.slice A C.length c, .bool one]) ∧ Own w' W.heap.size 40 (.slice A C.length c) C ∧ Below W.heap.size W w' from fun W hs0 hs1 => by have h := implLack_any a b A_a A_b _ _ c_a c_b W (by omega) (by omega) hs0 hs1 hsa.max hsb.max; rw [hC] at h; exact h)
  have kMs := Lib.hid (show ∀ (W : World) (hs0 : Sl W A_a a.length a) (hs1 : Sl W A_b b.length b), Calls Tryz.prog 7 #[.slice A_a a.length c_a, .slice A_b b.length c_b] W fun e w' => ∃ A c, e = .returned (.tuple #[.slice A M.length c, .bool ok]) ∧ Own w' W.heap.size 40 (.slice A M.length c) M ∧ Below W.heap.size W w' from fun W hs0 hs1 => by have h := specMerge_any a b A_a A_b _ _ c_a c_b W (by omega) (by omega) hs0 hs1 hsa.max hsb.max; rw [hM] at h; exact h)
  have kLs := Lib.hid (show ∀ (W : World) (hs0 : Sl W A_a a.length a) (hs1 : Sl W A_b b.length b), Calls Tryz.prog 9 #[.slice A_a a.length c_a, .slice A_b b.length c_b] W fun e w' => ∃ A c, e = .returned (.tuple #[.slice A C.length c, .bool one]) ∧ Own w' W.heap.size 40 (.slice A C.length c) C ∧ Below W.heap.size W w' from fun W hs0 hs1 => by have h := specLack_any a b A_a A_b _ _ c_a c_b W (by omega) (by omega) hs0 hs1 hsa.max hsb.max; rw [hC] at h; exact h)
  have kHa := Lib.hid (show ∀ (W : World) (hs0 : Sl W A_a a.length a), Calls Tryz.prog 11 #[.slice A_a a.length c_a] W fun e w' => e = .returned (.bool ha) ∧ Below W.heap.size W w' from fun W hs0 => by have h := implIsHistory_any a A_a _ c_a W (by omega) hs0 hsa.max; rw [eha] at h; exact h)
  have kHb := Lib.hid (show ∀ (W : World) (hs0 : Sl W A_b b.length b), Calls Tryz.prog 11 #[.slice A_b b.length c_b] W fun e w' => e = .returned (.bool hbv) ∧ Below W.heap.size W w' from fun W hs0 => by have h := implIsHistory_any b A_b _ c_b W (by omega) hs0 hsb.max; rw [ehb] at h; exact h)
  have HhM := Lib.hid hM
  clear hM
  have HhC := Lib.hid hC
  clear hC
  have Heha := Lib.hid eha
  clear eha
  have Hehb := Lib.hid ehb
  clear ehb
  have Hhone := Lib.hid hone
  clear hone
  have Hhok := Lib.hid hok
  clear hok
  have Hhlaw := Lib.hid hlaw
  clear hlaw
  go_wp2_with fail
  refine (kMi.out _ ho_a.sl ho_b.sl).mono ?_
  rintro e V3 ⟨A_m, c_m, rfl, ho_m, hb3⟩
  have hB3 := bl_trans (a := V2) (bl_refl _) hb3
  have hk3 := bl_trans hk2 hB3
  have z3 := Lib.hid hB3.size
  have a_3 := ho_a.below hB3
  have b_3 := ho_b.below hB3
  clear hk2 ho_a ho_b
  go_wp2_with fail
  refine (kMs.out _ a_3.sl b_3.sl).mono ?_
  rintro e V4 ⟨A_n, c_n, rfl, ho_n, hb4⟩
  have hB4 := bl_trans (a := V3) (bl_refl _) hb4
  have hk4 := bl_trans hk3 hB4
  have z4 := Lib.hid hB4.size
  have a_4 := a_3.below hB4
  have b_4 := b_3.below hB4
  have m_4 := ho_m.below hB4
  clear hk3 a_3 b_3 ho_m
  go_wp2_with fail
  refine (kLi.out _ a_4.sl b_4.sl).mono ?_
  rintro e V5 ⟨A_c, c_c, rfl, ho_c, hb5⟩
  have hB5 := bl_trans (a := V4) (bl_refl _) hb5
  have hk5 := bl_trans hk4 hB5
  have z5 := Lib.hid hB5.size
  have a_5 := a_4.below hB5
  have b_5 := b_4.below hB5
  have m_5 := m_4.below hB5
  have n_5 := ho_n.below hB5
  clear hk4 a_4 b_4 m_4 ho_n
  go_wp2_with fail
  refine (kLs.out _ a_5.sl b_5.sl).mono ?_
  rintro e V6 ⟨A_d, c_d, rfl, ho_d, hb6⟩
  have hB6 := bl_trans (a := V5) (bl_refl _) hb6
  have hk6 := bl_trans hk5 hB6
  have z6 := Lib.hid hB6.size
  have a_6 := a_5.below hB6
  have b_6 := b_5.below hB6
  have m_6 := m_5.below hB6
  have n_6 := n_5.below hB6
  have c_6 := ho_c.below hB6
  clear hk5 a_5 b_5 m_5 n_5 ho_c
  go_upto_region 8 with fail
  refine wp_below (fun V7 hb7 => ?_)
  have hB7 := bl_trans (a := V6) (bl_refl _) hb7
  have hk7 := bl_trans hk6 hB7
  have z7 := Lib.hid hB7.size
  have a_7 := a_6.below hB7
  have b_7 := b_6.below hB7
  have m_7 := m_6.below hB7
  have n_7 := n_6.below hB7
  have c_7 := c_6.below hB7
  have d_7 := ho_d.below hB7
  clear hk6 a_6 b_6 m_6 n_6 c_6 ho_d
  go_cut [112] (fun sb wx => sb = .bool false ∧ Below V7.heap.size V7 wx)
  case first => as_aux_lemma =>
    go_wp2_with fail
    refine (pSameEntries_same _ _ _ _ _ M _ (by omega) m_7.sl n_7.sl).mono ?_
    rintro e V8 ⟨rfl, hb8⟩
    have hB8 := bl_trans (a := V7) (bl_refl _) hb8
    have hk8 := bl_trans hk7 hB8
    have z8 := Lib.hid hB8.size
    have a_8 := a_7.below hB8
    have b_8 := b_7.below hB8
    have m_8 := m_7.below hB8
    have n_8 := n_7.below hB8
    have c_8 := c_7.below hB8
    have d_8 := d_7.below hB8
    clear hk7 a_7 b_7 m_7 n_7 c_7 d_7
    go_wp2_with fail
    refine (pSameEntries_same _ _ _ _ _ C _ (by omega) c_8.sl d_8.sl).mono ?_
    rintro e V9 ⟨rfl, hb9⟩
    have hB9 := bl_trans (a := V8) (bl_refl _) hb9
    have hk9 := bl_trans hk8 hB9
    have z9 := Lib.hid hB9.size
    have a_9 := a_8.below hB9
    have b_9 := b_8.below hB9
    have m_9 := m_8.below hB9
    have n_9 := n_8.below hB9
    have c_9 := c_8.below hB9
    have d_9 := d_8.below hB9
    clear hk8 a_8 b_8 m_8 n_8 c_8 d_8
    cases ok
    · cases ha
      · obtain rfl : one = false := Hhone.out
        go_wp2_with fail
        refine (kHa.out _ a_9.sl).mono ?_
        rintro e V10 ⟨rfl, hb10⟩
        have hB10 := bl_trans (a := V9) (bl_refl _) hb10
        have hk10 := bl_trans hk9 hB10
        have z10 := Lib.hid hB10.size
        have a_10 := a_9.below hB10
        have b_10 := b_9.below hB10
        have m_10 := m_9.below hB10
        have n_10 := n_9.below hB10
        have c_10 := c_9.below hB10
        have d_10 := d_9.below hB10
        clear hk9 a_9 b_9 m_9 n_9 c_9 d_9
        go_wp2_with fail
        go_meet
        exact ⟨rfl, (bl_trans (bl_trans hB8 hB9) hB10)⟩
      · obtain rfl : one = hbv := Hhone.out.trans (Bool.true_and _)
        go_wp2_with fail
        refine (kHa.out _ a_9.sl).mono ?_
        rintro e V11 ⟨rfl, hb11⟩
        have hB11 := bl_trans (a := V9) (bl_refl _) hb11
        have hk11 := bl_trans hk9 hB11
        have z11 := Lib.hid hB11.size
        have a_11 := a_9.below hB11
        have b_11 := b_9.below hB11
        have m_11 := m_9.below hB11
        have n_11 := n_9.below hB11
        have c_11 := c_9.below hB11
        have d_11 := d_9.below hB11
        clear hk9 a_9 b_9 m_9 n_9 c_9 d_9
        go_wp2_with fail
        refine (kHb.out _ b_11.sl).mono ?_
        rintro e V12 ⟨rfl, hb12⟩
        have hB12 := bl_trans (a := V11) (bl_refl _) hb12
        have hk12 := bl_trans hk11 hB12
        have z12 := Lib.hid hB12.size
        have a_12 := a_11.below hB12
        have b_12 := b_11.below hB12
        have m_12 := m_11.below hB12
        have n_12 := n_11.below hB12
        have c_12 := c_11.below hB12
        have d_12 := d_11.below hB12
        clear hk11 a_11 b_11 m_11 n_11 c_11 d_11
        go_wp2_with fail
        go_meet
        exact ⟨rfl, (bl_trans (bl_trans (bl_trans hB8 hB9) hB11) hB12)⟩
    · obtain ⟨rfl, rfl⟩ := Hhok.out rfl
      obtain rfl : one = true := Hhone.out
      go_wp2_with fail
      refine (kHa.out _ a_9.sl).mono ?_
      rintro e V13 ⟨rfl, hb13⟩
      have hB13 := bl_trans (a := V9) (bl_refl _) hb13
      have hk13 := bl_trans hk9 hB13
      have z13 := Lib.hid hB13.size
      have a_13 := a_9.below hB13
      have b_13 := b_9.below hB13
      have m_13 := m_9.below hB13
      have n_13 := n_9.below hB13
      have c_13 := c_9.below hB13
      have d_13 := d_9.below hB13
      clear hk9 a_9 b_9 m_9 n_9 c_9 d_9
      go_wp2_with fail
      refine (kHb.out _ b_13.sl).mono ?_
      rintro e V14 ⟨rfl, hb14⟩
      have hB14 := bl_trans (a := V13) (bl_refl _) hb14
      have hk14 := bl_trans hk13 hB14
      have z14 := Lib.hid hB14.size
      have a_14 := a_13.below hB14
      have b_14 := b_13.below hB14
      have m_14 := m_13.below hB14
      have n_14 := n_13.below hB14
      have c_14 := c_13.below hB14
      have d_14 := d_13.below hB14
      clear hk13 a_13 b_13 m_13 n_13 c_13 d_13
      go_wp2_with fail
      go_meet
      exact ⟨rfl, (bl_trans (bl_trans (bl_trans hB8 hB9) hB13) hB14)⟩
  case rest => as_aux_lemma =>
    obtain ⟨rfl, hb15⟩ := hcut
    obtain ⟨V15, hVV⟩ : ∃ V, V = wc := ⟨_, rfl⟩
    subst hVV
    have hB15 := bl_trans (a := V7) (bl_refl _) hb15
    have hk15 := bl_trans hk7 hB15
    have z15 := Lib.hid hB15.size
    have a_15 := a_7.below hB15
    have b_15 := b_7.below hB15
    have m_15 := m_7.below hB15
    have n_15 := n_7.below hB15
    have c_15 := c_7.below hB15
    have d_15 := d_7.below hB15
    clear hk7 a_7 b_7 m_7 n_7 c_7 d_7
    clear kMi kMs kLi kLs kHa kHb Hhone Hhok Heha Hehb HhC
    clear c_15
    go_upto_if 113 with fail
    refine wp_below (fun V16 hb16 => ?_)
    have hB16 := bl_trans (a := V15) (bl_refl _) hb16
    have hk16 := bl_trans hk15 hB16
    have z16 := Lib.hid hB16.size
    have a_16 := a_15.below hB16
    have b_16 := b_15.below hB16
    have m_16 := m_15.below hB16
    have n_16 := n_15.below hB16
    have d_16 := d_15.below hB16
    clear hk15 a_15 b_15 m_15 n_15 d_15
    go_cut [] (fun wx => Below V16.heap.size V16 wx)
    case first => as_aux_lemma =>
      cases ok
      · skip
        go_wp2_with fail
        go_meet
        exact (bl_refl _)
      · obtain ⟨h1, h2, h3, h4, h5, h6⟩ := Hhlaw.out rfl
        clear Hhlaw HhM
        have kB := Lib.hid (show ∀ (W : World) (hs0 : Sl W A_b b.length b) (hs1 : Sl W A_a a.length a), Calls Tryz.prog 6 #[.slice A_b b.length c_b, .slice A_a a.length c_a] W fun e w' => ∃ A c, e = .returned (.tuple #[.slice A M.length c, .bool true]) ∧ Own w' W.heap.size 40 (.slice A M.length c) M ∧ Below W.heap.size W w' from fun W hs0 hs1 => by have h := implMerge_any b a A_b A_a _ _ c_b c_a W (by omega) (by omega) hs0 hs1 hsb.max hsa.max; rw [h1] at h; exact h)
        have kS := Lib.hid (show ∀ (W : World) (hs0 : Sl W A_m M.length M) (hs1 : Sl W A_a a.length a), Calls Tryz.prog 6 #[.slice A_m M.length c_m, .slice A_a a.length c_a] W fun e w' => ∃ A c, e = .returned (.tuple #[.slice A M.length c, .bool true]) ∧ Own w' W.heap.size 40 (.slice A M.length c) M ∧ Below W.heap.size W w' from fun W hs0 hs1 => by have h := implMerge_any M a A_m A_a _ _ c_m c_a W (by omega) (by omega) hs0 hs1 hsM.max hsa.max; rw [h2] at h; exact h)
        have kI := Lib.hid (show ∀ (W : World) (hs0 : Sl W A_m M.length M), Calls Tryz.prog 11 #[.slice A_m M.length c_m] W fun e w' => e = .returned (.bool true) ∧ Below W.heap.size W w' from fun W hs0 => by have h := implIsHistory_any M A_m _ c_m W (by omega) hs0 hsM.max; rw [h3] at h; exact h)
        have kX := Lib.hid (show ∀ (W : World) (hs0 : Sl W A_m M.length M) (hs1 : Sl W A_a a.length a), Calls Tryz.prog 8 #[.slice A_m M.length c_m, .slice A_a a.length c_a] W fun e w' => ∃ A c, e = .returned (.tuple #[.slice A 0 c, .bool true]) ∧ Own w' W.heap.size 40 (.slice A 0 c) ([] : List Entry) ∧ Below W.heap.size W w' from fun W hs0 hs1 => by have h := implLack_any M a A_m A_a _ _ c_m c_a W (by omega) (by omega) hs0 hs1 hsM.max hsa.max; rw [h5] at h; exact h)
        have kY := Lib.hid (show ∀ (W : World) (hs0 : Sl W A_m M.length M) (hs1 : Sl W A_b b.length b), Calls Tryz.prog 8 #[.slice A_m M.length c_m, .slice A_b b.length c_b] W fun e w' => ∃ A c, e = .returned (.tuple #[.slice A 0 c, .bool true]) ∧ Own w' W.heap.size 40 (.slice A 0 c) ([] : List Entry) ∧ Below W.heap.size W w' from fun W hs0 hs1 => by have h := implLack_any M b A_m A_b _ _ c_m c_b W (by omega) (by omega) hs0 hs1 hsM.max hsb.max; rw [h6] at h; exact h)
        have hw1 : IntKind.i64.wrap ((a.length : Int) + (C.length : Int)) = (M.length : Int) := by rw [IntWalk.i64_in _ (by omega)]; omega
        clear h1 h2 h3 h4 h5 h6
        go_wp2_with fail
        refine (kB.out _ b_16.sl a_16.sl).mono ?_
        rintro e V17 ⟨A_e, c_e, rfl, ho_e, hb17⟩
        have hB17 := bl_trans (a := V16) (bl_refl _) hb17
        have hk17 := bl_trans hk16 hB17
        have z17 := Lib.hid hB17.size
        have a_17 := a_16.below hB17
        have b_17 := b_16.below hB17
        have m_17 := m_16.below hB17
        have n_17 := n_16.below hB17
        have d_17 := d_16.below hB17
        clear hk16 a_16 b_16 m_16 n_16 d_16
        go_wp2_with fail
        refine (kS.out _ m_17.sl a_17.sl).mono ?_
        rintro e V18 ⟨A_f, c_f, rfl, ho_f, hb18⟩
        have hB18 := bl_trans (a := V17) (bl_refl _) hb18
        have hk18 := bl_trans hk17 hB18
        have z18 := Lib.hid hB18.size
        have a_18 := a_17.below hB18
        have b_18 := b_17.below hB18
        have m_18 := m_17.below hB18
        have n_18 := n_17.below hB18
        have d_18 := d_17.below hB18
        have e_18 := ho_e.below hB18
        clear hk17 a_17 b_17 m_17 n_17 d_17 ho_e
        go_wp2_with fail
        refine (pSameEntries_same _ _ _ _ _ M _ (by omega) e_18.sl n_18.sl).mono ?_
        rintro e V19 ⟨rfl, hb19⟩
        have hB19 := bl_trans (a := V18) (bl_refl _) hb19
        have hk19 := bl_trans hk18 hB19
        have z19 := Lib.hid hB19.size
        have a_19 := a_18.below hB19
        have b_19 := b_18.below hB19
        have m_19 := m_18.below hB19
        have n_19 := n_18.below hB19
        have d_19 := d_18.below hB19
        have e_19 := e_18.below hB19
        have f_19 := ho_f.below hB19
        clear hk18 a_18 b_18 m_18 n_18 d_18 e_18 ho_f
        go_wp2_with fail
        refine (pSameEntries_same _ _ _ _ _ M _ (by omega) f_19.sl n_19.sl).mono ?_
        rintro e V20 ⟨rfl, hb20⟩
        have hB20 := bl_trans (a := V19) (bl_refl _) hb20
        have hk20 := bl_trans hk19 hB20
        have z20 := Lib.hid hB20.size
        have a_20 := a_19.below hB20
        have b_20 := b_19.below hB20
        have m_20 := m_19.below hB20
        have n_20 := n_19.below hB20
        have d_20 := d_19.below hB20
        have e_20 := e_19.below hB20
        have f_20 := f_19.below hB20
        clear hk19 a_19 b_19 m_19 n_19 d_19 e_19 f_19
        clear e_20 f_20 n_20 d_20
        go_wp2_with fail
        refine (kI.out _ m_20.sl).mono ?_
        rintro e V21 ⟨rfl, hb21⟩
        have hB21 := bl_trans (a := V20) (bl_refl _) hb21
        have hk21 := bl_trans hk20 hB21
        have z21 := Lib.hid hB21.size
        have a_21 := a_20.below hB21
        have b_21 := b_20.below hB21
        have m_21 := m_20.below hB21
        clear hk20 a_20 b_20 m_20
        clear kB kS kI
        go_upto_block 0 with fail
        refine wp_below (fun V22 hb22 => ?_)
        have hB22 := bl_trans (a := V21) (by repeat' (first | exact bl_refl _ | refine bl_alloc ?_ _ | refine bl_drew ?_ | refine bl_drewN ?_ _ | refine bl_set ?_ ?_ _ | (simp; done) | (simp; omega))) hb22
        have hk22 := bl_trans hk21 hB22
        have z22 : Hid (V21.heap.size + 1 ≤ V22.heap.size) := by have := hb22.size; simp only [World.size_alloc] at this; exact (by omega : _)
        have a_22 := a_21.below hB22
        have b_22 := b_21.below hB22
        have m_22 := m_21.below hB22
        have bbx_0_22 : V22.cell? ⟨V21.heap.size, 0, none⟩ = some (.slice A_a a.length c_a) := cell_later hb22 (by go_simp)
        have bbx_1_22 : V22.cell? ⟨V21.heap.size, 1, none⟩ = some (.slice A_b b.length c_b) := cell_later hb22 (by go_simp)
        have lbx_22 : V21.heap.size < V22.heap.size := World.block_lt_of_cell? _ _ bbx_0_22
        clear hk21 a_21 b_21 m_21
        have HMs := Lib.hid m_22.sl
        have HAs := Lib.hid a_22.sl
        have HBs := Lib.hid b_22.sl
        have hRel : Below V16.heap.size V16 V22 := (bl_trans (bl_trans (bl_trans (bl_trans (bl_trans hB17 hB18) hB19) hB20) hB21) hB22)
        have hbx0 := bbx_0_22
        have hbx1 := bbx_1_22
        clear m_22 a_22 b_22 bbx_0_22 bbx_1_22 lbx_22
        go_wp2
        go_loopw [163] (fun iv wr => ∃ i : Nat, i ≤ 2 ∧ iv = .int .i64 i ∧ Below V22.heap.size V22 wr) (fun iv _ => 2 - (intOf iv).toNat)
        case atStart => exact ⟨0, Nat.zero_le _, rfl, bl_refl _⟩
        case round =>
          obtain ⟨i, hi, rfl, hbr⟩ := hrel
          have x0 := cell_later hbr hbx0
          have x1 := cell_later hbr hbx1
          have hlx := World.block_lt_of_cell? _ _ x0
          clear hbx0 hbx1
          by_cases hi0 : i = 0
          · subst hi0
            go_wp2_with fail
            refine (kX.out _ (HMs.out.below hbr) (HAs.out.below hbr)).mono ?_
            rintro e VZ ⟨A_z, c_z, rfl, ho_z, hbz⟩
            have hbq := bl_trans hbr hbz
            clear ho_z hbz x0 x1 hlx
            go_wp2
            go_roundw
            case rel => exact ⟨1, by omega, by go_num, hbq⟩
            case measure => simp [intOf]; try omega
          by_cases hi1 : i = 1
          · subst hi1
            go_wp2_with fail
            refine (kY.out _ (HMs.out.below hbr) (HBs.out.below hbr)).mono ?_
            rintro e VZ ⟨A_z, c_z, rfl, ho_z, hbz⟩
            have hbq := bl_trans hbr hbz
            clear ho_z hbz x0 x1 hlx
            go_wp2
            go_roundw
            case rel => exact ⟨2, by omega, by go_num, hbq⟩
            case measure => simp [intOf]; try omega
          obtain rfl : i = 2 := by omega
          have hb7 := bl_trans hRel hbr
          go_wp2_with fail
          go_meet
          exact hb7
    case rest => as_aux_lemma =>
      obtain ⟨V23, hVV⟩ : ∃ V, V = wc := ⟨_, rfl⟩
      have hb23 := hcut
      clear hcut
      subst hVV
      have hB23 := bl_trans (a := V16) (bl_refl _) hb23
      have hk23 := bl_trans hk16 hB23
      have z23 := Lib.hid hB23.size
      have a_23 := a_16.below hB23
      have b_23 := b_16.below hB23
      have m_23 := m_16.below hB23
      have n_23 := n_16.below hB23
      have d_23 := d_16.below hB23
      clear hk16 a_16 b_16 m_16 n_16 d_16
      clear Hhlaw HhM hsM hsC hMl hCl hsa hsb hal hbl
      clear m_23 n_23 d_23 a_23 b_23
      go_wp2_with fail
      refine (drawSplit_any A1 n1 c1 x1 _ (hx1.below hk23)).mono ?_
      rintro e V24 ⟨h, A_h, c_h, rfl, hhl, hsh, ho_h, hb24⟩
      have hB24 := bl_trans (a := V23) (bl_refl _) hb24
      have hk24 := bl_trans hk23 hB24
      have z24 := Lib.hid hB24.size
      clear hk23
      obtain ⟨⟨F, S, tt⟩, hF⟩ : ∃ R, shF h = R := ⟨_, rfl⟩
      obtain ⟨hFl, hSl, hth⟩ := sh_any hF hhl
      have kSi := Lib.hid (show ∀ (W : World) (hs0 : Sl W A_h h.length h), Calls Tryz.prog 13 #[.slice A_h h.length c_h] W fun e w' => ∃ A c B d, e = .returned (.tuple #[.slice A F.length c, .slice B S.length d, .bool tt]) ∧ Own w' W.heap.size 40 (.slice A F.length c) F ∧ Own w' W.heap.size 40 (.slice B S.length d) S ∧ Below W.heap.size W w' from fun W hs0 => by have h := implSplit_any h A_h _ c_h W (by omega) hs0 hsh.max; rw [hF] at h; exact h)
      have kSs := Lib.hid (show ∀ (W : World) (hs0 : Sl W A_h h.length h), Calls Tryz.prog 14 #[.slice A_h h.length c_h] W fun e w' => ∃ A c B d, e = .returned (.tuple #[.slice A F.length c, .slice B S.length d, .bool tt]) ∧ Own w' W.heap.size 40 (.slice A F.length c) F ∧ Own w' W.heap.size 40 (.slice B S.length d) S ∧ Below W.heap.size W w' from fun W hs0 => by have h := specSplit_any h A_h _ c_h W (by omega) hs0 hsh.max; rw [hF] at h; exact h)
      have kI := Lib.hid (show ∀ (W : World) (hs0 : Sl W A_h h.length h), Calls Tryz.prog 11 #[.slice A_h h.length c_h] W fun e w' => e = .returned (.bool tt) ∧ Below W.heap.size W w' from fun W hs0 => by have h := implIsHistory_any h A_h _ c_h W (by omega) hs0 hsh.max; rw [hth] at h; exact h)
      have HhF := Lib.hid hF
      clear hF
      have Hhth := Lib.hid hth
      clear hth
      go_wp2_with fail
      refine (kSi.out _ ho_h.sl).mono ?_
      rintro e V25 ⟨A_f, c_f, A_s, c_s, rfl, ho_f, ho_s, hb25⟩
      have hB25 := bl_trans (a := V24) (bl_refl _) hb25
      have hk25 := bl_trans hk24 hB25
      have z25 := Lib.hid hB25.size
      have h_25 := ho_h.below hB25
      clear hk24 ho_h
      go_wp2_with fail
      refine (kSs.out _ h_25.sl).mono ?_
      rintro e V26 ⟨A_p, c_p, A_q, c_q, rfl, ho_p, ho_q, hb26⟩
      have hB26 := bl_trans (a := V25) (bl_refl _) hb26
      have hk26 := bl_trans hk25 hB26
      have z26 := Lib.hid hB26.size
      have h_26 := h_25.below hB26
      have f_26 := ho_f.below hB26
      have s_26 := ho_s.below hB26
      clear hk25 h_25 ho_f ho_s
      go_wp2_with fail
      refine (pSameEntries_same _ _ _ _ _ F _ (by omega) f_26.sl ho_p.sl).mono ?_
      rintro e V27 ⟨rfl, hb27⟩
      have hB27 := bl_trans (a := V26) (bl_refl _) hb27
      have hk27 := bl_trans hk26 hB27
      have z27 := Lib.hid hB27.size
      have h_27 := h_26.below hB27
      have f_27 := f_26.below hB27
      have s_27 := s_26.below hB27
      have p_27 := ho_p.below hB27
      have q_27 := ho_q.below hB27
      clear hk26 h_26 f_26 s_26 ho_p ho_q
      go_wp2_with fail
      refine (pSameEntries_same _ _ _ _ _ S _ (by omega) s_27.sl q_27.sl).mono ?_
      rintro e V28 ⟨rfl, hb28⟩
      have hB28 := bl_trans (a := V27) (bl_refl _) hb28
      have hk28 := bl_trans hk27 hB28
      have z28 := Lib.hid hB28.size
      have h_28 := h_27.below hB28
      have f_28 := f_27.below hB28
      have s_28 := s_27.below hB28
      have p_28 := p_27.below hB28
      have q_28 := q_27.below hB28
      clear hk27 h_27 f_27 s_27 p_27 q_27
      clear p_28 q_28
      go_wp2_with fail
      refine (kI.out _ h_28.sl).mono ?_
      rintro e V29 ⟨rfl, hb29⟩
      have hB29 := bl_trans (a := V28) (bl_refl _) hb29
      have hk29 := bl_trans hk28 hB29
      have z29 := Lib.hid hB29.size
      have h_29 := h_28.below hB29
      have f_29 := f_28.below hB29
      have s_29 := s_28.below hB29
      clear hk28 h_28 f_28 s_28
      clear kSi kSs kI
      cases tt
      · skip
        go_wp2
        go_ret
        exact ⟨rfl, hk29⟩
      · obtain ⟨g1, g2, g3, g4, g5⟩ := sh_parts HhF.out
        obtain ⟨l1, _, l3, l4, l5⟩ := split_law HhF.out
        obtain ⟨q, hq⟩ : ∃ q, hoN h h.length = q := ⟨_, rfl⟩
        have hv : hvF h = ((q : Int), true) := by rw [hvF_yes l1, hq]
        rw [hq] at l3
        have hq40 : q ≤ 60 := by rw [← hq]; exact Nat.le_trans (hoN_le _ _) hhl
        obtain ⟨T, hT⟩ : ∃ T, histT h h.length = T := ⟨_, rfl⟩
        have ht : htF h = (T, true) := by rw [htF_yes l1, hT]
        clear hq hT
        have kO := Lib.hid (show ∀ (W : World) (hs0 : Sl W A_f F.length F) (hs1 : Sl W A_s S.length S), Calls Tryz.prog 15 #[.slice A_f F.length c_f, .slice A_s S.length c_s] W fun e w' => ∃ A c, e = .returned (.tuple #[.slice A h.length c, .bool true]) ∧ Own w' W.heap.size 40 (.slice A h.length c) h ∧ Below W.heap.size W w' from fun W hs0 hs1 => by have h := historyOf_yes F S A_f A_s _ _ c_f c_s W hs0 hs1 g1 g2 g3 g4; rw [g5] at h; exact h)
        have kVi := Lib.hid (show ∀ (W : World) (hs0 : Sl W A_h h.length h), Calls Tryz.prog 16 #[.slice A_h h.length c_h] W fun e w' => e = .returned (.tuple #[.int .i64 (q : Int), .bool true]) ∧ Below W.heap.size W w' from fun W hs0 => by have h := implHand_any h A_h _ c_h W (by omega) hs0 hsh.max; rw [hv] at h; exact h)
        have kVs := Lib.hid (show ∀ (W : World) (hs0 : Sl W A_h h.length h), Calls Tryz.prog 17 #[.slice A_h h.length c_h] W fun e w' => e = .returned (.tuple #[.int .i64 (q : Int), .bool true]) ∧ Below W.heap.size W w' from fun W hs0 => by have h := specHand_any h A_h _ c_h W (by omega) hs0 hsh.max; rw [hv] at h; exact h)
        have kTi := Lib.hid (show ∀ (W : World) (_ : Tab W) (hs0 : Sl W A_h h.length h), Calls Tryz.prog 18 #[.slice A_h h.length c_h] W fun e w' => e = .returned (.tuple #[.string T, .bool true]) ∧ Below W.heap.size W w' from fun W he hs0 => by have h := implText_any h A_h _ c_h W (by omega) hs0 hsh.max he; rw [ht] at h; exact h)
        have kTs := Lib.hid (show ∀ (W : World) (hs0 : Sl W A_h h.length h), Calls Tryz.prog 19 #[.slice A_h h.length c_h] W fun e w' => e = .returned (.tuple #[.string T, .bool true]) ∧ Below W.heap.size W w' from fun W hs0 => by have h := specText_any h A_h _ c_h W (by omega) hs0 hsh.max; rw [ht] at h; exact h)
        have kP := Lib.hid (show ∀ (i : Nat) (_ : i < h.length) (W : World) (hs0 : Sl W A_h h.length h), Calls Tryz.prog 20 #[.slice A_h h.length c_h, .int .i64 (nth h i).Room, .int .i64 (nth h i).Number] W fun e w' => e = .returned (.tuple #[.int .i64 (i : Int), .bool true]) ∧ Below W.heap.size W w' from fun i hi W hs0 => by
          obtain ⟨p1, p2, p3⟩ := pl_parts (l4 i hi)
          exact placeOf_any h A_h _ c_h i _ _ W (by omega) hs0 hsh.max l1 p1 p2 p3)
        have Hl3 := Lib.hid l3
        clear l3
        clear g1 g2 g3 g4 g5 l1 l4 hv ht HhF Hhth
        go_wp2_with fail
        refine (kO.out _ f_29.sl s_29.sl).mono ?_
        rintro e V30 ⟨A_o, c_o, rfl, ho_o, hb30⟩
        have hB30 := bl_trans (a := V29) (bl_refl _) hb30
        have hk30 := bl_trans hk29 hB30
        have z30 := Lib.hid hB30.size
        have h_30 := h_29.below hB30
        have f_30 := f_29.below hB30
        have s_30 := s_29.below hB30
        clear hk29 h_29 f_29 s_29
        clear f_30 s_30
        go_wp2_with fail
        refine (kVi.out _ h_30.sl).mono ?_
        rintro e V31 ⟨rfl, hb31⟩
        have hB31 := bl_trans (a := V30) (bl_refl _) hb31
        have hk31 := bl_trans hk30 hB31
        have z31 := Lib.hid hB31.size
        have h_31 := h_30.below hB31
        have o_31 := ho_o.below hB31
        clear hk30 h_30 ho_o
        go_wp2_with fail
        refine (kVs.out _ h_31.sl).mono ?_
        rintro e V32 ⟨rfl, hb32⟩
        have hB32 := bl_trans (a := V31) (bl_refl _) hb32
        have hk32 := bl_trans hk31 hB32
        have z32 := Lib.hid hB32.size
        have h_32 := h_31.below hB32
        have o_32 := o_31.below hB32
        clear hk31 h_31 o_31
        go_wp2_with fail
        refine (kTi.out _ (he.below hk32) h_32.sl).mono ?_
        rintro e V33 ⟨rfl, hb33⟩
        have hB33 := bl_trans (a := V32) (bl_refl _) hb33
        have hk33 := bl_trans hk32 hB33
        have z33 := Lib.hid hB33.size
        have h_33 := h_32.below hB33
        have o_33 := o_32.below hB33
        clear hk32 h_32 o_32
        go_wp2_with fail
        refine (kTs.out _ h_33.sl).mono ?_
        rintro e V34 ⟨rfl, hb34⟩
        have hB34 := bl_trans (a := V33) (bl_refl _) hb34
        have hk34 := bl_trans hk33 hB34
        have z34 := Lib.hid hB34.size
        have h_34 := h_33.below hB34
        have o_34 := o_33.below hB34
        clear hk33 h_33 o_33
        clear kO kVi kVs kTi kTs
        go_upto_region 33 with fail
        refine wp_below (fun V35 hb35 => ?_)
        have hB35 := bl_trans (a := V34) (bl_refl _) hb35
        have hk35 := bl_trans hk34 hB35
        have z35 := Lib.hid hB35.size
        have h_35 := h_34.below hB35
        have o_35 := o_34.below hB35
        clear hk34 h_34 o_34
        go_cut [290] (fun sb wx => sb = .bool false ∧ Below V35.heap.size V35 wx)
        case first => as_aux_lemma =>
          go_wp2_with fail
          refine (pSameEntries_same _ _ _ _ _ h _ (by omega) o_35.sl h_35.sl).mono ?_
          rintro e V36 ⟨rfl, hb36⟩
          have hB36 := bl_trans (a := V35) (bl_refl _) hb36
          have hk36 := bl_trans hk35 hB36
          have z36 := Lib.hid hB36.size
          have h_36 := h_35.below hB36
          have o_36 := o_35.below hB36
          clear hk35 h_35 o_35
          by_cases hq0 : 0 < q
          · obtain ⟨f1, f2⟩ := Hl3.out hq0
            have e1 : decide (0 < q) = true := decide_eq_true hq0
            have e1' : (0 : Int) < q := by omega
            have e2 : ((F.length : Int) == 0) = false := by rw [beq_eq_false_iff_ne]; omega
            have e3 : ((S.length : Int) == 0) = false := by rw [beq_eq_false_iff_ne]; omega
            have e4 : decide (F.length = 0) = false := decide_eq_false (by omega)
            have e5 : decide (S.length = 0) = false := decide_eq_false (by omega)
            go_wp2_with fail
            go_meet
            exact ⟨rfl, hB36⟩
          · have e1 : decide (0 < q) = false := decide_eq_false hq0
            have e1' : ¬ (0 : Int) < q := by omega
            go_wp2_with fail
            go_meet
            exact ⟨rfl, hB36⟩
        case rest => as_aux_lemma =>
          obtain ⟨rfl, hb37⟩ := hcut
          obtain ⟨V37, hVV⟩ : ∃ V, V = wc := ⟨_, rfl⟩
          subst hVV
          have hB37 := bl_trans (a := V35) (bl_refl _) hb37
          have hk37 := bl_trans hk35 hB37
          have z37 := Lib.hid hB37.size
          have h_37 := h_35.below hB37
          have o_37 := o_35.below hB37
          clear hk35 h_35 o_35
          clear o_37
          clear Hl3 hq40
          have HHs := Lib.hid h_37.sl
          have hRel : Below w.heap.size w V37 := hk37
          clear h_37
          go_wp2
          go_loopw [293] (fun iv wr => ∃ i : Nat, i ≤ h.length ∧ iv = .int .i64 i ∧ Below V37.heap.size V37 wr) (fun iv _ => h.length - (intOf iv).toNat)
          case atStart => exact ⟨0, Nat.zero_le _, rfl, bl_refl _⟩
          case round =>
            obtain ⟨i, hi, rfl, hbr⟩ := hrel
            by_cases hlt : i < h.length
            · obtain ⟨bn, on, rfl, hbn, c0, c1', c2', c3⟩ := (HHs.out.below hbr).entry hlt
              have hi1 : (i : Int) < h.length := by omega
              have kq := Lib.hid (kP.out i hlt)
              obtain ⟨y, hy⟩ : ∃ y, y = nth h i := ⟨_, rfl⟩
              rw [← hy] at c0 c1' c2' c3 kq
              clear hy
              obtain ⟨wi, hwi⟩ : ∃ W, W = wr := ⟨_, rfl⟩
              subst hwi
              have hbx : Below wi.heap.size wi (wi.alloc (.cells #[.int .i64 y.Room, .int .i64 y.Number, .int .i64 y.Minute, .string y.Text] 40)) := bl_alloc (bl_refl _) _
              go_wp2_with fail
              refine (kq.out _ (HHs.out.below (bl_trans hbr hbx))).mono ?_
              rintro e VX ⟨rfl, hbv⟩
              have hbq := bl_trans hbr (bl_trans hbx hbv)
              clear hbx hbv c0 c1' c2' c3 kq
              go_wp2
              go_roundw
              case rel => exact ⟨i + 1, by omega, by go_num, hbq⟩
              case measure => simp [intOf]; omega
            · have hni : ¬ ((i : Int) < h.length) := by omega
              have hnn : decide (i < h.length) = false := decide_eq_false hlt
              have hb9 := bl_trans hRel hbr
              go_wp2
              go_ret
              exact ⟨rfl, hb9⟩
instance : Ok Byt := ⟨fun x => 0 ≤ x.v ∧ x.v ≤ 255⟩
theorem opens_u8 {P : Program} {t : TypeId} (ht : P.underlying t = some (.int .u8)) : Opens P t Byt := fun h => by
  obtain ⟨n, rfl, _, hw⟩ := DataW.trod_int ht h
  exact ⟨⟨n⟩, rfl, by simpa [Ok.ok, Lit.wf, IntKind.min, IntKind.max, IntKind.signed, IntKind.bits] using hw⟩

open Go.WideShapes Go.ChangeShapes Go.ChangeAt
theorem own_ : ownKnob Tryz.prog.godebug = none := by kernel_rfl
theorem laid_ : laidOutB Tryz.prog = true := by kernel_rfl
theorem of_change_and_shaped {H : Type} {enc : TypeId × Value → H} {a : Assume} {C : Checked} {os : Os} {f : FuncId} {fn : Func} {s : ChangeSpec} {conds : List PathCond} {apart fresh handsOn again : Bool} {X : World → Array Value → Prop}
    (hX : ∀ (w w' : World) (args : Array Value), w.heap = w'.heap → X w args → X w' args)
    (own : ownKnob C.prog.godebug = none) (started : os.Started) (noInit : C.prog.inits.idxOf? f = none) (hfn : C.prog.funcs[f]? = some fn)
    (witness : ∃ (w : World) (tape : Tape) (i : Input), w.os = os ∧ (w.forCall tape i).Shaped C.prog ∧ i.vars = [] ∧ Input.okWide C.prog (w.forCall tape i) .any w.heap.size f i ∧
      ((s.pre enc C.prog fn conds apart (w.forCall tape i).memory i.args ∧ X (w.forCall tape i).memory i.args) ∧ sizedMet enc C.prog fn (OpenSpec.ofChange s) apart (w.forCall tape i).memory i.args) ∧ a.holds C.prog (lone (Frame.enter C.prog f i.args .normal) [] (w.forCall tape i)))
    (contract : ∀ (W : World) (base : Nat) (args : Array Value) (ds gs : List (DataW H)) (before : List MemPlace),
      (∀ (j : Nat) t v, fn.params[j]? = some t → args[j]? = some v → Value.okWide C.prog W .any base t v) →
      DataW.Whole enc C.prog fn.params.toList s.vars apart W args.toList ds gs before → X W args → W.ShapedOpen C.prog →
      Calls C.prog f args W fun e W' => ∃ v, e = .returned v ∧ s.post enc C.prog fn apart fresh handsOn again W args v W') :
    ReturnsInHanded a C os f .any (fun w args => (s.pre enc C.prog fn conds apart w args ∧ X w args) ∧ sizedMet enc C.prog fn (OpenSpec.ofChange s) apart w args) (s.post enc C.prog fn apart fresh handsOn again) := by
  refine returnsInHanded_of_calls own started noInit witness ?_
  intro w tape i _ hsh _ hok hpre hholds
  obtain ⟨_, _, _, fn', hfn', _, _, _, _, hval⟩ := hok
  have e : fn' = fn := Option.some.inj (hfn'.symm.trans hfn)
  subst e
  obtain ⟨⟨⟨ds, gs, before, hw, _⟩, hx⟩, _⟩ := hpre
  have hw' := DataW.Whole.of_heap (w' := w.forCall tape i) (by rfl) hw
  refine (contract (w.forCall tape i) w.heap.size i.args ds gs before hval hw' (hX _ _ _ (by rfl) hx) hsh).mono fun e W' ⟨v, he, hp⟩ => ?_
  subst he
  exact ChangeSpec.post_blind hp
set_option maxRecDepth 100000 in
theorem contract_ (H : Type) (enc : TypeId × Value → H) (W : World) (base : Nat) (args : Array Value) (ds gs : List (DataW H)) (before : List MemPlace)
    (hval : ∀ (j : Nat) t v, Tryz.f3.params[j]? = some t → args[j]? = some v → Value.okWide Tryz.prog W .any base t v)
    (hW : DataW.Whole enc Tryz.prog Tryz.f3.params.toList Rows.fnHistoriesSpec.vars false W args.toList ds gs before) (hL : laidMetH Tryz.prog Rows.fnHistoriesRow.laid W) (_hS : W.ShapedOpen Tryz.prog) :
    Calls Tryz.prog 3 args W fun e W' => ∃ v, e = .returned v ∧ Rows.fnHistoriesSpec.post enc Tryz.prog Tryz.f3 false true false false W args v W' := by
  have hW' := hW
  obtain ⟨p, q, hA0, hV, rfl, hfz, hnd⟩ := hW
  have hA : DataW.TrodAll enc Tryz.prog W 0 (fun _ => true) true Tryz.f3.params.toList args.toList ds p := hA0
  rw [Tryz.params3] at hA hval
  obtain ⟨v0, vs0, d0, ds0, p0, q0, hargs, rfl, rfl, h0, r0⟩ := trodAll_cons hA
  obtain ⟨v1, vs1, d1, ds1, p1, q1, rfl, rfl, rfl, h1, r1⟩ := trodAll_cons r0
  obtain ⟨rfl, rfl, rfl⟩ := trodAll_nil r1
  obtain rfl : args = #[v0, v1] := by cases args; simp_all
  obtain ⟨rfl, rfl⟩ := trodVars_none hV
  obtain ⟨A0, n0, c0, rfl⟩ := okWide_slice Tryz.underlying22 (hval 0 _ v0 rfl rfl)
  obtain ⟨fuel0, h0⟩ := h0
  obtain ⟨x0, ⟨A0', c0', e0, hs0, hm0⟩, ho0⟩ := opens_slice Tryz.underlying22 (by kernel_rfl) ((opens_u8 Tryz.underlying5)) h0
  obtain ⟨rfl, rfl, rfl⟩ : A0 = A0' ∧ n0 = x0.length ∧ c0 = c0' := by simpa [Value.cells] using e0
  have hm0 : (x0.length : Int) ≤ 9223372036854775807 := by unfold maxLen at hm0; omega
  obtain ⟨A1, n1, c1, rfl⟩ := okWide_slice Tryz.underlying22 (hval 1 _ v1 rfl rfl)
  obtain ⟨fuel1, h1⟩ := h1
  obtain ⟨x1, ⟨A1', c1', e1, hs1, hm1⟩, ho1⟩ := opens_slice Tryz.underlying22 (by kernel_rfl) ((opens_u8 Tryz.underlying5)) h1
  obtain ⟨rfl, rfl, rfl⟩ : A1 = A1' ∧ n1 = x1.length ∧ c1 = c1' := by simpa [Value.cells] using e1
  have hm1 : (x1.length : Int) ≤ 9223372036854775807 := by unfold maxLen at hm1; omega
  refine (walk A0 _ c0 x0 A1 _ c1 x1 W (tab_of hL) ⟨hs0, hm0, ho0⟩ ⟨hs1, hm1, ho1⟩).mono fun e W' ⟨he, hb⟩ => ?_
  exact ⟨_, he, post_law laid_ Tryz.underlying4 rfl rfl (by kernel_rfl) ⟨rfl, rfl, rfl⟩ hW' hb⟩

set_option maxRecDepth 100000 in
theorem lifted_ (os : Os) (started : os.Started) (H : Type) (enc : TypeId × Value → H) :
    ReturnsInHanded {} Tryz.checked os 3 .any (fun w args => (Rows.fnHistoriesSpec.pre enc Tryz.prog Tryz.f3 [] false w args ∧ laidMetH Tryz.prog Rows.fnHistoriesRow.laid w) ∧ sizedMet enc Tryz.prog Tryz.f3 (OpenSpec.ofChange Rows.fnHistoriesSpec) false w args) (Rows.fnHistoriesSpec.post enc Tryz.prog Tryz.f3 false true false false) := by
  refine of_change_and_shaped (C := Tryz.checked) (X := fun w _ => laidMetH Tryz.prog Rows.fnHistoriesRow.laid w) (fun _ _ _ hh h => h.of_heap hh) own_ started (by kernel_rfl) Tryz.func3
    (ChangeSpec.witness_shaped (enc := enc) (C := Tryz.checked) (os := os) (X := fun w _ => laidMetH Tryz.prog Rows.fnHistoriesRow.laid w) false (World.laidAll Tryz.prog os Rows.fnHistoriesRow.laid) #[.slice none 0 0, .slice none 0 0] 8 (World.laidAll_os _ _ _)
      (World.shaped_of_ZipB (by kernel_rfl) (by kernel_rfl)) (by kernel_rfl) (by kernel_rfl) (by kernel_rfl)
      (by rw [MakeChecks.laidMetH_plain _ _ _ (by kernel_rfl)]; exact laidMet_laidAll _ (by kernel_rfl) (by kernel_rfl))) ?_
  intro W base args ds gs before hval0 hW hL hS
  exact contract_ H enc W base args ds gs before hval0 hW hL hS

theorem said : Rows.FnHistoriesSaid :=
  OpenClaim.holds_of_wide 3 Tryz.f3 rfl rfl rfl rfl rfl rfl rfl ⟨rfl, rfl, rfl, rfl, rfl⟩ rfl rfl rfl rfl rfl (by kernel_rfl) Tryz.func3 (by kernel_rfl)
    (of_decide_eq_true (by kernel_rfl)) (by unfold Func.isWrapper; first | (rw [if_pos (by decide +kernel)]; kernel_rfl) | (rw [if_neg (by decide +kernel)]; exact ⟨rfl, rfl⟩))
    (fun os started H enc _ => lifted_ os started H enc)
/-- No parameter wants a stand-in. -/
theorem plain (f : FuncId) (fn : Func) (hf : Tryz.pinned.checked.prog.funcNamed "loop.example/g01020/laws.FnHistories" = some f) (hfn : Tryz.pinned.checked.prog.funcs[f]? = some fn) :
    false = Tryz.pinned.checked.prog.looks [] ∧ ∀ (j : Nat) t, fn.params[j]? = some t → Tryz.pinned.checked.prog.wantsStandIn t = false := by
  obtain rfl : f = 3 := Option.some.inj ((show Tryz.prog.funcNamed "loop.example/g01020/laws.FnHistories" = some 3 by kernel_rfl).symm.trans hf) |>.symm
  obtain rfl : fn = Tryz.f3 := (Option.some.inj (Tryz.func3.symm.trans hfn)).symm
  refine ⟨by kernel_rfl, fun j t ht => ?_⟩
  have hall : (Tryz.f3.params.toList.all fun u => !Tryz.prog.wantsStandIn u) = true := by kernel_rfl
  have hm : t ∈ Tryz.f3.params.toList := by simpa using Array.mem_of_getElem? ht
  exact (show Tryz.prog.wantsStandIn t = false by simpa using List.all_eq_true.1 hall t hm)
theorem proved : Rows.FnHistoriesCardSaid :=
  Claim7.holds_tied_plain_at .later [] _ _ _ _ said (fun _ h => by cases h) (by kernel_rfl) (fun _ h => by cases h) fnHistories_row_tie rfl ⟨rfl, rfl⟩ (by kernel_rfl) rfl plain (by kernel_rfl)

end Go.Proofs.YtfglmghcgoembaaGreatDoor.lawHistories
