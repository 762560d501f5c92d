/-
  QualifiedFor: both texts answer qforF. No conditions.
-/
import Derived.Test.YtiekmpbdlncgdaaQforP
namespace Go.Proofs.Ytiekmpbdlncgdaa
open Go.RowKit

theorem enters_qF : Enters Try.prog 79 := enters_of Try.func79 (by kernel_rfl) (by kernel_rfl)
theorem pred_qF (w : World) (a b : Addr) (C : Nat) (l : List Skill) (A : Option Addr) (n c : Nat) (person : ByteArray) (day : Int) (hn : (n : Int) ≤ 9223372036854775807) (ha : w.cell? a = some (.slice A n c)) (hl : Sl w A n l) (hb : w.cell? ⟨C, 0, none⟩ = some (.string person)) (hc : w.cell? b = some (.int .i64 day)) (ks : List Int) :
    Pred Try.prog w [] ks 79 (fun x : Int => Value.int .i64 x) #[.pointer (some a), .pointer (some ⟨C, 0, none⟩), .pointer (some b)] (fun k => !hasB l person k day) := by
  intro W x _ hb0
  have hbb := hb0.nil_below
  have ha' := cell_later hbb ha
  have hb' := cell_later hbb hb
  have hc' := cell_later hbb hc
  have hl' := hl.below hbb
  clear ha hb hc hl hbb hb0
  show Calls _ _ #[.int .i64 x, .pointer (some a), .pointer (some ⟨C, 0, none⟩), .pointer (some b)] W _
  go_enter Try.func79, Try.ntmps79
  go_wp2_with fail
  refine (isQualified_any l person x day _ _ _ _ hn hl').mono ?_
  rintro e V ⟨rfl, hV⟩
  go_wp2
  go_ret
  exact ⟨rfl, hV⟩
set_option maxRecDepth 100000 in
set_option maxHeartbeats 8000000 in
theorem specQualifiedFor_any (xs : List Skill) (kinds : List Int) (day : Int) (A B : Option Addr) (n c m d : Nat) (w : World) (hn : (n : Int) ≤ 9223372036854775807) (hm : (m : Int) ≤ 9223372036854775807) (hs : Sl w A n xs) (ht : Sl w B m kinds) (hv : ∀ x, x ∈ xs → x.Person.size ≤ maxLen) :
    Calls Try.prog 35 #[.slice A n c, .slice B m d, .int .i64 day] w (RetOwn2 w 9 (qforF xs kinds day)) := by
  have HV := Lib.hid hv
  have HL := Lib.hid hs.1
  have HK := Lib.hid ht.1
  clear hv
  go_enter Try.func35, Try.ntmps35
  have hk0 := bl_refl w
  go_wp2_with fail
  refine (drGood_any xs _ _ _ _ hn hs HV.out).mono ?_
  rintro e V1 ⟨rfl, hb1⟩
  have hB1 := bl_trans (a := w) (bl_refl _) hb1
  have hk1 := bl_trans hk0 hB1
  have z1 := Lib.hid hB1.size
  cases h0 : skillsB xs
  · have Hz := Lib.hid (qforF_no (xs := xs) (kinds := kinds) (day := day) (by rw [h0]; first | done | simp))
    clear h0
    go_wp2
    go_ret2
    exact retOwn2_mk Hz.out (Own.nil _ _ _) hk1
  have H0 := Lib.hid h0
  clear h0
  go_wp2_with fail
  refine (l1In_any (m : Int) 1 6 _).mono ?_
  rintro _ V1 ⟨rfl, rfl⟩
  cases h1 : inB (m : Int) 1 6
  · have Hz := Lib.hid (qforF_no (xs := xs) (kinds := kinds) (day := day) (by rw [HK.out]; rw [h1]; first | done | simp))
    clear h1
    go_wp2
    go_ret2
    exact retOwn2_mk Hz.out (Own.nil _ _ _) hk1
  have H1 := Lib.hid h1
  clear h1
  go_wp2_with fail
  refine (l1Rising_any kinds _ _ _ _ hm (ht.below hk1)).mono ?_
  rintro _ V1 ⟨rfl, rfl⟩
  cases h2 : risingB kinds
  · have Hz := Lib.hid (qforF_no (xs := xs) (kinds := kinds) (day := day) (by rw [h2]; first | done | simp))
    clear h2
    go_wp2
    go_ret2
    exact retOwn2_mk Hz.out (Own.nil _ _ _) hk1
  have H2 := Lib.hid h2
  clear h2
  go_wp2_with fail
  refine (drDay_any day _).mono ?_
  rintro _ V1 ⟨rfl, rfl⟩
  cases h3 : inB day 0 20000
  · have Hz := Lib.hid (qforF_no (xs := xs) (kinds := kinds) (day := day) (by rw [h3]; first | done | simp))
    clear h3
    go_wp2
    go_ret2
    exact retOwn2_mk Hz.out (Own.nil _ _ _) hk1
  have H3 := Lib.hid h3
  clear h3
  have hn2 : n ≤ 24 := by have := skillsB_len H0.out; have := HL.out; omega
  obtain ⟨m0, m1⟩ := inB_iff.1 H1.out
  have Hz := Lib.hid (qforF_yes (xs := xs) (kinds := kinds) (day := day) (by rw [H0.out, HK.out, H1.out, H2.out, H3.out]; rfl))
  go_wp2
  go_loopw [8, 35] (fun v i wr => ∃ (k q c' : Nat) (A' : Option Addr), k ≤ n ∧ i = .int .i64 k ∧ v = .slice A' q c' ∧ q ≤ k ∧ Own wr w.heap.size 9 (.slice A' q c') (qualL xs kinds day (xs.take k)) ∧ Hid (GoodO xs k (qualL xs kinds day (xs.take k))) ∧ Below w.heap.size w wr) (fun _ i _ => n - (intOf i).toNat)
  case atStart => exact ⟨0, 0, 0, none, Nat.zero_le _, rfl, rfl, Nat.le_refl _, Own.nil _ _ _, good_start xs, hk1⟩
  case round =>
    obtain ⟨k, q, c', A', hk, rfl, rfl, hq, ho, hg, hb⟩ := hrel
    by_cases hlt : k < n
    · obtain ⟨wo, rfl⟩ : ∃ wo : World, wo = wr := ⟨_, rfl⟩
      obtain ⟨b, o, rfl, hbz, c0, c1, c2⟩ := (hs.below hb).skill hlt
      have hkx : Hid (k < xs.length) := by rw [Hid, HL.out]; exact hlt
      have hs' := Lib.hid hs
      have ht' := Lib.hid ht
      clear hs ht
      go_wp2
      go_loopw [11, 41] (fun u i wr => ∃ (j : Nat) (t : Bool), j ≤ m ∧ i = .int .i64 j ∧ u = .bool t ∧ Hid (t = (kinds.take j).all (fun kd => hasB xs (nth xs k).Person kd day)) ∧ wr.cell? ⟨wo.heap.size, 0, none⟩ = some (.string (nth xs k).Person) ∧ Below wo.heap.size wo wr) (fun _ i _ => m - (intOf i).toNat)
      case atStart => exact ⟨0, true, Nat.zero_le _, rfl, rfl, rfl, by go_simp, bl_alloc (bl_refl _) _⟩
      case round =>
        obtain ⟨j, t, hj, rfl, rfl, hT, x0, hb2⟩ := hrel
        have hwz : wo.heap.size < wr.heap.size := World.block_lt_of_cell? wr _ x0
        clear c0 c1 c2
        by_cases hjm : j < m
        · obtain ⟨b', o', rfl, _, d0⟩ := (ht'.out.below (bl_trans hb hb2)).int hjm
          have hjx : Hid (j < kinds.length) := by rw [Hid, HK.out]; exact hjm
          cases t
          · have hT2 : Hid (false = (kinds.take (j + 1)).all (fun kd => hasB xs (nth xs k).Person kd day)) := by rw [Hid, all_take_succ hjx.out, ← hT.out]; rfl
            go_wp2
            go_roundw
            case rel => exact ⟨j + 1, false, by omega, by go_num, rfl, hT2.out, x0, hb2⟩
            case measure => simp [intOf]; omega
          · have hT2 : Hid (hasB xs (nth xs k).Person (nth kinds j) day = (kinds.take (j + 1)).all (fun kd => hasB xs (nth xs k).Person kd day)) := by rw [Hid, all_take_succ hjx.out, ← hT.out]; rfl
            go_wp2_with fail
            refine (drHas_any xs (nth xs k).Person (nth kinds j) day _ _ _ _ hn (hs'.out.below (bl_trans hb hb2))).mono ?_
            rintro e V ⟨rfl, hV⟩
            have x1 := cell_later hV x0
            clear x0 d0
            go_wp2
            go_roundw
            case rel => exact ⟨j + 1, hasB xs (nth xs k).Person (nth kinds j) day, by omega, by go_num, rfl, hT2.out, x1, bl_trans hb2 hV⟩
            case measure => simp [intOf]; omega
        · obtain rfl : j = m := by omega
          have hT2 : Hid (t = qualP xs kinds day (nth xs k).Person) := by rw [Hid, hT.out, List.take_of_length_le (by rw [HK.out]; exact Nat.le_refl _)]; rfl
          have hbV := bl_trans hb hb2
          have hoV := ho.below hb2
          clear ho
          cases t
          · have hp := Lib.hid (addP_no (xs := xs) (kinds := kinds) (day := day) (out := qualL xs kinds day (xs.take k)) (x := nth xs k) (.inl hT2.out.symm))
            go_wp2
            go_roundw
            case rel => exact ⟨k + 1, q, c', A', by omega, by go_num, rfl, by omega, by rw [qualL_succ hkx.out, hp.out]; exact hoV, by rw [Hid, qualL_succ hkx.out]; exact hg.out.add H0.out hkx.out, hbV⟩
            case measure => simp [intOf]; omega
          · have hql := Lib.hid hoV.sl.1
            obtain ⟨hqc, hcm⟩ := hoV.cap
            unfold maxLen at hcm
            cases hh : hasS (qualL xs kinds day (xs.take k)) (nth xs k).Person
            · have hp := Lib.hid (addP_yes (x := nth xs k) hT2.out.symm hh)
              have hlo := hg.out.less H0.out hkx.out hh
              rw [hql.out] at hlo
              have hll := Lib.hid hlo
              clear hlo hh
              go_wp2_with fail
              refine (rfPut_new (qualL xs kinds day (xs.take k)) (nth xs k).Person _ _ _ _ (by omega) hqc (by omega) hoV.sl hll.out).mono ?_
              rintro e V ⟨A2, c2, rfl, ho2, hV⟩
              have hl2 : (qualL xs kinds day (xs.take k) ++ [(nth xs k).Person]).length = q + 1 := by rw [List.length_append, hql.out]; rfl
              rw [hl2] at ho2 ⊢
              have ho3 := ho2.mono hbV.size
              have hk3 := bl_trans hbV hV
              clear ho2 hoV hl2 hV
              go_wp2
              go_roundw
              case rel => exact ⟨k + 1, q + 1, c2, A2, by omega, by go_num, rfl, by omega, by rw [qualL_succ hkx.out, hp.out]; exact ho3, by rw [Hid, qualL_succ hkx.out]; exact hg.out.add H0.out hkx.out, hk3⟩
              case measure => simp [intOf]; omega
            · have hp := Lib.hid (addP_no (xs := xs) (kinds := kinds) (day := day) (x := nth xs k) (.inr hh))
              obtain ⟨r, hr, hlo, he⟩ := hg.out.hit hh
              rw [hql.out] at hr
              have hll := Lib.hid hlo
              have hee := Lib.hid he
              clear hlo hh he
              go_wp2_with fail
              refine (rfPut_hit (qualL xs kinds day (xs.take k)) (nth xs k).Person _ _ _ r _ (by omega) hoV.sl hr hll.out hee.out).mono ?_
              rintro e wr ⟨rfl, rfl⟩
              go_wp2
              go_roundw
              case rel => exact ⟨k + 1, q, c', A', by omega, by go_num, rfl, by omega, by rw [qualL_succ hkx.out, hp.out]; exact hoV, by rw [Hid, qualL_succ hkx.out]; exact hg.out.add H0.out hkx.out, hbV⟩
              case measure => simp [intOf]; omega
    · obtain rfl : k = n := by omega
      have hfin : Hid (qualL xs kinds day (xs.take k) = qualL xs kinds day xs) := by rw [Hid, List.take_of_length_le (by rw [HL.out]; exact Nat.le_refl _)]
      rw [hfin.out] at ho
      go_wp2
      go_ret2
      exact retOwn2_mk Hz.out ho hb
set_option maxRecDepth 100000 in
set_option maxHeartbeats 8000000 in
theorem implQualifiedFor_any (xs : List Skill) (kinds : List Int) (day : Int) (A B : Option Addr) (n c m d : Nat) (w : World) (hn : (n : Int) ≤ 9223372036854775807) (hm : (m : Int) ≤ 9223372036854775807) (hs : Sl w A n xs) (ht : Sl w B m kinds) (hv : ∀ x, x ∈ xs → x.Person.size ≤ maxLen) :
    Calls Try.prog 37 #[.slice A n c, .slice B m d, .int .i64 day] w (RetOwn2 w 9 (qforF xs kinds day)) := by
  have HV := Lib.hid hv
  have HL := Lib.hid hs.1
  have HK := Lib.hid ht.1
  clear hv
  go_enter Try.func37, Try.ntmps37
  have hk0 := bl_refl w
  go_wp2_with fail
  refine (areSkills_any xs _ _ _ _ hn (hs.below (bl_trans hk0 (by repeat' (first | exact bl_refl _ | refine bl_alloc ?_ _ | refine bl_drew ?_ | refine bl_drewN ?_ _ | refine bl_set ?_ ?_ _ | (simp; done) | (simp; omega))))) HV.out).mono ?_
  rintro e V1 ⟨rfl, hb1⟩
  have hB1 := bl_trans (a := w) (by repeat' (first | exact bl_refl _ | refine bl_alloc ?_ _ | refine bl_drew ?_ | refine bl_drewN ?_ _ | refine bl_set ?_ ?_ _ | (simp; done) | (simp; omega))) hb1
  have hk1 := bl_trans hk0 hB1
  have z1 : Hid (w.heap.size + 2 ≤ V1.heap.size) := by have := hb1.size; simp only [World.size_alloc] at this; exact (by omega : _)
  have bl_0_1 : V1.cell? ⟨w.heap.size, 0, none⟩ = some (.slice A n c) := cell_later hb1 (by go_simp)
  have ll_1 : w.heap.size < V1.heap.size := World.block_lt_of_cell? _ _ bl_0_1
  have bd_0_1 : V1.cell? ⟨w.heap.size + 1, 0, none⟩ = some (.int .i64 day) := cell_later hb1 (by go_simp)
  have ld_1 : w.heap.size + 1 < V1.heap.size := World.block_lt_of_cell? _ _ bd_0_1
  cases h0 : skillsB xs
  · have Hz := Lib.hid (qforF_no (xs := xs) (kinds := kinds) (day := day) (by rw [h0]; first | done | simp))
    clear h0
    go_wp2
    go_ret2
    exact retOwn2_mk Hz.out (Own.nil _ _ _) hk1
  have H0 := Lib.hid h0
  clear h0
  go_wp2_with fail
  refine (inside_any (m : Int) 1 6 _).mono ?_
  rintro _ V1 ⟨rfl, rfl⟩
  cases h1 : inB (m : Int) 1 6
  · have Hz := Lib.hid (qforF_no (xs := xs) (kinds := kinds) (day := day) (by rw [HK.out]; rw [h1]; first | done | simp))
    clear h1
    go_wp2
    go_ret2
    exact retOwn2_mk Hz.out (Own.nil _ _ _) hk1
  have H1 := Lib.hid h1
  clear h1
  go_wp2_with fail
  refine (isDay_any day _).mono ?_
  rintro _ V1 ⟨rfl, rfl⟩
  cases h2 : inB day 0 20000
  · have Hz := Lib.hid (qforF_no (xs := xs) (kinds := kinds) (day := day) (by rw [h2]; first | done | simp))
    clear h2
    go_wp2
    go_ret2
    exact retOwn2_mk Hz.out (Own.nil _ _ _) hk1
  have H2 := Lib.hid h2
  clear h2
  have hn2 : n ≤ 24 := by have := skillsB_len H0.out; have := HL.out; omega
  obtain ⟨m0, m1⟩ := inB_iff.1 H1.out
  go_wp2
  go_loop [29] (fun i => ∃ k : Nat, k ≤ m ∧ i = .int .i64 k ∧ Hid (∀ j, j < k → okKd kinds j = true)) (fun i => m - (intOf i).toNat)
  case atStart => exact ⟨0, Nat.zero_le _, rfl, fun j hj => absurd hj (by omega)⟩
  case round =>
    obtain ⟨k, hk, rfl, hg⟩ := hrel
    by_cases hlt : k < m
    · have ht0 := Lib.hid ht
      have ht := ht.below hk1
      clear hs ht0
      obtain ⟨b, o, rfl, _, c0⟩ := ht.int hlt
      have hkx : Hid (k < kinds.length) := by rw [Hid, HK.out]; exact hlt
      cases g0 : inB (nth kinds k) 0 5
      · have G0 := Lib.hid g0
        clear ht
        go_wp2_with (go_at_call 58; refine (isKind_any _ _).mono ?_; rintro e VV ⟨rfl, rfl⟩)
        have Hz := Lib.hid (qforF_no (xs := xs) (kinds := kinds) (day := day) (by rw [risingB_no hkx.out (okKd_0 G0.out)]; simp))
        go_ret2
        exact retOwn2_mk Hz.out (Own.nil _ _ _) hk1
      have G0 := Lib.hid g0
      by_cases hk0 : 0 < k
      · obtain ⟨b', o', e', _, d0⟩ := ht.int (k := k - 1) (by omega)
        injection e' with e'
        injection e' with e1 e2
        subst e1 e2
        clear ht
        have hkd : decide ((k : Int) > 0) = true := by simpa using hk0
        have i2 : 0 ≤ (k : Int) - 1 := by omega
        have i4 : (k : Int) - 1 < m := by omega
        have i1 : IntKind.i64.wrap ((k : Int) - 1) = (k : Int) - 1 := IntWalk.i64_in _ (by omega)
        have i3 : ((k : Int) - 1).toNat = k - 1 := by omega
        by_cases go : nth kinds (k - 1) ≥ nth kinds k
        · have go2 : decide (nth kinds (k - 1) ≥ nth kinds k) = true := by simpa using go
          go_wp2_with (go_at_call 58; refine (isKind_any _ _).mono ?_; rintro e VV ⟨rfl, rfl⟩)
          have Hz := Lib.hid (qforF_no (xs := xs) (kinds := kinds) (day := day) (by rw [risingB_no hkx.out (okKd_1 hk0 go)]; simp))
          go_ret2
          exact retOwn2_mk Hz.out (Own.nil _ _ _) hk1
        · have go2 : decide (nth kinds (k - 1) ≥ nth kinds k) = false := by simpa using go
          go_wp2_with (go_at_call 58; refine (isKind_any _ _).mono ?_; rintro e VV ⟨rfl, rfl⟩)
          go_round
          case rel => exact ⟨k + 1, by omega, by go_num, upto_succ hg (okKd_y G0.out (.inr (by omega)))⟩
          case measure => simp [intOf]; omega
      · have hkd : decide ((k : Int) > 0) = false := by simp; omega
        clear ht
        go_wp2_with (go_at_call 58; refine (isKind_any _ _).mono ?_; rintro e VV ⟨rfl, rfl⟩)
        go_round
        case rel => exact ⟨k + 1, by omega, by go_num, upto_succ hg (okKd_y G0.out (.inl hk0))⟩
        case measure => simp [intOf]; omega
    · obtain rfl : k = m := by omega
      have hris : Hid (risingB kinds = true) := risingB_all (by rw [HK.out]; exact hg.out)
      have Hz := Lib.hid (qforF_yes (xs := xs) (kinds := kinds) (day := day) (by rw [H0.out, HK.out, H1.out, hris.out, H2.out]; rfl))
      have ht' := Lib.hid ht
      clear ht
      go_wp2
      go_loopw [10, 53] (fun v i wr => ∃ (k q c' : Nat) (A' : Option Addr), k ≤ n ∧ i = .int .i64 k ∧ v = .slice A' q c' ∧ q ≤ k ∧ Own wr V1.heap.size 9 (.slice A' q c') (qualL xs kinds day (xs.take k)) ∧ Below V1.heap.size V1 wr) (fun _ i _ => n - (intOf i).toNat)
      case atStart => exact ⟨0, 0, 0, none, Nat.zero_le _, rfl, rfl, Nat.le_refl _, Own.nil _ _ _, bl_refl _⟩
      case round =>
        obtain ⟨j, q, c', A', hj, rfl, rfl, hq, ho, hb⟩ := hrel
        have hbw := bl_trans hk1 hb
        by_cases hlt2 : j < n
        · obtain ⟨b, o, rfl, hbz, c0, c1, c2⟩ := (hs.below hbw).skill hlt2
          have hjx : Hid (j < xs.length) := by rw [Hid, HL.out]; exact hlt2
          have hs' := Lib.hid hs
          have l0 := cell_later hb bl_0_1
          have d0 := cell_later hb bd_0_1
          have hql := Lib.hid ho.sl.1
          obtain ⟨wo, rfl⟩ : ∃ wo : World, wo = wr := ⟨_, rfl⟩
          clear hs
          go_wp2_with fail
          refine (containsS_any (qualL xs kinds day (xs.take j)) (nth xs j).Person _ _ _ _ (by omega) (ho.sl.below (bl_alloc (bl_refl _) _))).mono ?_
          rintro e V3 ⟨rfl, rfl⟩
          cases hh : hasS (qualL xs kinds day (xs.take j)) (nth xs j).Person
          · have Hh := Lib.hid hh
            clear hh
            go_wp2_with fail
            refine (containsFunc_int kinds _ _ _ _ _ (fun kd => !hasB xs (nth xs j).Person kd day) _ (by omega) (ht'.out.below (bl_alloc hbw _)) enters_qF _ (pred_qF _ _ _ _ xs _ _ _ (nth xs j).Person day hn (cell_later (bl_alloc (bl_refl wo) _) l0) (hs'.out.below (bl_alloc hbw _)) (by go_simp) (cell_later (bl_alloc (bl_refl wo) _) d0) kinds)).mono ?_
            rintro e V4 ⟨rfl, hV4⟩
            have hB4 := bl_trans (bl_alloc (bl_refl wo) (.cells #[.string (nth xs j).Person, .int .i64 (nth xs j).Kind, .int .i64 (nth xs j).Until] 65)) hV4
            have hb4 := bl_trans hb hB4
            have ho4 := ho.below hB4
            have p0 : V4.cell? ⟨wo.heap.size, 0, none⟩ = some (.string (nth xs j).Person) := cell_later hV4 (by go_simp)
            have hwz : wo.heap.size < V4.heap.size := World.block_lt_of_cell? V4 _ p0
            have HA : Hid ((!kinds.any (fun kd => !hasB xs (nth xs j).Person kd day)) = qualP xs kinds day (nth xs j).Person) := all_not_any _ _
            clear ho c0 c1 c2 l0 d0
            cases ha : kinds.any (fun kd => !hasB xs (nth xs j).Person kd day)
            · have hp := Lib.hid (addP_yes (x := nth xs j) (by rw [← HA.out, ha]; rfl) Hh.out)
              clear ha
              go_wp2_with ((at_builtin; refine wpList_app1g rfl (.tmp 68) (.tmp 71) _ _ rfl el_str (nth xs j).Person rfl ho4 hb4 rfl (by simp) (by omega) ?_; intro A2 c2 w2 ho2 hb2 hg2))
              go_roundw
              case rel => exact ⟨j + 1, q + 1, c2, A2, by omega, by go_num, rfl, by omega, by rw [qualL_succ hjx.out, hp.out]; exact ho2, hb2⟩
              case measure => simp [intOf]; omega
            · have hp := Lib.hid (addP_no (xs := xs) (kinds := kinds) (day := day) (out := qualL xs kinds day (xs.take j)) (x := nth xs j) (.inl (by rw [← HA.out, ha]; rfl)))
              clear ha
              go_wp2
              go_roundw
              case rel => exact ⟨j + 1, q, c', A', by omega, by go_num, rfl, by omega, by rw [qualL_succ hjx.out, hp.out]; exact ho4, hb4⟩
              case measure => simp [intOf]; omega
          · have hp := Lib.hid (addP_no (xs := xs) (kinds := kinds) (day := day) (x := nth xs j) (.inr hh))
            clear hh
            go_wp2
            go_roundw
            case rel => exact ⟨j + 1, q, c', A', by omega, by go_num, rfl, by omega, by rw [qualL_succ hjx.out, hp.out]; exact ho.alloc _, bl_alloc hb _⟩
            case measure => simp [intOf]; omega
        · obtain rfl : j = n := by omega
          have hfin : Hid (qualL xs kinds day (xs.take j) = qualL xs kinds day xs) := by rw [Hid, List.take_of_length_le (by rw [HL.out]; exact Nat.le_refl _)]
          rw [hfin.out] at ho
          go_wp2
          go_ret2
          exact retOwn2_mk Hz.out (ho.mono hk1.size) hbw

end Go.Proofs.Ytiekmpbdlncgdaa
