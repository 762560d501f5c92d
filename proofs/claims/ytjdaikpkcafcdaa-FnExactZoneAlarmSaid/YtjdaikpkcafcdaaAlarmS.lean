/-
  The reference's alarm of a zone answers alarmS. Conditions: the signals are valid.
-/
import Derived.Test.YtjdaikpkcafcdaaAlarmP
namespace Go.Proofs.Ytjdaikpkcafcdaa
open Go.RowKit
set_option maxHeartbeats 4000000 in
theorem alAlarm_any (l : List Det) (ss : List Sig) (zone within : Int) (A B : Option Addr) (n c m d : Nat) (w : World) (hn : (n : Int) ≤ 9223372036854775807) (hm : m ≤ 1048576) (hl : Sl w A n l) (hs : Sl w B m ss) (hv : sigsB ss = true) :
    Calls Try.prog 49 #[.slice A n c, .slice B m d, .int .i64 zone, .int .i64 within] w fun e w' => e = .returned (.int .i64 (alarmS l ss zone within)) ∧ Below w.heap.size w w' := by
  have HL := Lib.hid hl.1
  have HV := Lib.hid (fun (s : Sig) (h : s ∈ liveL l ss) => live_ok (l := l) hv h)
  have HLL : Hid ((liveL l ss).length ≤ 1048576) := Nat.le_trans (List.length_filter_le _ _) (by rw [hs.1]; exact hm)
  clear hv
  go_enter Try.func49, Try.ntmps49
  go_wp2_with fail
  refine (alLive_any l ss _ _ _ _ _ _ _ hn hm hl hs).mono ?_
  rintro e V0 ⟨A0, c0, rfl, ho0, hb0⟩
  obtain ⟨xs, hxs⟩ : ∃ xs, xs = liveL l ss := ⟨_, rfl⟩
  rw [← hxs] at ho0 HV HLL ⊢
  have HX : Hid (alarmS l ss zone within = goS l zone within [] xs) := by rw [hxs]; rfl
  obtain ⟨hcap, hcm⟩ := ho0.cap
  unfold maxLen at hcm
  have hx0 := ho0.sl
  have hl0 := hl.below hb0
  obtain ⟨q, hq⟩ : ∃ q, q = xs.length := ⟨_, rfl⟩
  rw [← hq] at hcap hx0 HLL ⊢
  have HQ := Lib.hid hq
  have hq2 : q ≤ 1048576 := HLL.out
  clear ho0 hl hs hxs hq HLL
  go_wp2
  go_loopw [20] (fun i wr => ∃ k : Nat, k ≤ q ∧ i = .int .i64 k ∧ Below V0.heap.size V0 wr ∧ Hid (alarmS l ss zone within = goS l zone within (xs.take k) (xs.drop k))) (fun i _ => q - (intOf i).toNat)
  case atStart => exact ⟨0, Nat.zero_le _, rfl, bl_refl _, HX.out⟩
  case round =>
    obtain ⟨k, hk, rfl, hb, hg⟩ := hrel
    by_cases hlt : k < q
    · have hkx : Hid (k < xs.length) := by rw [Hid, ← HQ.out]; exact hlt
      have hxr := hx0.below hb
      obtain ⟨b, o, rfl, hbz, e0, e1⟩ := hxr.sig hlt
      obtain ⟨s0, s1, i, hi⟩ := HV.out _ (nth_mem hkx.out)
      have hlr := hl0.below hb
      have hin : i < n := by have h1 := (indexF_at hi).1; have := HL.out; omega
      have hI := Lib.hid hi
      have hZ := Lib.hid (zofB_at (zone := zone) hi)
      have hH := Lib.hid (handB_at hi)
      clear hi hx0 hl0
      obtain ⟨wo, rfl⟩ : ∃ wo : World, wo = wr := ⟨_, rfl⟩
      go_wp2_with fail
      refine (alFind_any l _ _ _ _ _ hn (hlr.below (bl_alloc (bl_refl _) _))).mono ?_
      rintro e V ⟨rfl, hV⟩
      rw [hI.out]
      have hw := bl_trans (bl_alloc (bl_refl wo) (.cells #[.int .i64 (nth xs k).s, .int .i64 (nth xs k).n] 53)) hV
      have hbV := bl_trans hb hw
      have b0 : V.cell? ⟨wo.heap.size, 0, none⟩ = some (.int .i64 (nth xs k).s) := cell_later hV (by go_simp)
      have b1 : V.cell? ⟨wo.heap.size, 1, none⟩ = some (.int .i64 (nth xs k).n) := cell_later hV (by go_simp)
      have hz1 : wo.heap.size < V.heap.size := World.block_lt_of_cell? V _ b0
      have hlV := hlr.below hw
      have hxV := hxr.below hw
      obtain ⟨bl, ol, rfl, hlz, f0, f1, f2, f3⟩ := hlV.det hin
      clear hlr hxr e0 e1 hw hV
      cases hz : (nth l i).Zone == zone
      · have hzz := Lib.hid (hZ.out.trans hz)
        have hne : ((nth l i).Zone != zone) = true := by simp [bne, hz]
        clear hz hlV hxV
        go_wp2
        go_roundw
        case rel => exact ⟨k + 1, by omega, by go_num, bl_alloc hbV _, by rw [Hid, hg.out]; exact goS_other hkx.out hzz.out⟩
        case measure => simp [intOf]; omega
      have hzz := Lib.hid (hZ.out.trans hz)
      have hne : ((nth l i).Zone != zone) = false := by simp [bne, hz]
      clear hz
      cases hh : (nth l i).Kind == 2
      rotate_left
      · have hhh := Lib.hid (hH.out.trans hh)
        clear hlV hxV
        go_wp2
        go_ret
        exact ⟨ret_i64 (by rw [hg.out]; exact (goS_hit hkx.out hzz.out (.inl hhh.out)).symm), bl_trans hb0 (bl_alloc hbV _)⟩
      have hhh := Lib.hid (hH.out.trans hh)
      have hk2 : k ≤ c0 := by omega
      have hl1 := hlV.below (bl_alloc (bl_refl V) (.cells #[.int .i64 (nth l i).Number, .int .i64 (nth l i).Zone, .int .i64 (nth l i).Kind, .bool (nth l i).Off] 58))
      have hx1 := hxV.below (bl_alloc (bl_refl V) (.cells #[.int .i64 (nth l i).Number, .int .i64 (nth l i).Zone, .int .i64 (nth l i).Kind, .bool (nth l i).Off] 58))
      clear hlV hxV
      go_wp2_with fail
      go_loopw [45] (fun u wr => ∃ j : Nat, j ≤ k ∧ u = .int .i64 j ∧ Below (V.heap.size + 1) (V.alloc (.cells #[.int .i64 (nth l i).Number, .int .i64 (nth l i).Zone, .int .i64 (nth l i).Kind, .bool (nth l i).Off] 58)) wr ∧ Hid (∀ j', j' < j → confB l zone within (nth xs k) (nth xs j') = false)) (fun u _ => k - (intOf u).toNat)
      case atStart => exact ⟨0, Nat.zero_le _, rfl, Below.refl _ _, fun j hj => absurd hj (by omega)⟩
      case round =>
        obtain ⟨j, hj, rfl, hbj, hc⟩ := hrel
        have hbj2 : Below (V.alloc (.cells #[.int .i64 (nth l i).Number, .int .i64 (nth l i).Zone, .int .i64 (nth l i).Kind, .bool (nth l i).Off] 58)).heap.size (V.alloc (.cells #[.int .i64 (nth l i).Number, .int .i64 (nth l i).Zone, .int .i64 (nth l i).Kind, .bool (nth l i).Off] 58)) wr := by simpa using hbj
        have hbW := bl_trans (bl_alloc hbV _) hbj2
        by_cases hjk : j < k
        · have hjx : Hid (j < xs.length) := by rw [Hid, ← HQ.out]; omega
          have hxj := hx1.below hbj2
          have hlj := hl1.below hbj2
          have g0 : wr.cell? ⟨wo.heap.size, 0, none⟩ = some (.int .i64 (nth xs k).s) := cell_later hbj2 (cell_later (bl_alloc (bl_refl _) _) b0)
          have g1 : wr.cell? ⟨wo.heap.size, 1, none⟩ = some (.int .i64 (nth xs k).n) := cell_later hbj2 (cell_later (bl_alloc (bl_refl _) _) b1)
          have hzw : wo.heap.size < wr.heap.size := World.block_lt_of_cell? wr _ g0
          obtain ⟨bb, oo, hAA, hbbz, t0, t1⟩ := hxj.sig (by omega : j < q)
          obtain ⟨rfl, rfl⟩ : bb = b ∧ oo = o := by injection hAA with hAA; injection hAA with h1 h2; exact ⟨h1.symm, h2.symm⟩
          obtain ⟨u0, u1, i', hi'⟩ := HV.out _ (nth_mem hjx.out)
          have hin' : i' < n := by have h1 := (indexF_at hi').1; have := HL.out; omega
          have hI' := Lib.hid hi'
          have hZ' := Lib.hid (zofB_at (zone := zone) hi')
          clear hi' hAA hx1 hl1 hxj b0 b1 f0 f1 f2 f3
          have hsub : IntKind.i64.wrap ((nth xs k).s - (nth xs j).s) = (nth xs k).s - (nth xs j).s := IntWalk.i64_in _ (by omega)
          clear hsub
          cases hnn : (nth xs j).n == (nth xs k).n
          rotate_left
          · have hnn' : ((nth xs j).n != (nth xs k).n) = false := by simp [bne, hnn]
            have hcf : Hid (confB l zone within (nth xs k) (nth xs j) = false) := by rw [Hid, confB, hnn']; simp
            clear hlj hnn
            go_wp2
            go_roundw
            case rel => exact ⟨j + 1, by omega, by go_num, by have := bl_alloc hbj2 (.cells #[.int .i64 (nth xs j).s, .int .i64 (nth xs j).n] 53); simpa using this, upto_succ hc hcf.out⟩
            case measure => simp [intOf]; omega
          have hnn' : ((nth xs j).n != (nth xs k).n) = true := by simp [bne, hnn]
          clear hnn
          go_wp2_with fail
          refine (alFind_any l _ _ _ _ _ hn (hlj.below (bl_alloc (bl_refl _) _))).mono ?_
          rintro e V3 ⟨rfl, hV3⟩
          rw [hI'.out]
          have hw3 := bl_trans (bl_alloc (bl_refl wr) (.cells #[.int .i64 (nth xs j).s, .int .i64 (nth xs j).n] 53)) hV3
          have hb3 := bl_trans hbj2 hw3
          have hbW3 := bl_trans hbW hw3
          have g0' := cell_later hw3 g0
          have g1' := cell_later hw3 g1
          have d0 : V3.cell? ⟨wr.heap.size, 0, none⟩ = some (.int .i64 (nth xs j).s) := cell_later hV3 (by go_simp)
          have d1 : V3.cell? ⟨wr.heap.size, 1, none⟩ = some (.int .i64 (nth xs j).n) := cell_later hV3 (by go_simp)
          have hl3 := hlj.below hw3
          obtain ⟨bl', ol', hA3, hlz', f0, f1, f2, f3⟩ := hl3.det hin'
          obtain ⟨rfl, rfl⟩ : bl' = bl ∧ ol' = ol := by injection hA3 with hA3; injection hA3 with h1 h2; exact ⟨h1.symm, h2.symm⟩
          clear hA3 hl3 hlj g0 g1 t0 t1 hw3 hV3
          cases hz2 : (nth l i').Zone == zone
          · have hcf : Hid (confB l zone within (nth xs k) (nth xs j) = false) := by rw [Hid, confB, hZ'.out, hz2]; simp
            go_wp2
            go_roundw
            case rel => exact ⟨j + 1, by omega, by go_num, by simpa using hb3, upto_succ hc hcf.out⟩
            case measure => simp [intOf]; omega
          by_cases hd : (nth xs k).s - (nth xs j).s ≤ within
          · have hcf : Hid (confB l zone within (nth xs k) (nth xs j) = true) := by rw [Hid, confB, hZ'.out, hz2, hnn', decide_eq_true hd]; rfl
            go_wp2
            go_ret
            exact ⟨ret_i64 (by rw [hg.out]; exact (goS_hit hkx.out hzz.out (.inr (any_yes hjk (Nat.le_of_lt hkx.out) hcf.out))).symm), bl_trans hb0 hbW3⟩
          · have hcf : Hid (confB l zone within (nth xs k) (nth xs j) = false) := by rw [Hid, confB, decide_eq_false hd]; simp
            go_wp2
            go_roundw
            case rel => exact ⟨j + 1, by omega, by go_num, by simpa using hb3, upto_succ hc hcf.out⟩
            case measure => simp [intOf]; omega
        · obtain rfl : j = k := by omega
          clear hx1 hl1 f0 f1 f2 f3 b0 b1
          go_wp2
          go_roundw
          case rel => exact ⟨j + 1, by omega, by go_num, hbW, by rw [Hid, hg.out]; exact goS_miss hkx.out hhh.out (any_no (Nat.le_of_lt hkx.out) hc.out)⟩
          case measure => simp [intOf]; omega
    · obtain rfl : k = q := by omega
      have hfin : Hid (alarmS l ss zone within = -1) := by rw [Hid, hg.out, List.drop_of_length_le (by rw [HQ.out]; exact Nat.le_refl _)]; rfl
      go_wp2
      go_ret
      exact ⟨ret_i64 hfin.out.symm, bl_trans hb0 hb⟩
end Go.Proofs.Ytjdaikpkcafcdaa
