/-
  The incidents as they are drawn. No conditions.
-/
import Derived.Test.YtpdblmcflniomaaGreatDoorIv19
import Derived.Test.YtpdblmcflniomaaGreatDoorIv24
import Derived.Test.YtpdblmcflniomaaGreatDoorIcY2
import Derived.Deep.DeepCutAuto
import Derived.Deep.CutBlock
namespace Go.Proofs.YtpdblmcflniomaaGreatDoor
open Go.RowKit

/-- the incidents as they are drawn -/
def RetInc (w : World) (g : Nat) (N : Int) (e : Ending) (w' : World) : Prop := ∃ (xs : List Incident) (A : Option Addr) (c : Nat) (F : List Nat), e = .returned (.slice A xs.length c) ∧ xs.length ≤ 9 ∧ SmI xs ∧ OwnX incidentN w' w.heap.size 32 9 (.slice A xs.length c) xs F ∧ Cur w' g N ∧ OnlyF [g] w w'
set_option maxRecDepth 100000 in
set_option maxHeartbeats 32000000 in
theorem incidents_any (g : Nat) (N : Int) (w : World) (hc : Cur w g N) (hN : N ≤ 800000000) :
    Calls Tryz.prog 33 #[.pointer (some ⟨g, 0, none⟩)] w (RetInc w g (N + 1000)) := by
  have lg0 := hc.lt
  go_enter Tryz.func33, Tryz.ntmps33
  go_wp2_with fail
  refine (pick_any g _ 5 _ (hc.below (by repeat' (first | exact bl_refl _ | refine bl_alloc ?_ _ | refine bl_drew ?_ | refine bl_set ?_ (by simp; try omega) _))) (by omega) (by omega)).mono ?_
  rintro e V1 ⟨p, rfl, hp, hc1, hf1⟩
  have lg1 : g < V1.heap.size := hc1.lt
  have hF1 : OnlyF [g] w V1 := (OnlyF.below (a := w) (by repeat' (first | exact bl_refl _ | refine bl_alloc ?_ _ | refine bl_drew ?_ | refine bl_set ?_ (by simp; try omega) _))).trans hf1
  have hp8 : p < 5 := hp.2 (by omega)
  have hp0 := hp.1
  clear hp
  go_wp2_with fail
  refine (one_any g _ 12 _ (hc1.below (by repeat' (first | exact bl_refl _ | refine bl_alloc ?_ _ | refine bl_drew ?_ | refine bl_set ?_ (by simp; try omega) _))) (by omega) (by omega)).mono ?_
  rintro e V2 ⟨b, rfl, hc2, hf2⟩
  have lg2 : g < V2.heap.size := hc2.lt
  have hF2 : OnlyF [g] w V2 := hF1.trans ((OnlyF.below (a := V1) (by repeat' (first | exact bl_refl _ | refine bl_alloc ?_ _ | refine bl_drew ?_ | refine bl_set ?_ (by simp; try omega) _))).trans hf2)
  go_upto_if 14 with fail
  go_cut [4] (fun s wx => ∃ n : Nat, n ≤ 8 ∧ s = .int .i64 n ∧ Cur wx g (N + 4) ∧ OnlyF [g] w wx)
  case first =>
    cases b
    · obtain ⟨k, rfl⟩ := Int.eq_ofNat_of_zero_le hp0
      go_wp2_with fail
      go_meet
      exact ⟨k, by omega, rfl, hc2.mono (by omega), hF2⟩
    · go_wp2_with fail
      go_meet
      exact ⟨8, by omega, rfl, hc2.mono (by omega), hF2⟩
  case rest =>
    obtain ⟨n, hn, rfl, hcc, hfc⟩ := hcut
    have lgc := hcc.lt
    have zc := hfc.size
    clear hc1 hf1 hF1 hc2 hf2 hF2 hp8 hp0
    go_upto_block 0 with fail
    go_cut [3] (fun s wx => ∃ (xs : List Incident) (A : Option Addr) (c : Nat) (F : List Nat), s = .slice A xs.length c ∧ xs.length ≤ 8 ∧ SmI xs ∧ OwnX incidentN wx w.heap.size 32 9 (.slice A xs.length c) xs F ∧ Cur wx g (N + 400) ∧ OnlyF [g] w wx)
    case first =>
      go_wp2
      go_loopw [3] (fun lv wr => ∃ (xs : List Incident) (A : Option Addr) (c : Nat) (F : List Nat), lv = .slice A xs.length c ∧ xs.length ≤ 8 ∧ Hid (incsB xs = true) ∧ OwnX incidentN wr w.heap.size 32 9 (.slice A xs.length c) xs F ∧ Cur wr g (N + 4 + 40 * (xs.length : Int)) ∧ OnlyF [g] w wr) (fun lv _ => 9 - (match lv with | .slice _ q _ => q | _ => 0))
      case atStart => exact ⟨[], none, 0, [], rfl, by simp, rfl, ⟨[], rfl, rfl, OwnP.nil _ _ _ inc_ne⟩, hcc.mono (by simp), hfc⟩
      case round =>
        obtain ⟨xs, A, c, F, rfl, hl8, hin, ho, hcr, hfr⟩ := hrel
        have lgr := hcr.lt
        have zr := hfr.size
        obtain ⟨m, hm⟩ : ∃ m, xs.length = m := ⟨_, rfl⟩
        rw [hm] at hl8 ho hcr ⊢
        have HM := Lib.hid hm
        clear hm
        have hsm := Lib.hid (incs_small hin.out)
        by_cases hlt : m < n
        · have hltd : (m : Int) < n := by omega
          have hltb : decide (m < n) = true := decide_eq_true hlt
          go_wp2_with fail
          refine (pick_any g _ 4 _ (hcr.below (by repeat' (first | exact bl_refl _ | refine bl_alloc ?_ _ | refine bl_drew ?_ | refine bl_set ?_ (by simp; try omega) _))) (by omega) (by omega)).mono ?_
          rintro e V11 ⟨q, rfl, hq, hc11, hf11⟩
          have lg11 : g < V11.heap.size := hc11.lt
          have hF11 : OnlyF [g] w V11 := hfr.trans ((OnlyF.below (a := wr) (by repeat' (first | exact bl_refl _ | refine bl_alloc ?_ _ | refine bl_drew ?_ | refine bl_set ?_ (by simp; try omega) _))).trans hf11)
          clear hq
          have ho11 := (ho.below (by repeat' (first | exact bl_refl _ | refine bl_alloc ?_ _ | refine bl_drew ?_ | refine bl_set ?_ (by simp; try omega) _))).only hf11 (fun k hk hm => by have := (ho.lies k hk).1; have := List.mem_singleton.1 hm; omega)
          obtain ⟨⟨Y, nu, ok⟩, hY⟩ : ∃ C, opF xs q = C := ⟨_, rfl⟩
          have hYs : ok = true → incsB Y = true ∧ Y.length = m + 1 := fun h => by have := op_small (by rw [hY, h]); rw [HM.out] at this; exact this
          have HYs := Lib.hid hYs
          clear hYs
          have hK := Lib.hid (show Calls Tryz.prog 7 #[.slice A m c, .int .i64 q] V11 (fun e w' => ∃ A' c' F', e = .returned (.tuple #[.slice A' Y.length c', .int .i64 nu, .bool ok]) ∧ OwnX incidentN w' V11.heap.size 32 9 (.slice A' Y.length c') Y F' ∧ Below V11.heap.size V11 w') from by have h := specOpenIncident_any xs q A m c V11 (by omega) ho11.cap ho11.sl (fun x hx y hy => by have := (hsm.out.2 x hx).2 y hy; unfold maxLen; omega) (fun x hx => by have := (hsm.out.2 x hx).1; omega); rw [hY] at h; exact h)
          have HY := Lib.hid hY
          clear hY
          go_wp2_with fail
          refine hK.out.mono ?_
          rintro e V12 ⟨A', c', F', rfl, ho', hb12⟩
          have hc12 := hc11.below hb12
          have hf12 := hF11.trans (.below hb12)
          have z12 := hF11.size
          have ho12 := ho'.mono z12
          cases ok
          · go_wp2_with fail
            go_meet
            exact ⟨xs, A, c, F, by rw [HM.out], by rw [HM.out]; omega, (fun x hx => hsm.out.2 x hx), by rw [HM.out]; exact ho11.below hb12, hc12.mono (by omega), hf12⟩
          · obtain ⟨hY1, hY2⟩ := HYs.out rfl
            have HY1 := Lib.hid hY1
            have HY2 := Lib.hid hY2
            rw [hY2] at ho12
            rw [hY2]
            clear hY1 hY2 ho' ho ho11 hin hsm hK HYs HY
            go_wp2_with fail
            refine (pick_any g _ 3 _ (hc12.below (by repeat' (first | exact bl_refl _ | refine bl_alloc ?_ _ | refine bl_drew ?_ | refine bl_set ?_ (by simp; try omega) _))) (by omega) (by omega)).mono ?_
            rintro e V21 ⟨kk, rfl, hkq, hc21, hf21⟩
            have lg21 : g < V21.heap.size := hc21.lt
            have hF21 : OnlyF [g] w V21 := hf12.trans ((OnlyF.below (a := V12) (by repeat' (first | exact bl_refl _ | refine bl_alloc ?_ _ | refine bl_drew ?_ | refine bl_set ?_ (by simp; try omega) _))).trans hf21)
            have hk3 : kk < 3 := hkq.2 (by omega)
            obtain ⟨kk, rfl⟩ := Int.eq_ofNat_of_zero_le hkq.1
            clear hkq
            have ho21 := (ho12.below (by repeat' (first | exact bl_refl _ | refine bl_alloc ?_ _ | refine bl_drew ?_ | refine bl_set ?_ (by simp; try omega) _))).only hf21 (fun k hk hm => by have := (ho12.lies k hk).1; have := List.mem_singleton.1 hm; omega)
            have z21 := hF21.size
            go_wp2
            go_loopw [3, 8] (fun lv kv wq => ∃ (k : Nat) (zs : List Incident) (A : Option Addr) (c : Nat) (F : List Nat), k ≤ 2 ∧ kv = .int .i64 k ∧ lv = .slice A (m + 1) c ∧ Hid (zs.length = m + 1) ∧ Hid (incsB zs = true) ∧ OwnX incidentN wq w.heap.size 32 9 (.slice A (m + 1) c) zs F ∧ Cur wq g (N + 10 + 40 * (m : Int) + 6 * (3 - (k : Int))) ∧ OnlyF [g] w wq) (fun _ kv _ => (intOf kv).toNat)
            case atStart => exact ⟨kk, Y, A', c', F', by omega, rfl, rfl, HY2, HY1, ho21, hc21.mono (by omega), hF21⟩
            case round =>
              obtain ⟨k, zs, A, c, F, hk2, rfl, rfl, hzl, hzi, ho, hcq, hfq⟩ := hrel
              have lgq := hcq.lt
              have zq := hfq.size
              have hsm := Lib.hid (incs_small hzi.out)
              clear hcr hfr hc11 hF11 hf11 hc12 hf12 hb12 ho12 hf21 hc21 hF21 ho21
              by_cases hk0 : 0 < k
              · have hkd : (0 : Int) < k := by omega
                have hkb : decide (0 < k) = true := decide_eq_true hk0
                go_wp2_with fail
                refine (applianceName_any g _ _ (hcq.below (by repeat' (first | exact bl_refl _ | refine bl_alloc ?_ _ | refine bl_drew ?_ | refine bl_set ?_ (by simp; try omega) _))) (by omega)).mono ?_
                rintro e V31 ⟨s, rfl, hs, hc31, hf31⟩
                have lg31 : g < V31.heap.size := hc31.lt
                have hF31 : OnlyF [g] w V31 := hfq.trans ((OnlyF.below (a := wr) (by repeat' (first | exact bl_refl _ | refine bl_alloc ?_ _ | refine bl_drew ?_ | refine bl_set ?_ (by simp; try omega) _))).trans hf31)
                have ho31 := (ho.below (by repeat' (first | exact bl_refl _ | refine bl_alloc ?_ _ | refine bl_drew ?_ | refine bl_set ?_ (by simp; try omega) _))).only hf31 (fun k hk hm => by have := (ho.lies k hk).1; have := List.mem_singleton.1 hm; omega)
                obtain ⟨⟨Z, ok⟩, hZ⟩ : ∃ C, cmF zs nu s = C := ⟨_, rfl⟩
                have hZs : ok = true → incsB Z = true ∧ Z.length = m + 1 := fun h => by have := cm_small (by rw [hZ, h]); rw [hzl.out] at this; exact this
                have HZs := Lib.hid hZs
                clear hZs
                have hK := Lib.hid (show Calls Tryz.prog 73 #[.slice A (m + 1) c, .int .i64 nu, .string s] V31 (fun e w' => ∃ A' c' F', e = .returned (.tuple #[.slice A' Z.length c', .bool ok]) ∧ OwnX incidentN w' V31.heap.size 32 9 (.slice A' Z.length c') Z F' ∧ Below V31.heap.size V31 w') from by have h := specCommit_any zs nu s A (m + 1) c V31 (by unfold maxLen; omega) (by omega) ho31.cap ho31.sl (fun x hx y hy => by have := (hsm.out.2 x hx).2 y hy; unfold maxLen; omega) (fun x hx => by have := (hsm.out.2 x hx).1; omega); rw [hZ] at h; exact h)
                have HZ := Lib.hid hZ
                clear hZ
                go_wp2_with fail
                refine hK.out.mono ?_
                rintro e V32 ⟨A2, c2, F2, rfl, ho2, hb32⟩
                have hc32 := hc31.below hb32
                have hf32 := hF31.trans (.below hb32)
                have z32 := hF31.size
                have ho32 := ho2.mono z32
                cases ok
                · go_wp2
                  go_roundw
                  case rel => exact ⟨k - 1, zs, A, c, F, by omega, by go_num, rfl, hzl, hzi, ho31.below hb32, hc32.mono (by omega), hf32⟩
                  case measure => simp [intOf]; omega
                · obtain ⟨hZ1, hZ2⟩ := HZs.out rfl
                  rw [hZ2] at ho32
                  rw [hZ2]
                  have HZ2 := Lib.hid hZ2
                  clear hZ2
                  go_wp2
                  go_roundw
                  case rel => exact ⟨k - 1, Z, A2, c2, F2, by omega, by go_num, rfl, HZ2, hZ1, ho32, hc32.mono (by omega), hf32⟩
                  case measure => simp [intOf]; omega
              · have hkd : ¬ (0 : Int) < k := by omega
                have hkb : decide (0 < k) = false := decide_eq_false hk0
                go_wp2_with fail
                refine (one_any g _ 5 _ (hcq.below (by repeat' (first | exact bl_refl _ | refine bl_alloc ?_ _ | refine bl_drew ?_ | refine bl_set ?_ (by simp; try omega) _))) (by omega) (by omega)).mono ?_
                rintro e V41 ⟨b, rfl, hc41, hf41⟩
                have lg41 : g < V41.heap.size := hc41.lt
                have hF41 : OnlyF [g] w V41 := hfq.trans ((OnlyF.below (a := wr) (by repeat' (first | exact bl_refl _ | refine bl_alloc ?_ _ | refine bl_drew ?_ | refine bl_set ?_ (by simp; try omega) _))).trans hf41)
                have ho41 := (ho.below (by repeat' (first | exact bl_refl _ | refine bl_alloc ?_ _ | refine bl_drew ?_ | refine bl_set ?_ (by simp; try omega) _))).only hf41 (fun k hk hm => by have := (ho.lies k hk).1; have := List.mem_singleton.1 hm; omega)
                cases b
                · go_wp2
                  go_roundw
                  case rel => exact ⟨zs, A, c, F, by rw [hzl.out], by rw [hzl.out]; omega, hzi, by rw [hzl.out]; exact ho41, hc41.mono (by rw [hzl.out]; omega), hF41⟩
                  case measure => simp; omega
                · have hw1 : IntKind.i64.wrap (((m : Int) + 1) - 1) = (m : Int) := by rw [IntWalk.i64_in _ (by omega)]; omega
                  have hw2 : IntKind.i64.wrap (((m + 1 : Nat) : Int) - 1) = (m : Int) := by rw [IntWalk.i64_in _ (by omega)]; omega
                  have hK := Lib.hid (show Calls Tryz.prog 46 #[.slice A (m + 1) c, .int .i64 (m : Int)] V41 (RetOwnX incidentN V41 32 9 (zs.set m (clX (nth zs m)))) from ixClose_any zs m A (m + 1) c V41 (by omega) ho41.sl (fun x hx => by have := (hsm.out.2 x hx).1; omega) (by omega))
                  have hZi := Lib.hid (cl_small (j := m) hzi.out (by rw [hzl.out]; omega))
                  obtain ⟨Z, hZ⟩ : ∃ Z, zs.set m (clX (nth zs m)) = Z := ⟨_, rfl⟩
                  have hZl : Z.length = m + 1 := by rw [← hZ, List.length_set, hzl.out]
                  rw [hZ] at hK hZi
                  have HZl := Lib.hid hZl
                  clear hZ hZl
                  go_wp2_with fail
                  refine hK.out.mono ?_
                  rintro e V42 ⟨A2, c2, F2, rfl, ho2, hb42⟩
                  have hc42 := hc41.below hb42
                  have hf42 := hF41.trans (.below hb42)
                  have z42 := hF41.size
                  have ho42 := ho2.mono z42
                  rw [HZl.out] at ho42
                  rw [HZl.out]
                  go_wp2
                  go_roundw
                  case rel => exact ⟨Z, A2, c2, F2, by rw [HZl.out], by rw [HZl.out]; omega, hZi, by rw [HZl.out]; exact ho42, hc42.mono (by rw [HZl.out]; omega), hf42⟩
                  case measure => simp; omega
        · have hltd : ¬ (m : Int) < n := by omega
          have hltb : decide (m < n) = false := decide_eq_false hlt
          go_wp2_with fail
          go_meet
          exact ⟨xs, A, c, F, by rw [HM.out], by rw [HM.out]; omega, (fun x hx => hsm.out.2 x hx), by rw [HM.out]; exact ho, hcr.mono (by omega), hfr⟩
    case rest =>
      obtain ⟨xs, A, c, F, rfl, hl8, hsm, ho, hcd, hfd⟩ := hcut
      have lgd := hcd.lt
      have zd := hfd.size
      go_wp2_with fail
      refine (pick_any g _ 40 _ (hcd.below (by repeat' (first | exact bl_refl _ | refine bl_alloc ?_ _ | refine bl_drew ?_ | refine bl_set ?_ (by simp; try omega) _))) (by omega) (by omega)).mono ?_
      rintro e V51 ⟨q, rfl, hq, hc51, hf51⟩
      have lg51 : g < V51.heap.size := hc51.lt
      have hF51 : OnlyF [g] w V51 := hfd.trans ((OnlyF.below (a := wc) (by repeat' (first | exact bl_refl _ | refine bl_alloc ?_ _ | refine bl_drew ?_ | refine bl_set ?_ (by simp; try omega) _))).trans hf51)
      have hq0 := hq.1
      clear hq
      have ho51 := (ho.below (by repeat' (first | exact bl_refl _ | refine bl_alloc ?_ _ | refine bl_drew ?_ | refine bl_set ?_ (by simp; try omega) _))).only hf51 (fun k hk hm => by have := (ho.lies k hk).1; have := List.mem_singleton.1 hm; omega)
      have z51 := hF51.size
      obtain ⟨m, hm⟩ : ∃ m, xs.length = m := ⟨_, rfl⟩
      rw [hm] at hl8 ho51 ⊢
      have HM := Lib.hid hm
      clear hm ho
      by_cases h0 : q = 0
      · subst h0
        go_wp2_with fail
        refine (among_any g _ _ _ _ [0, 1, 999, 1000] _ (hc51.below (by repeat' (first | exact bl_refl _ | refine bl_alloc ?_ _ | refine bl_drew ?_ | refine bl_set ?_ (by simp; try omega) _))) (by omega) (by exact sl_lit' (by simp) rfl rfl) (by omega) (by omega) (by rintro b o h _; injection h with h; injection h with h1; omega)).mono ?_
        rintro e V52 ⟨nu, rfl, hnu, hc52, hf52⟩
        have lg52 : g < V52.heap.size := hc52.lt
        have hF52 : OnlyF [g] w V52 := hF51.trans ((OnlyF.below (a := V51) (by repeat' (first | exact bl_refl _ | refine bl_alloc ?_ _ | refine bl_drew ?_ | refine bl_set ?_ (by simp; try omega) _))).trans hf52)
        clear hnu
        go_wp2_with fail
        refine (among_any g _ _ _ _ [0, -1, 14] _ (hc52.below (by repeat' (first | exact bl_refl _ | refine bl_alloc ?_ _ | refine bl_drew ?_ | refine bl_set ?_ (by simp; try omega) _))) (by omega) (by exact sl_lit' (by simp) rfl rfl) (by omega) (by omega) (by rintro b o h _; injection h with h; injection h with h1; omega)).mono ?_
        rintro e V53 ⟨no, rfl, hno, hc53, hf53⟩
        have lg53 : g < V53.heap.size := hc53.lt
        have hF53 : OnlyF [g] w V53 := hF52.trans ((OnlyF.below (a := V52) (by repeat' (first | exact bl_refl _ | refine bl_alloc ?_ _ | refine bl_drew ?_ | refine bl_set ?_ (by simp; try omega) _))).trans hf53)
        clear hno
        have ho53 := (((ho51.below (by repeat' (first | exact bl_refl _ | refine bl_alloc ?_ _ | refine bl_drew ?_ | refine bl_set ?_ (by simp; try omega) _))).only hf52 (fun k hk hm => by have := (ho51.lies k hk).1; have := List.mem_singleton.1 hm; omega)).below (by repeat' (first | exact bl_refl _ | refine bl_alloc ?_ _ | refine bl_drew ?_ | refine bl_set ?_ (by simp; try omega) _))).only hf53 (fun k hk hm => by have := (ho51.lies k hk).1; have := List.mem_singleton.1 hm; omega)
        have z53 := hF53.size
        obtain ⟨ps, hps, hF_, hp⟩ := ho53
        have hxs : xs = incidentN.plain ps := hps.symm
        go_wp2_with ((at_builtin; refine wpList_app1q rfl (.tmp 57) (.tmp 66) _ _ rfl el_inc (xs := ps.map Prod.fst) (⟨nu, no, false, some ⟨V53.heap.size, 0, none⟩, 1, 1⟩ : IncidentR) rfl (hp.out.alloc _) (by simp only [World.size_alloc]; omega) rfl (by simp) (by omega) ?_; intro A2 c2 w2 hoA hgA))
        obtain ⟨F2, ho2⟩ := snoc_one (s := (⟨#[112, 49]⟩ : ByteArray)) hp z53 hoA hgA
        rw [← hxs] at ho2
        go_ret
        exact ⟨xs ++ [⟨nu, no, false, [(⟨#[112, 49]⟩ : ByteArray)]⟩], A2, c2, F2, by rw [List.length_append, HM.out]; rfl, by rw [List.length_append, HM.out]; simp; omega, hsm.snoc (by simp) (by simp; try decide), by rw [List.length_append, HM.out]; exact ho2, ((Cur.grown (Cur.alloc hc53 _) (hp.out.alloc _) hgA lg0).mono (by omega)), OnlyF.grown (OnlyF.alloc hF53 _) (hp.out.alloc _) hgA (Nat.le_refl _)⟩
      by_cases h1 : q = 1
      · subst h1
        obtain ⟨ps, hps, hF_, hp⟩ := ho51
        have hxs : xs = incidentN.plain ps := hps.symm
        go_wp2_with ((at_builtin; refine wpList_app1q rfl (.tmp 70) (.tmp 73) _ _ rfl el_inc (xs := ps.map Prod.fst) (⟨500, 0, true, some ⟨V51.heap.size, 0, none⟩, 1, 1⟩ : IncidentR) rfl (hp.out.alloc _) (by simp only [World.size_alloc]; omega) rfl (by simp) (by omega) ?_; intro A2 c2 w2 hoA hgA))
        obtain ⟨F2, ho2⟩ := snoc_one (s := (⟨#[113, 49]⟩ : ByteArray)) hp z51 hoA hgA
        rw [← hxs] at ho2
        go_ret
        exact ⟨xs ++ [⟨500, 0, true, [(⟨#[113, 49]⟩ : ByteArray)]⟩], A2, c2, F2, by rw [List.length_append, HM.out]; rfl, by rw [List.length_append, HM.out]; simp; omega, hsm.snoc (by simp) (by simp; try decide), by rw [List.length_append, HM.out]; exact ho2, ((Cur.grown (Cur.alloc hc51 _) (hp.out.alloc _) hgA lg0).mono (by omega)), OnlyF.grown (OnlyF.alloc hF51 _) (hp.out.alloc _) hgA (Nat.le_refl _)⟩
      by_cases h2 : q = 2
      · subst h2
        go_wp2
        go_loopw [3] (fun lv wq => ∃ (xs : List Incident) (A : Option Addr) (c : Nat) (F : List Nat), lv = .slice A xs.length c ∧ xs.length ≤ 9 ∧ SmI xs ∧ OwnX incidentN wq w.heap.size 32 9 (.slice A xs.length c) xs F ∧ Cur wq g (N + 500) ∧ OnlyF [g] w wq) (fun lv _ => 9 - (match lv with | .slice _ q _ => q | _ => 0))
        case atStart => exact ⟨xs, A, c, F, by rw [HM.out], by rw [HM.out]; omega, hsm, by rw [HM.out]; exact ho51, hc51.mono (by omega), hF51⟩
        case round =>
          clear ho51 hc51 hF51 hf51 HM hsm hl8
          obtain ⟨xs, A, c, F, rfl, hl9, hsm, ho, hcq, hfq⟩ := hrel
          have zq := hfq.size
          obtain ⟨m, hm⟩ : ∃ m, xs.length = m := ⟨_, rfl⟩
          rw [hm] at hl9 ho ⊢
          have HM := Lib.hid hm
          clear hm
          by_cases hlt : m < 9
          · have hltd : (m : Int) < 9 := by omega
            have hltb : decide (m < 9) = true := decide_eq_true hlt
            have hw1 : IntKind.i64.wrap (600 + (m : Int)) = 600 + (m : Int) := IntWalk.i64_in _ (by omega)
            obtain ⟨ps, hps, hF_, hp⟩ := ho
            have hxs : xs = incidentN.plain ps := hps.symm
            go_wp2_with ((at_builtin; refine wpList_app1q rfl (.tmp 80) (.tmp 85) _ _ rfl el_inc (xs := ps.map Prod.fst) (⟨600 + (m : Int), 0, false, none, 0, 0⟩ : IncidentR) rfl hp.out zq rfl (by simp) (by omega) ?_; intro A2 c2 w2 hoA hgA))
            obtain ⟨F2, ho2⟩ := snoc_nil hp hoA hgA
            rw [← hxs] at ho2
            go_roundw
            case rel => exact ⟨xs ++ [⟨600 + (m : Int), 0, false, []⟩], A2, c2, F2, by rw [List.length_append, HM.out]; rfl, by rw [List.length_append, HM.out]; simp; omega, hsm.snoc (by simp) (by simp), by rw [List.length_append, HM.out]; exact ho2, Cur.grown (hcq) (hp.out) hgA lg0, OnlyF.grown (hfq) (hp.out) hgA (Nat.le_refl _)⟩
            case measure => simp; omega
          · have hltd : ¬ (m : Int) < 9 := by omega
            have hltb : decide (m < 9) = false := decide_eq_false hlt
            go_wp2
            go_ret
            exact ⟨xs, A, c, F, by rw [HM.out]; rfl, by rw [HM.out]; omega, hsm, by rw [HM.out]; exact ho, hcq.mono (by omega), hfq⟩
      by_cases h3 : q = 3
      · subst h3
        obtain ⟨ps, hps, hF_, hp⟩ := ho51
        have hxs : xs = incidentN.plain ps := hps.symm
        go_wp2_with ((at_builtin; refine wpList_app1q rfl (.tmp 89) (.tmp 91) _ _ rfl el_inc (xs := ps.map Prod.fst) (⟨999, 0, false, none, 0, 0⟩ : IncidentR) rfl hp.out z51 rfl (by simp) (by omega) ?_; intro A2 c2 w2 hoA hgA))
        obtain ⟨F2, ho2⟩ := snoc_nil hp hoA hgA
        rw [← hxs] at ho2
        go_ret
        exact ⟨xs ++ [⟨999, 0, false, []⟩], A2, c2, F2, by rw [List.length_append, HM.out]; rfl, by rw [List.length_append, HM.out]; simp; omega, hsm.snoc (by simp) (by simp; try decide), by rw [List.length_append, HM.out]; exact ho2, ((Cur.grown (hc51) (hp.out) hgA lg0).mono (by omega)), OnlyF.grown (hF51) (hp.out) hgA (Nat.le_refl _)⟩
      go_wp2
      go_ret
      exact ⟨xs, A, c, F, by rw [HM.out]; rfl, by rw [HM.out]; omega, hsm, by rw [HM.out]; exact ho51, hc51.mono (by omega), hF51⟩

end Go.Proofs.YtpdblmcflniomaaGreatDoor
