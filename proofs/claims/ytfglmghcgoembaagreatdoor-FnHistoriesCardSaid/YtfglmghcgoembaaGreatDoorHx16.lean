/-
  Several texts in one. No conditions.
-/
import Derived.Test.YtfglmghcgoembaaGreatDoorHx15
import Derived.Deep.RegionHeld3
import Derived.Deep.DeepCutAuto
import Derived.Test.YtfglmghcgoembaaGreatDoorHx10
import Derived.Test.YtfglmghcgoembaaGreatDoorHx12
namespace Go.Proofs.YtfglmghcgoembaaGreatDoor
open Go.RowKit

theorem SmE.take {l : List Entry} (h : SmE l) (k : Nat) : SmE (l.take k) := fun e he => h e (List.mem_of_mem_take he)
set_option maxRecDepth 100000 in
set_option maxHeartbeats 16000000 in
theorem copyOf_any (g : Nat) (N : Int) (base : Nat) (l : List Entry) (A : Option Addr) (n c : Nat) (w : World) (hc : Cur w g N) (hN : N ≤ 600000000) (hs : SlB w base A n l) (hg : g < base) (hcap : n ≤ c) (hn : n ≤ 30) (hsm : SmE l) :
    Calls Tryz.prog 26 #[.pointer (some ⟨g, 0, none⟩), .slice A n c] w (RetLog w g (N + 600) 31) := by
  have lg0 := hc.lt
  have HL := Lib.hid hs.1.1
  obtain ⟨v, ev⟩ : ∃ v, lgB l = v := ⟨_, rfl⟩
  have kg := Lib.hid (show ∀ (W : World), Sl W A n l → Calls Tryz.prog 52 #[.slice A n c] W fun e w' => e = .returned (.bool v) ∧ Below W.heap.size W w' from fun W hs => by have h := lgGood_any l A n c W (by omega) hs hsm.max; rw [ev] at h; exact h)
  clear ev
  go_enter Tryz.func26, Tryz.ntmps26
  go_wp2_with fail
  refine (kg.out _ hs.sl).mono ?_
  rintro e V1 ⟨rfl, hb1⟩
  have hc1 := hc.below hb1
  have hF1 : OnlyF [g] w V1 := OnlyF.below hb1
  have z1 := hF1.size
  have HS := Lib.hid hs
  have lg1 := hc1.lt
  clear hs kg hb1
  cases v
  · go_wp2_with fail
    refine (anyLog_any g _ _ (hc1.below (by repeat' (first | exact bl_refl _ | refine bl_alloc ?_ _ | refine bl_drew ?_ | refine bl_set ?_ (by simp; try omega) _))) (by omega)).mono ?_
    rintro e V2 ⟨l2, A2, c2, rfl, hl2, hsm2, ho2, hc2, hf2⟩
    have lg2 : g < V2.heap.size := hc2.lt
    have hF2 : OnlyF [g] w V2 := hF1.trans ((OnlyF.below (a := V1) (by repeat' (first | exact bl_refl _ | refine bl_alloc ?_ _ | refine bl_drew ?_ | refine bl_set ?_ (by simp; try omega) _))).trans hf2)
    go_wp2
    go_ret
    exact retLog_mk rfl (by omega) hsm2 (ho2.mono z1) hc2 (by omega) hF2
  · go_wp2_with fail
    refine (one_any g _ 6 _ (hc1.below (by repeat' (first | exact bl_refl _ | refine bl_alloc ?_ _ | refine bl_drew ?_ | refine bl_set ?_ (by simp; try omega) _))) (by omega) (by omega)).mono ?_
    rintro e V2 ⟨b, rfl, hc2, hf2⟩
    have lg2 : g < V2.heap.size := hc2.lt
    have hF2 : OnlyF [g] w V2 := hF1.trans ((OnlyF.below (a := V1) (by repeat' (first | exact bl_refl _ | refine bl_alloc ?_ _ | refine bl_drew ?_ | refine bl_set ?_ (by simp; try omega) _))).trans hf2)
    have z2 := hF2.size
    clear hc1 hF1 hf2
    cases b
    · have hwn : IntKind.i64.wrap ((n : Int) + 1) = (n : Int) + 1 := wrapi (by omega) (by omega)
      go_upto_region 3 with fail
      go_cut [5] (fun s5 wx => ∃ (k : Nat) (A5 : Option Addr) (c5 : Nat), s5 = .slice A5 k c5 ∧ k ≤ n ∧ Own wx w.heap.size 40 (.slice A5 k c5) (l.take k) ∧ Cur wx g (N + 4) ∧ OnlyF [g] w wx)
      case first =>
        go_wp2_with fail
        refine (pick_any g _ ((n : Int) + 1) _ (hc2.below (by repeat' (first | exact bl_refl _ | refine bl_alloc ?_ _ | refine bl_drew ?_ | refine bl_set ?_ (by simp; try omega) _))) (by omega) (by omega)).mono ?_
        rintro e V3 ⟨r, rfl, hr, hc3, hf3⟩
        have lg3 : g < V3.heap.size := hc3.lt
        have hF3 : OnlyF [g] w V3 := hF2.trans ((OnlyF.below (a := V2) (by repeat' (first | exact bl_refl _ | refine bl_alloc ?_ _ | refine bl_drew ?_ | refine bl_set ?_ (by simp; try omega) _))).trans hf3)
        have hr1 := hr.2 (by omega)
        obtain ⟨k, rfl⟩ := Int.eq_ofNat_of_zero_le hr.1
        have hkn : k ≤ n := by omega
        have hkc : k ≤ c := by omega
        have hkd : (k : Int) ≤ c := by omega
        have hk0 : (0 : Int) ≤ k := by omega
        clear hr hr1
        have hs3 := (HS.out.only1 hF3 hg).take hkn
        have hoE : Own V3 w.heap.size 40 (.slice (some ⟨V2.heap.size, 0, none⟩) 0 0) ([] : List Entry) := (Own.built V2 _ z2).onlyF hf3 (by omega)
        have z3 := hF3.size
        cases A with
        | none =>
          obtain rfl : k = 0 := by have := hs3.1.none_len; omega
          go_wp2_with ((at_builtin; refine wpList_appNo rfl (.tmp 17) (.tmp 24) _ _ rfl el_ent (xs := ([] : List Entry)) (ys := l.take 0) rfl hoE z3 rfl hs3.sl (by omega) ?_; intro A2 c2 w2 hoA hcA hfA))
          have hoB : Own w2 w.heap.size 40 (.slice A2 0 c2) (l.take 0) := by simpa using hoA
          skip
          have hcB := hcA _ _ lg0 hc3
          have hfB := hfA _ _ (Nat.le_refl _) hF3
          clear hoA hcA hfA
          skip
          go_meet
          exact ⟨0, A2, c2, (by first | rfl | simp), (by first | exact hkn | omega), hoB, hcB.mono (by omega), hfB⟩
        | some p =>
          skip
          go_wp2_with ((at_builtin; refine wpList_appNo rfl (.tmp 17) (.tmp 24) _ _ rfl el_ent (xs := ([] : List Entry)) (ys := l.take k) rfl hoE z3 rfl hs3.sl (by omega) ?_; intro A2 c2 w2 hoA hcA hfA))
          have hoB : Own w2 w.heap.size 40 (.slice A2 k c2) (l.take k) := by simpa using hoA
          skip
          have hcB := hcA _ _ lg0 hc3
          have hfB := hfA _ _ (Nat.le_refl _) hF3
          clear hoA hcA hfA
          skip
          go_meet
          exact ⟨k, A2, c2, (by first | rfl | simp), (by first | exact hkn | omega), hoB, hcB.mono (by omega), hfB⟩
      case rest =>
        obtain ⟨k, A5, c5, rfl, hkn, ho5, hcc, hfc⟩ := hcut
        have lgc := hcc.lt
        have zc := hfc.size
        go_wp2_with fail
        refine (one_any g _ 5 _ (hcc.below (by repeat' (first | exact bl_refl _ | refine bl_alloc ?_ _ | refine bl_drew ?_ | refine bl_set ?_ (by simp; try omega) _))) (by omega) (by omega)).mono ?_
        rintro e V11 ⟨b, rfl, hc11, hf11⟩
        have lg11 : g < V11.heap.size := hc11.lt
        have hF11 : OnlyF [g] w V11 := hfc.trans ((OnlyF.below (a := wc) (by repeat' (first | exact bl_refl _ | refine bl_alloc ?_ _ | refine bl_drew ?_ | refine bl_set ?_ (by simp; try omega) _))).trans hf11)
        have z11 := hF11.size
        have ho11 := (ho5.below (by repeat' (first | exact bl_refl _ | refine bl_alloc ?_ _ | refine bl_drew ?_ | refine bl_set ?_ (by simp; try omega) _))).onlyF hf11 (by omega)
        have hs11 := HS.out.only1 hF11 hg
        have htl : (l.take k).length = k := by rw [List.length_take, HL.out]; omega
        clear ho5 hcc hfc hf11
        cases b
        · go_wp2
          go_ret
          exact retLog_mk htl (by omega) (hsm.take k) ho11 hc11 (by omega) hF11
        · by_cases hn0 : 0 < n
          · have hnd : decide ((n : Int) > 0) = true := by simpa using hn0
            have hnd2 : (0 : Int) < n := by omega
            obtain ⟨bl, ol, rfl, hbl, d0, d1, d2, d3⟩ := hs11.1.entry (k := 0) hn0
            have hblg : ¬ bl = g := by have := hs11.2 _ rfl; have : base ≤ bl := this; omega
            obtain ⟨R, hR⟩ : ∃ R, (nth l 0).Room = R := ⟨_, rfl⟩
            rw [hR] at d0
            have m0 : V11.cell? ⟨bl, ol, none⟩ = some (.int .i64 R) := by simpa using d0
            clear d0 d1 d2 d3 hR hs11
            go_upto_region 5 with fail
            go_cut [6, 7] (fun s6 s7 wx => ∃ (X : List Entry) (A7 : Option Addr) (c7 : Nat) (ok : Bool), s6 = .slice A7 X.length c7 ∧ s7 = .bool ok ∧ Hid (ok = true → SmE X ∧ X.length = k + 1) ∧ Own wx w.heap.size 40 (.slice A7 X.length c7) X ∧ Own wx w.heap.size 40 (.slice A5 k c5) (l.take k) ∧ Cur wx g (N + 20) ∧ OnlyF [g] w wx)
            case first =>
              go_region_held3 (fun w' => w'.cell? ⟨bl, ol, none⟩ = some (.int .i64 R)) (first | exact m2 | exact m1 | exact m0 | (go_simp; done) | go_keep) (first | (go_at_call 50; refine (entryWords_any g _ _ (hc11.below (by repeat' (first | exact bl_refl _ | refine bl_alloc ?_ _ | refine bl_drew ?_ | refine bl_set ?_ (by simp; try omega) _))) (by omega)).mono ?_; rintro e V12 ⟨s, rfl, hs, hc12, hf12⟩; have m1 : V12.cell? ⟨bl, ol, none⟩ = some (.int .i64 R) := hf12.keeps (by go_simp) (by simp only [List.mem_singleton]; omega); have lb12 := World.block_lt_of_cell? _ _ m1; have ho12 := (ho11.below (by repeat' (first | exact bl_refl _ | refine bl_alloc ?_ _ | refine bl_drew ?_ | refine bl_set ?_ (by simp; try omega) _))).onlyF hf12 (by omega); have hF12 : OnlyF [g] w V12 := hF11.trans ((OnlyF.below (a := V11) (by repeat' (first | exact bl_refl _ | refine bl_alloc ?_ _ | refine bl_drew ?_ | refine bl_set ?_ (by simp; try omega) _))).trans hf12); have z12 := hF12.size) | (go_at_call 49; obtain ⟨⟨X, ok⟩, hX⟩ : ∃ C, apF (l.take k) R 50 s = C := ⟨_, rfl⟩; have hXs : Hid (ok = true → SmE X ∧ X.length = k + 1) := (fun h => by have := ap_small (hsm.take k) hs (by rw [hX, h]); rw [htl] at this; exact this); have hK := Lib.hid (show ∀ W : World, Sl W A5 k (l.take k) → Calls Tryz.prog 49 #[.slice A5 k c5, .int .i64 R, .int .i64 50, .string s] W (fun e w' => ∃ A' c', e = .returned (.tuple #[.slice A' X.length c', .bool ok]) ∧ Own w' W.heap.size 40 (.slice A' X.length c') X ∧ Below W.heap.size W w') from fun W h1 => by have h := lgAppend_any (l.take k) R 50 s A5 k c5 W (by omega) h1 (hsm.take k).max (by unfold maxLen; omega); rw [hX] at h; exact h); clear hX; have hbZ := bl_refl V12; refine (hK.out _ (ho12.below (by repeat' (first | exact bl_refl _ | refine bl_alloc ?_ _ | refine bl_drew ?_ | refine bl_set ?_ (by simp; try omega) _))).sl).mono ?_; rintro e V13 ⟨A7, c7, rfl, ho7, hb13⟩; have m2 : V13.cell? ⟨bl, ol, none⟩ = some (.int .i64 R) := cell_later hb13 (by go_simp); have ho13 := (ho12.below (by repeat' (first | exact bl_refl _ | refine bl_alloc ?_ _ | refine bl_drew ?_ | refine bl_set ?_ (by simp; try omega) _))).below hb13; have hc13 := (hc12.below (by repeat' (first | exact bl_refl _ | refine bl_alloc ?_ _ | refine bl_drew ?_ | refine bl_set ?_ (by simp; try omega) _))).below hb13; have hF13 : OnlyF [g] w V13 := hF12.trans (OnlyF.below (bl_trans (by repeat' (first | exact bl_refl _ | refine bl_alloc ?_ _ | refine bl_drew ?_ | refine bl_set ?_ (by simp; try omega) _)) hb13))))
              all_goals (go_wp2_with fail; go_meet; exact ⟨X, A7, c7, ok, rfl, rfl, hXs, (ho7.mono (by first | omega | (simp; omega))).below (by repeat' (first | exact bl_refl _ | refine bl_alloc ?_ _ | refine bl_drew ?_ | refine bl_set ?_ (by simp; try omega) _)), ho13.below (by repeat' (first | exact bl_refl _ | refine bl_alloc ?_ _ | refine bl_drew ?_ | refine bl_set ?_ (by simp; try omega) _)), (hc13.below (by repeat' (first | exact bl_refl _ | refine bl_alloc ?_ _ | refine bl_drew ?_ | refine bl_set ?_ (by simp; try omega) _))).mono (by omega), hF13.trans (OnlyF.below (by repeat' (first | exact bl_refl _ | refine bl_alloc ?_ _ | refine bl_drew ?_ | refine bl_set ?_ (by simp; try omega) _)))⟩)
            case rest =>
              obtain ⟨X, A7, c7, ok, rfl, rfl, hXs, ho7, ho8, hc8, hf8⟩ := hcut
              cases ok
              · go_wp2
                go_ret
                exact retLog_mk htl (by omega) (hsm.take k) ho8 hc8 (by omega) hf8
              · obtain ⟨hX1, hX2⟩ := hXs.out rfl
                have HX2 := Lib.hid hX2
                have hX3 : X.length ≤ 31 := by omega
                clear hX2
                go_wp2
                go_ret
                exact retLog_mk rfl hX3 hX1 ho7 hc8 (by omega) hf8
          · have hnd : decide ((n : Int) > 0) = false := by simp; omega
            have hnd2 : ¬ (0 : Int) < n := by omega
            go_wp2
            go_ret
            exact retLog_mk htl (by omega) (hsm.take k) ho11 hc11 (by omega) hF11
    · go_wp2_with fail
      refine (anyLog_any g _ _ (hc2.below (by repeat' (first | exact bl_refl _ | refine bl_alloc ?_ _ | refine bl_drew ?_ | refine bl_set ?_ (by simp; try omega) _))) (by omega)).mono ?_
      rintro e V3 ⟨l2, A2, c2, rfl, hl2, hsm2, ho2, hc3, hf3⟩
      have lg3 : g < V3.heap.size := hc3.lt
      have hF3 : OnlyF [g] w V3 := hF2.trans ((OnlyF.below (a := V2) (by repeat' (first | exact bl_refl _ | refine bl_alloc ?_ _ | refine bl_drew ?_ | refine bl_set ?_ (by simp; try omega) _))).trans hf3)
      go_wp2
      go_ret
      exact retLog_mk rfl (by omega) hsm2 (ho2.mono z2) hc3 (by omega) hF3
end Go.Proofs.YtfglmghcgoembaaGreatDoor

namespace Go.Proofs.YtfglmghcgoembaaGreatDoor
open Go.RowKit

/-- a drawn history -/
def RetHis (w : World) (g : Nat) (N : Int) (M : Nat) (e : Ending) (w' : World) : Prop := ∃ (l : List Entry) (A : Option Addr) (c : Nat), e = .returned (.slice A l.length c) ∧ l.length ≤ M ∧ SmE l ∧ SlB w' w.heap.size A l.length l ∧ Cur w' g N ∧ OnlyF [g] w w'
theorem retHis_mk {w w' : World} {g : Nat} {N M' : Int} {M q c : Nat} {A : Option Addr} {l : List Entry} (hl : l.length = q) (hq : q ≤ M) (hs : SmE l) (ho : SlB w' w.heap.size A q l) (hc : Cur w' g M') (hm : M' ≤ N) (hf : OnlyF [g] w w') : RetHis w g N M (.returned (.slice A q c)) w' := by
  subst hl; exact ⟨l, A, c, rfl, hq, hs, ho, hc.mono hm, hf⟩
theorem SmE.drop {l : List Entry} (h : SmE l) (k : Nat) : SmE (l.drop k) := fun e he => h e (List.mem_of_mem_drop he)
theorem slB_tail {w : World} {base b o n : Nat} {l : List Entry} (h : SlB w base (some ⟨b, o, none⟩) n l) : SlB w base (some ⟨b, o + 4, none⟩) (n - 1) (l.drop 1) := by
  refine ⟨⟨by rw [List.length_drop, h.1.1], fun k x hx => ?_⟩, fun p hp => by injection hp with hp; subst hp; exact h.2 ⟨b, o, none⟩ rfl⟩
  rw [List.getElem?_drop] at hx
  obtain ⟨b', o', cs, hA, hr, hc⟩ := h.1.2 (1 + k) x hx
  injection hA with hA
  injection hA with h2 h3
  subst h2; subst h3
  refine ⟨b, _, cs, rfl, hr, fun j v hv => ?_⟩
  have := hc j v hv
  have e : o + (1 + k) * Deep.sz Entry + j = o + 4 + k * Deep.sz Entry + j := by
    have : Deep.sz Entry = 4 := rfl
    rw [this]; omega
  rwa [e] at this
set_option maxRecDepth 100000 in
set_option maxHeartbeats 16000000 in
theorem history_any (g : Nat) (N : Int) (w : World) (hc : Cur w g N) (hN : N ≤ 500000000) :
    Calls Tryz.prog 22 #[.pointer (some ⟨g, 0, none⟩)] w (RetHis w g (N + 900) 50) := by
  have lg0 := hc.lt
  go_enter Tryz.func22, Tryz.ntmps22
  go_wp2_with fail
  refine (log_any g _ 1 _ (hc.below (by repeat' (first | exact bl_refl _ | refine bl_alloc ?_ _ | refine bl_drew ?_ | refine bl_set ?_ (by simp; try omega) _))) (by omega)).mono ?_
  rintro e V1 ⟨l1, A1, c1, rfl, hl1, hs1, ho1, hc1, hf1⟩
  have lg1 : g < V1.heap.size := hc1.lt
  have hF1 : OnlyF [g] w V1 := (OnlyF.below (a := w) (by repeat' (first | exact bl_refl _ | refine bl_alloc ?_ _ | refine bl_drew ?_ | refine bl_set ?_ (by simp; try omega) _))).trans hf1
  have z1 := hF1.size
  go_wp2_with fail
  refine (log_any g _ 2 _ (hc1.below (by repeat' (first | exact bl_refl _ | refine bl_alloc ?_ _ | refine bl_drew ?_ | refine bl_set ?_ (by simp; try omega) _))) (by omega)).mono ?_
  rintro e V2 ⟨l2, A2, c2, rfl, hl2, hs2, ho2, hc2, hf2⟩
  have lg2 : g < V2.heap.size := hc2.lt
  have hF2 : OnlyF [g] w V2 := hF1.trans ((OnlyF.below (a := V1) (by repeat' (first | exact bl_refl _ | refine bl_alloc ?_ _ | refine bl_drew ?_ | refine bl_set ?_ (by simp; try omega) _))).trans hf2)
  have z2 := hF2.size
  have ho12 := ((ho1.below (by repeat' (first | exact bl_refl _ | refine bl_alloc ?_ _ | refine bl_drew ?_ | refine bl_set ?_ (by simp; try omega) _))).onlyF hf2 (by omega))
  have km := Lib.hid (show ∀ W : World, Sl W A1 l1.length l1 → Sl W A2 l2.length l2 → Calls Tryz.prog 25 #[.slice A1 l1.length c1, .slice A2 l2.length c2] W (RetOwn W 40 (mgL l1 l2)) from fun W h1 h2 => mgHistory_any l1 l2 A1 A2 _ _ c1 c2 W (by omega) (by omega) h1 h2)
  have hml : (mgL l1 l2).length ≤ 48 := by rw [mgL_len]; omega
  have hsm := hs1.mg hs2
  obtain ⟨h, hh⟩ : ∃ h, mgL l1 l2 = h := ⟨_, rfl⟩
  rw [hh] at km hml hsm
  clear hh hs1 hs2
  go_wp2_with fail
  refine (km.out _ ho12.sl ho2.sl).mono ?_
  rintro e V3 ⟨A, c, rfl, ho, hb3⟩
  have hc3 := hc2.below hb3
  have hF3 := hF2.trans (OnlyF.below hb3)
  have z3 := hF3.size
  replace ho := ho.mono z2
  have lg3 := hc3.lt
  obtain ⟨m, hm⟩ : ∃ m, h.length = m := ⟨_, rfl⟩
  rw [hm] at ho hml ⊢
  have HM := Lib.hid hm
  clear hm km ho1 ho2 ho12 hc1 hf1 hF1 hc2 hf2 hF2 hb3 hl1 hl2
  go_wp2_with fail
  refine (pick_any g _ 24 _ (hc3.below (by repeat' (first | exact bl_refl _ | refine bl_alloc ?_ _ | refine bl_drew ?_ | refine bl_set ?_ (by simp; try omega) _))) (by omega) (by omega)).mono ?_
  rintro e V4 ⟨q, rfl, hq, hc4, hf4⟩
  have lg4 : g < V4.heap.size := hc4.lt
  have hF4 : OnlyF [g] w V4 := hF3.trans ((OnlyF.below (a := V3) (by repeat' (first | exact bl_refl _ | refine bl_alloc ?_ _ | refine bl_drew ?_ | refine bl_set ?_ (by simp; try omega) _))).trans hf4)
  clear hq
  have ho4 := (ho.below (by repeat' (first | exact bl_refl _ | refine bl_alloc ?_ _ | refine bl_drew ?_ | refine bl_set ?_ (by simp; try omega) _))).onlyF hf4 (by omega)
  have z4 := hF4.size
  clear ho hc3 hF3 hf4
  by_cases h0 : q = 0
  · subst h0
    go_wp2_with fail
    refine (among_any g _ _ _ _ [1, 2, 3] _ (hc4.below (by repeat' (first | exact bl_refl _ | refine bl_alloc ?_ _ | refine bl_drew ?_ | refine bl_set ?_ (by simp; try omega) _))) (by omega) (by exact sl_lit' (by simp) rfl rfl) (by omega) (by omega) (by rintro b o h _; injection h with h; injection h with h1; omega)).mono ?_
    rintro e V5 ⟨x1, rfl, hx1, hc5, hf5⟩
    have lg5 : g < V5.heap.size := hc5.lt
    have hF5 : OnlyF [g] w V5 := hF4.trans ((OnlyF.below (a := V4) (by repeat' (first | exact bl_refl _ | refine bl_alloc ?_ _ | refine bl_drew ?_ | refine bl_set ?_ (by simp; try omega) _))).trans hf5)
    clear hx1
    have ho5 := (ho4.below (by repeat' (first | exact bl_refl _ | refine bl_alloc ?_ _ | refine bl_drew ?_ | refine bl_set ?_ (by simp; try omega) _))).onlyF hf5 (by omega)
    clear ho4
    go_wp2_with fail
    refine (among_any g _ _ _ _ [1, 5] _ (hc5.below (by repeat' (first | exact bl_refl _ | refine bl_alloc ?_ _ | refine bl_drew ?_ | refine bl_set ?_ (by simp; try omega) _))) (by omega) (by exact sl_lit' (by simp) rfl rfl) (by omega) (by omega) (by rintro b o h _; injection h with h; injection h with h1; omega)).mono ?_
    rintro e V6 ⟨x2, rfl, hx2, hc6, hf6⟩
    have lg6 : g < V6.heap.size := hc6.lt
    have hF6 : OnlyF [g] w V6 := hF5.trans ((OnlyF.below (a := V5) (by repeat' (first | exact bl_refl _ | refine bl_alloc ?_ _ | refine bl_drew ?_ | refine bl_set ?_ (by simp; try omega) _))).trans hf6)
    clear hx2
    have ho6 := (ho5.below (by repeat' (first | exact bl_refl _ | refine bl_alloc ?_ _ | refine bl_drew ?_ | refine bl_set ?_ (by simp; try omega) _))).onlyF hf6 (by omega)
    clear ho5
    go_wp2_with fail
    refine (pick_any g _ 30 _ (hc6.below (by repeat' (first | exact bl_refl _ | refine bl_alloc ?_ _ | refine bl_drew ?_ | refine bl_set ?_ (by simp; try omega) _))) (by omega) (by omega)).mono ?_
    rintro e V7 ⟨x3, rfl, hx3, hc7, hf7⟩
    have lg7 : g < V7.heap.size := hc7.lt
    have hF7 : OnlyF [g] w V7 := hF6.trans ((OnlyF.below (a := V6) (by repeat' (first | exact bl_refl _ | refine bl_alloc ?_ _ | refine bl_drew ?_ | refine bl_set ?_ (by simp; try omega) _))).trans hf7)
    clear hx3
    have ho7 := (ho6.below (by repeat' (first | exact bl_refl _ | refine bl_alloc ?_ _ | refine bl_drew ?_ | refine bl_set ?_ (by simp; try omega) _))).onlyF hf7 (by omega)
    have z7 := hF7.size
    clear ho6
    go_wp2_with ((at_builtin; refine wpList_app1o rfl (.tmp 13) (.tmp 23) _ _ rfl el_ent (⟨x1, x2, x3, ⟨#[120]⟩⟩ : Entry) rfl ho7 z7 rfl (by simp) (by omega) ?_; intro A2 c2 w2 hoA hcA hfA))
    go_ret
    exact retHis_mk (l := h ++ [⟨x1, x2, x3, ⟨#[120]⟩⟩]) (by rw [List.length_append, HM.out]; rfl) (by omega) (hsm.snoc (by show (⟨#[120]⟩ : ByteArray).size ≤ 48; decide)) (by simpa [HM.out] using hoA.slb) (hcA _ _ lg0 hc7) (by omega) (hfA _ _ (Nat.le_refl _) hF7)
  by_cases h1 : q = 1
  · subst h1
    by_cases h1m : 1 < m
    · have hd : (1 : Int) < m := by omega
      have hd2 : decide ((m : Int) > 1) = true := by simpa using hd
      have hsl := ho4.slb
      have hcap := ho4.cap
      cases A with
      | none => exact absurd hsl.1.none_len (by omega)
      | some p =>
        obtain ⟨b, o, hA, _⟩ := hsl.1.flat (k := 0) (by omega)
        injection hA with hA
        subst hA
        have ht := slB_tail hsl
        have hmc : m ≤ c := hcap.1
        have hmd : (m : Int) ≤ c := by omega
        have hdl : (h.drop 1).length = m - 1 := by rw [List.length_drop, HM.out]
        have hsd := hsm.drop 1
        clear hsl ho4 hcap
        go_wp2
        go_ret
        exact retHis_mk hdl (by omega) hsd ht hc4 (by omega) hF4
    · have hd : ¬ (1 : Int) < m := by omega
      have hd2 : decide ((m : Int) > 1) = false := by simp; omega
      have hsl := ho4.slb
      skip
      go_wp2
      go_ret
      exact retHis_mk HM.out (by omega) hsm hsl hc4 (by omega) hF4
  have hd0 : (q == 0) = false := by simpa using h0
  have hd1 : (q == 1) = false := by simpa using h1
  have hsl := ho4.slb
  skip
  go_wp2
  go_ret
  exact retHis_mk HM.out (by omega) hsm hsl hc4 (by omega) hF4
set_option maxHeartbeats 8000000 in
theorem mgCut_any (g : Nat) (N : Int) (A : Option Addr) (n c : Nat) (w : World) (hc : Cur w g N) (hN : N ≤ 600000000) (hcap : n ≤ c) (hn : n ≤ 60) (hA : A = none → n = 0) :
    Calls Tryz.prog 24 #[.pointer (some ⟨g, 0, none⟩), .slice A n c] w fun e w' => (∃ k d : Nat, e = .returned (.slice A k d) ∧ k ≤ n ∧ k ≤ d) ∧ Cur w' g (N + 2) ∧ OnlyF [g] w w' := by
  have lg0 := hc.lt
  have hwn : IntKind.i64.wrap ((n : Int) + 1) = (n : Int) + 1 := wrapi (by omega) (by omega)
  go_enter Tryz.func24, Tryz.ntmps24
  go_wp2_with fail
  refine (pick_any g _ ((n : Int) + 1) _ (hc.below (by repeat' (first | exact bl_refl _ | refine bl_alloc ?_ _ | refine bl_drew ?_ | refine bl_set ?_ (by simp; try omega) _))) (by omega) (by omega)).mono ?_
  rintro e V1 ⟨r, rfl, hr, hc1, hf1⟩
  have lg1 : g < V1.heap.size := hc1.lt
  have hF1 : OnlyF [g] w V1 := (OnlyF.below (a := w) (by repeat' (first | exact bl_refl _ | refine bl_alloc ?_ _ | refine bl_drew ?_ | refine bl_set ?_ (by simp; try omega) _))).trans hf1
  have hr1 := hr.2 (by omega)
  obtain ⟨k, rfl⟩ := Int.eq_ofNat_of_zero_le hr.1
  have hkn : k ≤ n := by omega
  have hkc : k ≤ c := by omega
  have hkd : (k : Int) ≤ c := by omega
  have hk0 : (0 : Int) ≤ k := by omega
  clear hr hr1
  cases A with
  | none =>
    obtain rfl : k = 0 := by have := hA rfl; omega
    clear hA
    go_wp2
    go_ret
    exact ⟨⟨0, _, rfl, by omega, by omega⟩, hc1.mono (by omega), hF1⟩
  | some p =>
    clear hA
    go_wp2
    go_ret
    exact ⟨⟨k, c, rfl, hkn, hkc⟩, hc1.mono (by omega), hF1⟩
end Go.Proofs.YtfglmghcgoembaaGreatDoor
