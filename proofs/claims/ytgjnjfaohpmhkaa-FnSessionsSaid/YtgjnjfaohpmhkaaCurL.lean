/-
  The skills as they are drawn. No conditions.
-/
import Derived.Test.YtgjnjfaohpmhkaaCurK
import Derived.Test.YtgjnjfaohpmhkaaSkLr
import Derived.Test.YtgjnjfaohpmhkaaRenS
import Derived.Test.YtgjnjfaohpmhkaaLibK
import Derived.Deep.DeepCutAuto
namespace Go.Proofs.Ytgjnjfaohpmhkaa
open Go.RowKit

theorem el_skillo : Elem Try.prog 27 44 (Flat.sz Skill) := el_skill
set_option maxRecDepth 100000 in
set_option maxHeartbeats 16000000 in
theorem skills_any (g : Nat) (N : Int) (w : World) (hc : Cur w g N) (hN : N ≤ 800000000) :
    Calls Try.prog 51 #[.pointer (some ⟨g, 0, none⟩)] w fun e w' => ∃ (l : List Skill) (A : Option Addr) (c : Nat), e = .returned (.slice A l.length c) ∧ l.length ≤ 26 ∧ (∀ x, x ∈ l → x.Person.size ≤ 7) ∧ Own w' w.heap.size 44 (.slice A l.length c) l ∧ Cur w' g (N + 2000) ∧ OnlyF [g] w w' := by
  have lg0 := hc.lt
  go_enter Try.func51, Try.ntmps51
  go_wp2_with fail
  refine (pick_any g _ 9 _ (hc.below (by repeat' (first | exact bl_refl _ | refine bl_alloc ?_ _ | refine bl_drew ?_ | refine bl_set ?_ (by simp; try omega) _))) (by omega) (by omega)).mono ?_
  rintro e V1 ⟨p, rfl, hp, hc1, hf1⟩
  have lg1 : g < V1.heap.size := hc1.lt
  have hF1 : OnlyF [g] w V1 := (OnlyF.below (a := w) (by repeat' (first | exact bl_refl _ | refine bl_alloc ?_ _ | refine bl_drew ?_ | refine bl_set ?_ (by simp; try omega) _))).trans hf1
  have hp8 : p < 9 := hp.2 (by omega)
  have hp0 := hp.1
  clear hp
  go_wp2_with fail
  refine (one_any g _ 12 _ (hc1.below (by repeat' (first | exact bl_refl _ | refine bl_alloc ?_ _ | refine bl_drew ?_ | refine bl_set ?_ (by simp; try omega) _))) (by omega) (by omega)).mono ?_
  rintro e V2 ⟨b, rfl, hc2, hf2⟩
  have lg2 : g < V2.heap.size := hc2.lt
  have hF2 : OnlyF [g] w V2 := hF1.trans ((OnlyF.below (a := V1) (by repeat' (first | exact bl_refl _ | refine bl_alloc ?_ _ | refine bl_drew ?_ | refine bl_set ?_ (by simp; try omega) _))).trans hf2)
  go_upto_if 11 with fail
  go_cut [4] (fun s wx => ∃ n : Nat, n ≤ 72 ∧ s = .int .i64 n ∧ Cur wx g (N + 4) ∧ OnlyF [g] w wx)
  case first =>
    cases b
    · obtain ⟨k, rfl⟩ := Int.eq_ofNat_of_zero_le hp0
      go_wp2_with fail
      go_meet
      exact ⟨k, by omega, rfl, hc2.mono (by omega), hF2⟩
    · go_wp2_with fail
      go_meet
      exact ⟨72, by omega, rfl, hc2.mono (by omega), hF2⟩
  case rest =>
    obtain ⟨n, hn, rfl, hcc, hfc⟩ := hcut
    have lgc := hcc.lt
    have zc := hfc.size
    go_wp2
    go_loopw [3, 4] (fun lv kv wr => ∃ (k : Nat) (l : List Skill) (A : Option Addr) (c : Nat), k ≤ n ∧ kv = .int .i64 k ∧ lv = .slice A l.length c ∧ l.length ≤ 24 ∧ Hid (∀ x, x ∈ l → x.Person.size ≤ 7) ∧ Own wr w.heap.size 44 (.slice A l.length c) l ∧ Cur wr g (N + 4 + 20 * (72 - (k : Int))) ∧ OnlyF [g] w wr) (fun _ kv _ => (intOf kv).toNat)
    case atStart => exact ⟨n, [], none, 0, Nat.le_refl _, rfl, rfl, by simp, (fun x hx => by cases hx), Own.nil _ _ _, hcc.mono (by omega), hfc⟩
    case round =>
      obtain ⟨k, l, A, c, hk, rfl, rfl, hl, hlp, ho, hcr, hfr⟩ := hrel
      have lgr := hcr.lt
      have zr := hfr.size
      by_cases hk0 : 0 < k
      · have hkd : (0 : Int) < k := by omega
        have hkd2 : decide (0 < k) = true := decide_eq_true hk0
        go_wp2_with fail
        refine (personOf_any g _ _ (hcr.below (by repeat' (first | exact bl_refl _ | refine bl_alloc ?_ _ | refine bl_drew ?_ | refine bl_set ?_ (by simp; try omega) _))) (by omega)).mono ?_
        rintro e V11 ⟨x, rfl, hx, hc11, hf11⟩
        have lg11 : g < V11.heap.size := hc11.lt
        have hF11 : OnlyF [g] w V11 := hfr.trans ((OnlyF.below (a := wr) (by repeat' (first | exact bl_refl _ | refine bl_alloc ?_ _ | refine bl_drew ?_ | refine bl_set ?_ (by simp; try omega) _))).trans hf11)
        go_wp2_with fail
        refine (skillKind_any g _ _ (hc11.below (by repeat' (first | exact bl_refl _ | refine bl_alloc ?_ _ | refine bl_drew ?_ | refine bl_set ?_ (by simp; try omega) _))) (by omega)).mono ?_
        rintro e V12 ⟨kd, rfl, hkdd, hc12, hf12⟩
        have lg12 : g < V12.heap.size := hc12.lt
        have hF12 : OnlyF [g] w V12 := hF11.trans ((OnlyF.below (a := V11) (by repeat' (first | exact bl_refl _ | refine bl_alloc ?_ _ | refine bl_drew ?_ | refine bl_set ?_ (by simp; try omega) _))).trans hf12)
        go_wp2_with fail
        refine (pick_any g _ 200 _ (hc12.below (by repeat' (first | exact bl_refl _ | refine bl_alloc ?_ _ | refine bl_drew ?_ | refine bl_set ?_ (by simp; try omega) _))) (by omega) (by omega)).mono ?_
        rintro e V13 ⟨q, rfl, hq, hc13, hf13⟩
        have lg13 : g < V13.heap.size := hc13.lt
        have hF13 : OnlyF [g] w V13 := hF12.trans ((OnlyF.below (a := V12) (by repeat' (first | exact bl_refl _ | refine bl_alloc ?_ _ | refine bl_drew ?_ | refine bl_set ?_ (by simp; try omega) _))).trans hf13)
        have hq2 : q < 200 := hq.2 (by omega)
        have hq0 := hq.1
        clear hq
        go_wp2_with fail
        refine (among_any g _ _ _ _ [80, 90, 100, 120, 300, 20000, q] _ (hc13.below (by repeat' (first | exact bl_refl _ | refine bl_alloc ?_ _ | refine bl_drew ?_ | refine bl_set ?_ (by simp; try omega) _))) (by omega) (by exact sl_lit' (by simp) rfl rfl) (by omega) (by omega) (by rintro b o h _; injection h with h; injection h with h1; omega)).mono ?_
        rintro e V14 ⟨un, rfl, hun, hc14, hf14⟩
        have lg14 : g < V14.heap.size := hc14.lt
        have hF14 : OnlyF [g] w V14 := hF13.trans ((OnlyF.below (a := V13) (by repeat' (first | exact bl_refl _ | refine bl_alloc ?_ _ | refine bl_drew ?_ | refine bl_set ?_ (by simp; try omega) _))).trans hf14)
        clear hun
        have hoo : Own V14 w.heap.size 44 (.slice A l.length c) l := (((((ho.onlyF hf11 lg0).below (by repeat' (first | exact bl_refl _ | refine bl_alloc ?_ _ | refine bl_drew ?_ | refine bl_set ?_ (by simp; try omega) _))).onlyF hf12 lg0).below (by repeat' (first | exact bl_refl _ | refine bl_alloc ?_ _ | refine bl_drew ?_ | refine bl_set ?_ (by simp; try omega) _))).onlyF hf13 lg0 |>.below (by repeat' (first | exact bl_refl _ | refine bl_alloc ?_ _ | refine bl_drew ?_ | refine bl_set ?_ (by simp; try omega) _))).onlyF hf14 lg0
        obtain ⟨⟨R, rb⟩, hR⟩ : ∃ C, renF l ⟨x, kd, un⟩ = C := ⟨_, rfl⟩
        have hRs : rb = true → R.length ≤ 24 ∧ ∀ y, y ∈ R → y.Person.size ≤ 7 := fun h => renew_small (by rw [hR, h])
        have HRs := Lib.hid hRs
        clear hRs
        have hK := Lib.hid (show Calls Try.prog 78 #[.slice A l.length c, .string x, .int .i64 kd, .int .i64 un] V14 (fun e w' => ∃ A' c', e = .returned (.tuple #[.slice A' R.length c', .bool rb]) ∧ Own w' V14.heap.size 44 (.slice A' R.length c') R ∧ Below V14.heap.size V14 w') from by have h := specRenewSkill_any l ⟨x, kd, un⟩ A _ c V14 (by unfold maxLen; simp only []; omega) (by omega) hoo.sl (fun y hy => by have := hlp.out y hy; unfold maxLen; omega) hoo.capK; rw [hR] at h; exact h)
        have HR := Lib.hid hR
        clear hR
        go_wp2_with fail
        refine hK.out.mono ?_
        rintro e V15 ⟨A', c', rfl, ho', hb15⟩
        have hc15 := hc14.below hb15
        have hf15 := hF14.trans (.below hb15)
        have z15 := hF14.size
        cases rb
        · go_wp2
          go_roundw
          case rel => exact ⟨k - 1, l, A, c, by omega, by go_num, rfl, hl, hlp, hoo.below hb15, hc15.mono (by omega), hf15⟩
          case measure => simp [intOf]; omega
        · obtain ⟨hr1, hr2⟩ := HRs.out rfl
          go_wp2
          go_roundw
          case rel => exact ⟨k - 1, R, A', c', by omega, by go_num, rfl, hr1, hr2, ho'.mono z15, hc15.mono (by omega), hf15⟩
          case measure => simp [intOf]; omega
      · have hk00 : k = 0 := by omega
        subst hk00
        go_wp2_with fail
        refine (pick_any g _ 30 _ (hcr.below (by repeat' (first | exact bl_refl _ | refine bl_alloc ?_ _ | refine bl_drew ?_ | refine bl_set ?_ (by simp; try omega) _))) (by omega) (by omega)).mono ?_
        rintro e V21 ⟨q, rfl, hq, hc21, hf21⟩
        have lg21 : g < V21.heap.size := hc21.lt
        have hF21 : OnlyF [g] w V21 := hfr.trans ((OnlyF.below (a := wr) (by repeat' (first | exact bl_refl _ | refine bl_alloc ?_ _ | refine bl_drew ?_ | refine bl_set ?_ (by simp; try omega) _))).trans hf21)
        have hq0 := hq.1
        clear hq
        have ho21 := (ho.below (by repeat' (first | exact bl_refl _ | refine bl_alloc ?_ _ | refine bl_drew ?_ | refine bl_set ?_ (by simp; try omega) _))).onlyF hf21 lg0
        by_cases h0 : q = 0
        · subst h0
          go_wp2_with fail
          refine (personOf_any g _ _ (hc21.below (by repeat' (first | exact bl_refl _ | refine bl_alloc ?_ _ | refine bl_drew ?_ | refine bl_set ?_ (by simp; try omega) _))) (by omega)).mono ?_
          rintro e V22 ⟨x, rfl, hx, hc22, hf22⟩
          have lg22 : g < V22.heap.size := hc22.lt
          have hF22 : OnlyF [g] w V22 := hF21.trans ((OnlyF.below (a := V21) (by repeat' (first | exact bl_refl _ | refine bl_alloc ?_ _ | refine bl_drew ?_ | refine bl_set ?_ (by simp; try omega) _))).trans hf22)
          go_wp2_with fail
          refine (among_any g _ _ _ _ [0, -1, 6] _ (hc22.below (by repeat' (first | exact bl_refl _ | refine bl_alloc ?_ _ | refine bl_drew ?_ | refine bl_set ?_ (by simp; try omega) _))) (by omega) (by exact sl_lit' (by simp) rfl rfl) (by omega) (by omega) (by rintro b o h _; injection h with h; injection h with h1; omega)).mono ?_
          rintro e V23 ⟨kd, rfl, hkdd, hc23, hf23⟩
          have lg23 : g < V23.heap.size := hc23.lt
          have hF23 : OnlyF [g] w V23 := hF22.trans ((OnlyF.below (a := V22) (by repeat' (first | exact bl_refl _ | refine bl_alloc ?_ _ | refine bl_drew ?_ | refine bl_set ?_ (by simp; try omega) _))).trans hf23)
          clear hkdd
          go_wp2_with fail
          refine (among_any g _ _ _ _ [5, -1, 20001] _ (hc23.below (by repeat' (first | exact bl_refl _ | refine bl_alloc ?_ _ | refine bl_drew ?_ | refine bl_set ?_ (by simp; try omega) _))) (by omega) (by exact sl_lit' (by simp) rfl rfl) (by omega) (by omega) (by rintro b o h _; injection h with h; injection h with h1; omega)).mono ?_
          rintro e V24 ⟨un, rfl, hun, hc24, hf24⟩
          have lg24 : g < V24.heap.size := hc24.lt
          have hF24 : OnlyF [g] w V24 := hF23.trans ((OnlyF.below (a := V23) (by repeat' (first | exact bl_refl _ | refine bl_alloc ?_ _ | refine bl_drew ?_ | refine bl_set ?_ (by simp; try omega) _))).trans hf24)
          clear hun
          have ho24 := ((((ho21.below (by repeat' (first | exact bl_refl _ | refine bl_alloc ?_ _ | refine bl_drew ?_ | refine bl_set ?_ (by simp; try omega) _))).onlyF hf22 lg0).below (by repeat' (first | exact bl_refl _ | refine bl_alloc ?_ _ | refine bl_drew ?_ | refine bl_set ?_ (by simp; try omega) _))).onlyF hf23 lg0 |>.below (by repeat' (first | exact bl_refl _ | refine bl_alloc ?_ _ | refine bl_drew ?_ | refine bl_set ?_ (by simp; try omega) _))).onlyF hf24 lg0
          have z24 := hF24.size
          go_wp2_with ((at_builtin; refine wpList_app1o rfl (.tmp 36) (.tmp 46) _ _ rfl el_skill (⟨x, kd, un⟩ : Skill) rfl ho24 z24 rfl (by simp) (by omega) ?_; intro A2 c2 w2 ho2 hcu2 hof2))
          go_ret
          exact ⟨l ++ [⟨x, kd, un⟩], A2, c2, by simp, by simp; omega, fun y hy => by rcases List.mem_append.1 hy with hy | hy; exact hlp.out y hy; rw [List.mem_singleton.1 hy]; exact hx, by simpa using ho2, (hcu2 _ _ lg0 hc24).mono (by omega), hof2 _ _ (Nat.le_refl _) hF24⟩
        by_cases h1 : q = 1
        · subst h1
          go_wp2_with fail
          refine (pick_any g _ 2 _ (hc21.below (by repeat' (first | exact bl_refl _ | refine bl_alloc ?_ _ | refine bl_drew ?_ | refine bl_set ?_ (by simp; try omega) _))) (by omega) (by omega)).mono ?_
          rintro e V22 ⟨m, rfl, hm, hc22, hf22⟩
          have lg22 : g < V22.heap.size := hc22.lt
          have hF22 : OnlyF [g] w V22 := hF21.trans ((OnlyF.below (a := V21) (by repeat' (first | exact bl_refl _ | refine bl_alloc ?_ _ | refine bl_drew ?_ | refine bl_set ?_ (by simp; try omega) _))).trans hf22)
          have hm2 : m < 2 := hm.2 (by omega)
          have hm0 := hm.1
          clear hm ho ho21 hlp
          obtain ⟨M, hM⟩ : ∃ M : Nat, 24 + m = (M : Int) := ⟨(24 + m).toNat, by omega⟩
          have hM26 : M ≤ 25 := by omega
          have hw : IntKind.i64.wrap (24 + m) = (M : Int) := by rw [IntWalk.i64_in _ (by omega)]; exact hM
          have zz := hF22.size
          go_wp2
          go_loopw [3] (fun lv wq => ∃ (l : List Skill) (A : Option Addr) (c : Nat), l.length ≤ M ∧ lv = .slice A l.length c ∧ Hid (∀ x, x ∈ l → x.Person.size ≤ 7) ∧ Own wq w.heap.size 44 (.slice A l.length c) l ∧ Cur wq g (N + 1500) ∧ OnlyF [g] w wq) (fun lv _ => M - (match lv with | .slice _ n _ => n | _ => 0))
          case atStart => exact ⟨[], none, 0, by simp, rfl, (fun x hx => by cases hx), Own.nil _ _ _, hc22.mono (by omega), hF22⟩
          case round =>
            obtain ⟨l, A, c, hl, rfl, hlp, ho, hcr, hfr⟩ := hrel
            have zr := hfr.size
            obtain ⟨k, hk⟩ : ∃ k, l.length = k := ⟨_, rfl⟩
            rw [hk] at hl ho ⊢
            by_cases hlt : k < M
            · have hd1 : (k : Int) < M := by omega
              have t1 : (k : Int).tdiv 6 = ((k / 6 : Nat) : Int) := by rw [Int.tdiv_eq_ediv_of_nonneg (by omega)]; rfl
              have t2 : (k : Int).tmod 6 = ((k % 6 : Nat) : Int) := by rw [Int.tmod_eq_emod_of_nonneg (by omega)]; rfl
              have d6 : k / 6 ≤ 4 := by omega
              have m6 : k % 6 < 6 := by omega
              obtain ⟨d, hd⟩ : ∃ d, k / 6 = d := ⟨_, rfl⟩
              obtain ⟨r, hr⟩ : ∃ r, k % 6 = r := ⟨_, rfl⟩
              rw [hd] at t1 d6
              rw [hr] at t2 m6
              have HD := Lib.hid hd
              have HR := Lib.hid hr
              clear hd hr
              have w1 : IntKind.i64.wrap (d : Int) = (d : Int) := IntWalk.i64_in _ (by omega)
              have w2 : IntKind.i64.wrap ((d : Int) + 1) = ((d + 1 : Nat) : Int) := by rw [IntWalk.i64_in _ (by omega)]; omega
              have w3 : IntKind.i64.wrap (r : Int) = (r : Int) := IntWalk.i64_in _ (by omega)
              have hs5 : (⟨#[97, 98, 99, 100, 101]⟩ : ByteArray).size = 5 := rfl
              have hsz : ((⟨#[97, 98, 99, 100, 101]⟩ : ByteArray).extract d (d + 1)).size = 1 := by rw [ByteArray.size_extract, hs5]; omega
              have b1 : d ≤ d + 1 := by omega
              have b2 : d + 1 ≤ 5 := by omega
              have hs1 : (⟨#[112]⟩ : ByteArray).size = 1 := rfl
              have a1 : ¬ (9223372036854775807 < (⟨#[112]⟩ : ByteArray).size + ((⟨#[97, 98, 99, 100, 101]⟩ : ByteArray).extract d (d + 1)).size) := by omega
              have hps : ((⟨#[112]⟩ : ByteArray) ++ (⟨#[97, 98, 99, 100, 101]⟩ : ByteArray).extract d (d + 1)).size ≤ 7 := by rw [ByteArray.size_append]; omega
              go_wp2_with ((at_builtin; refine wpList_app1o rfl (.tmp 57) (.tmp 71) _ _ rfl el_skill (⟨(⟨#[112]⟩ : ByteArray) ++ (⟨#[97, 98, 99, 100, 101]⟩ : ByteArray).extract d (d + 1), (r : Int), 0⟩ : Skill) rfl ho zr rfl (by simp) (by omega) ?_; intro A2 c2 w2 ho2 hcu2 hof2))
              go_roundw
              case rel => exact ⟨l ++ [⟨(⟨#[112]⟩ : ByteArray) ++ (⟨#[97, 98, 99, 100, 101]⟩ : ByteArray).extract d (d + 1), (r : Int), 0⟩], A2, c2, by simp; omega, by simp [hk], (fun y hy => by rcases List.mem_append.1 hy with hy | hy; exact hlp.out y hy; rw [List.mem_singleton.1 hy]; exact hps), by simpa [hk] using ho2, hcu2 _ _ lg0 hcr, hof2 _ _ (Nat.le_refl _) hfr⟩
              case measure => simp; omega
            · have hd1 : ¬ ((k : Int) < M) := by omega
              go_wp2
              go_ret
              exact ⟨l, A, c, by rw [hk]; rfl, by omega, hlp.out, by rw [hk]; exact ho, hcr.mono (by omega), hfr⟩
        go_wp2
        go_ret
        exact ⟨l, A, c, rfl, by omega, hlp.out, ho21, hc21.mono (by omega), hF21⟩

end Go.Proofs.Ytgjnjfaohpmhkaa
