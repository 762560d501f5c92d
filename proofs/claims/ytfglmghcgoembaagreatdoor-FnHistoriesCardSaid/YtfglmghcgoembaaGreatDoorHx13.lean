/-
  Several texts in one. No conditions.
-/
import Derived.Test.YtfglmghcgoembaaGreatDoorHx9
import Derived.Test.YtfglmghcgoembaaGreatDoorHx12
import Derived.Deep.CutBlock
import Derived.Test.YtfglmghcgoembaaGreatDoorHx8
import Derived.Laws.IdiomCopy
namespace Go.Proofs.YtfglmghcgoembaaGreatDoor
open Go.RowKit

/-- a drawn list of entries -/
def RetLog (w : World) (g : Nat) (N : Int) (M : Nat) (e : Ending) (w' : World) : Prop := ∃ (l : List Entry) (A : Option Addr) (c : Nat), e = .returned (.slice A l.length c) ∧ l.length ≤ M ∧ SmE l ∧ Own w' w.heap.size 40 (.slice A l.length c) l ∧ Cur w' g N ∧ OnlyF [g] w w'
theorem SmE.snoc {l : List Entry} {x : Entry} (h : SmE l) (hx : x.Text.size ≤ 48) : SmE (l ++ [x]) := fun e he => by
  rcases List.mem_append.1 he with k | k
  · exact h e k
  · rw [List.mem_singleton.1 k]; exact hx
theorem SmE.max {l : List Entry} (h : SmE l) : ∀ x, x ∈ l → x.Text.size ≤ maxLen := fun x hx => by have := h x hx; unfold maxLen; omega
theorem retLog_mk {w w' : World} {g : Nat} {N M' : Int} {M q c : Nat} {A : Option Addr} {l : List Entry} (hl : l.length = q) (hq : q ≤ M) (hs : SmE l) (ho : Own w' w.heap.size 40 (.slice A q c) l) (hc : Cur w' g M') (hm : M' ≤ N) (hf : OnlyF [g] w w') : RetLog w g N M (.returned (.slice A q c)) w' := by
  subst hl; exact ⟨l, A, c, rfl, hq, hs, ho, hc.mono hm, hf⟩
theorem SmE.nil : SmE [] := fun _ h => by cases h
theorem ap_small {l X : List Entry} {r m : Int} {s : ByteArray} (hl : SmE l) (hs : s.size ≤ 48) (h : apF l r m s = (X, true)) : SmE X ∧ X.length = l.length + 1 := by
  cases hc : lgB (apX l r m s) with
  | false => rw [apF_no hc] at h; cases h
  | true =>
    rw [apF_yes hc] at h
    injection h with h1 _
    subst h1
    exact ⟨hl.snoc hs, by unfold apX; simp⟩
set_option maxRecDepth 100000 in
set_option maxHeartbeats 16000000 in
theorem log_any (g : Nat) (N r : Int) (w : World) (hc : Cur w g N) (hN : N ≤ 800000000) :
    Calls Tryz.prog 23 #[.pointer (some ⟨g, 0, none⟩), .int .i64 r] w (RetLog w g (N + 400) 24) := by
  have lg0 := hc.lt
  go_enter Tryz.func23, Tryz.ntmps23
  go_wp2_with fail
  refine (pick_any g _ 10 _ (hc.below (by repeat' (first | exact bl_refl _ | refine bl_alloc ?_ _ | refine bl_drew ?_ | refine bl_set ?_ (by simp; try omega) _))) (by omega) (by omega)).mono ?_
  rintro e V1 ⟨p, rfl, hp, hc1, hf1⟩
  have lg1 : g < V1.heap.size := hc1.lt
  have hF1 : OnlyF [g] w V1 := (OnlyF.below (a := w) (by repeat' (first | exact bl_refl _ | refine bl_alloc ?_ _ | refine bl_drew ?_ | refine bl_set ?_ (by simp; try omega) _))).trans hf1
  have hp9 : p < 10 := hp.2 (by omega)
  have hp0 := hp.1
  clear hp
  go_wp2_with fail
  refine (pick_any g _ 7 _ (hc1.below (by repeat' (first | exact bl_refl _ | refine bl_alloc ?_ _ | refine bl_drew ?_ | refine bl_set ?_ (by simp; try omega) _))) (by omega) (by omega)).mono ?_
  rintro e V2 ⟨n0, rfl, hn0, hc2, hf2⟩
  have lg2 : g < V2.heap.size := hc2.lt
  have hF2 : OnlyF [g] w V2 := hF1.trans ((OnlyF.below (a := V1) (by repeat' (first | exact bl_refl _ | refine bl_alloc ?_ _ | refine bl_drew ?_ | refine bl_set ?_ (by simp; try omega) _))).trans hf2)
  have hn7 : n0 < 7 := hn0.2 (by omega)
  obtain ⟨n0, rfl⟩ := Int.eq_ofNat_of_zero_le hn0.1
  clear hn0
  go_wp2_with fail
  refine (one_any g _ 12 _ (hc2.below (by repeat' (first | exact bl_refl _ | refine bl_alloc ?_ _ | refine bl_drew ?_ | refine bl_set ?_ (by simp; try omega) _))) (by omega) (by omega)).mono ?_
  rintro e V3 ⟨b, rfl, hc3, hf3⟩
  have lg3 : g < V3.heap.size := hc3.lt
  have hF3 : OnlyF [g] w V3 := hF2.trans ((OnlyF.below (a := V2) (by repeat' (first | exact bl_refl _ | refine bl_alloc ?_ _ | refine bl_drew ?_ | refine bl_set ?_ (by simp; try omega) _))).trans hf3)
  go_upto_if 15 with fail
  go_cut [7] (fun s wx => ∃ n : Nat, n ≤ 24 ∧ s = .int .i64 n ∧ Cur wx g (N + 6) ∧ OnlyF [g] w wx)
  case first =>
    cases b
    · go_wp2_with fail
      go_meet
      exact ⟨n0, by omega, rfl, hc3.mono (by omega), hF3⟩
    · go_wp2_with fail
      go_meet
      exact ⟨24, by omega, rfl, hc3.mono (by omega), hF3⟩
  case rest =>
    obtain ⟨n, hn, rfl, hcc, hfc⟩ := hcut
    have lgc := hcc.lt
    have zc := hfc.size
    clear hc1 hf1 hF1 hc2 hf2 hF2 hc3 hf3 hF3 hn7
    go_wp2
    go_loopw [5, 6, 7] (fun lv mv nv wr => ∃ (l : List Entry) (A : Option Addr) (q c : Nat) (m : Int) (k : Nat), lv = .slice A q c ∧ mv = .int .i64 m ∧ nv = .int .i64 k ∧ Hid (l.length = q) ∧ k ≤ 24 ∧ q + k ≤ 24 ∧ 0 ≤ m ∧ m + 10 * (k : Int) ≤ 260 ∧ SmE l ∧ Own wr w.heap.size 40 (.slice A q c) l ∧ Cur wr g (N + 6 + 10 * (24 - (k : Int))) ∧ OnlyF [g] w wr) (fun _ _ nv _ => (intOf nv).toNat)
    case atStart => exact ⟨[], none, 0, 0, p, n, rfl, rfl, rfl, rfl, hn, by omega, hp0, by omega, SmE.nil, Own.nil _ _ _, hcc.mono (by omega), hfc⟩
    case round =>
      obtain ⟨l, A, q, c, m, k, rfl, rfl, rfl, hl, hk, hqk, hm0, hm1, hsm, ho, hcr, hfr⟩ := hrel
      have lgr := hcr.lt
      have zr := hfr.size
      by_cases hk0 : 0 < k
      · have hkd : decide ((k : Int) > 0) = true := by simpa using hk0
        have hkd2 : (0 : Int) < k := by omega
        have hwk : IntKind.i64.wrap ((k : Int) - 1) = ((k - 1 : Nat) : Int) := by rw [IntWalk.i64_in _ (by omega)]; omega
        go_wp2_with fail
        refine (entryWords_any g _ _ (hcr.below (by repeat' (first | exact bl_refl _ | refine bl_alloc ?_ _ | refine bl_drew ?_ | refine bl_set ?_ (by simp; try omega) _))) (by omega)).mono ?_
        rintro e V11 ⟨s, rfl, hs, hc11, hf11⟩
        have lg11 : g < V11.heap.size := hc11.lt
        have hF11 : OnlyF [g] w V11 := hfr.trans ((OnlyF.below (a := wr) (by repeat' (first | exact bl_refl _ | refine bl_alloc ?_ _ | refine bl_drew ?_ | refine bl_set ?_ (by simp; try omega) _))).trans hf11)
        have ho11 := (ho.below (by repeat' (first | exact bl_refl _ | refine bl_alloc ?_ _ | refine bl_drew ?_ | refine bl_set ?_ (by simp; try omega) _))).onlyF hf11 (by omega)
        obtain ⟨⟨X, ok⟩, hX⟩ : ∃ C, apF l r m s = C := ⟨_, rfl⟩
        have hXs : ok = true → SmE X ∧ X.length = q + 1 := fun h => by have := ap_small hsm hs (by rw [hX, h]); rw [hl.out] at this; exact this
        have HXs := Lib.hid hXs
        clear hXs
        have hK := Lib.hid (show Calls Tryz.prog 49 #[.slice A q c, .int .i64 r, .int .i64 m, .string s] V11 (fun e w' => ∃ A' c', e = .returned (.tuple #[.slice A' X.length c', .bool ok]) ∧ Own w' V11.heap.size 40 (.slice A' X.length c') X ∧ Below V11.heap.size V11 w') from by have h := lgAppend_any l r m s A q c V11 (by omega) ho11.sl hsm.max (by unfold maxLen; omega); rw [hX] at h; exact h)
        clear hX
        go_wp2_with fail
        refine hK.out.mono ?_
        rintro e V12 ⟨A', c', rfl, ho', hb12⟩
        have hc12 := hc11.below hb12
        have hf12 := hF11.trans (.below hb12)
        have lg12 := hc12.lt
        have z12 := hf12.size
        have z11 := hF11.size
        cases ok
        · have ho12 := ho11.below hb12
          clear ho ho11 ho' HXs hK hcr hfr hc11 hf11 hF11 hb12 hs
          go_wp2_with fail
          refine (among_any g _ _ _ _ [0, 0, 1, 3, 10] _ (hc12.below (by repeat' (first | exact bl_refl _ | refine bl_alloc ?_ _ | refine bl_drew ?_ | refine bl_set ?_ (by simp; try omega) _))) (by omega) (by exact sl_lit' (by simp) rfl rfl) (by omega) (by omega) (by rintro b o h _; injection h with h; injection h with h1; omega)).mono ?_
          rintro e V21 ⟨x, rfl, hx, hc21, hf21⟩
          have lg21 : g < V21.heap.size := hc21.lt
          have hF21 : OnlyF [g] w V21 := hf12.trans ((OnlyF.below (a := V12) (by repeat' (first | exact bl_refl _ | refine bl_alloc ?_ _ | refine bl_drew ?_ | refine bl_set ?_ (by simp; try omega) _))).trans hf21)
          have hxz : 0 ≤ x ∧ x ≤ 10 := by simp only [List.mem_cons, List.not_mem_nil, or_false] at hx; rcases hx with rfl | rfl | rfl | rfl | rfl <;> omega
          clear hx
          have ho21 := (ho12.below (by repeat' (first | exact bl_refl _ | refine bl_alloc ?_ _ | refine bl_drew ?_ | refine bl_set ?_ (by simp; try omega) _))).onlyF hf21 (by omega)
          have hwm : IntKind.i64.wrap (m + x) = m + x := wrapi (by omega) (by omega)
          go_wp2
          go_roundw
          case rel => exact ⟨l, A, q, c, m + x, k - 1, rfl, rfl, by go_num, hl, by omega, by omega, by omega, by omega, hsm, ho21, hc21.mono (by omega), hF21⟩
          case measure => simp [intOf]; omega
        · obtain ⟨hX1, hX2⟩ := HXs.out rfl
          have HX2 := Lib.hid hX2
          rw [hX2] at ho'
          rw [hX2]
          have ho12 := ho'.mono z11
          clear hX2 ho ho11 ho' HXs hK hcr hfr hc11 hf11 hF11 hb12 hs
          go_wp2_with fail
          refine (among_any g _ _ _ _ [0, 0, 1, 3, 10] _ (hc12.below (by repeat' (first | exact bl_refl _ | refine bl_alloc ?_ _ | refine bl_drew ?_ | refine bl_set ?_ (by simp; try omega) _))) (by omega) (by exact sl_lit' (by simp) rfl rfl) (by omega) (by omega) (by rintro b o h _; injection h with h; injection h with h1; omega)).mono ?_
          rintro e V21 ⟨x, rfl, hx, hc21, hf21⟩
          have lg21 : g < V21.heap.size := hc21.lt
          have hF21 : OnlyF [g] w V21 := hf12.trans ((OnlyF.below (a := V12) (by repeat' (first | exact bl_refl _ | refine bl_alloc ?_ _ | refine bl_drew ?_ | refine bl_set ?_ (by simp; try omega) _))).trans hf21)
          have hxz : 0 ≤ x ∧ x ≤ 10 := by simp only [List.mem_cons, List.not_mem_nil, or_false] at hx; rcases hx with rfl | rfl | rfl | rfl | rfl <;> omega
          clear hx
          have ho21 := (ho12.below (by repeat' (first | exact bl_refl _ | refine bl_alloc ?_ _ | refine bl_drew ?_ | refine bl_set ?_ (by simp; try omega) _))).onlyF hf21 (by omega)
          have hwm : IntKind.i64.wrap (m + x) = m + x := wrapi (by omega) (by omega)
          go_wp2
          go_roundw
          case rel => exact ⟨X, A', q + 1, c', m + x, k - 1, rfl, rfl, by go_num, HX2, by omega, by omega, by omega, by omega, hX1, ho21, hc21.mono (by omega), hF21⟩
          case measure => simp [intOf]; omega
      · have hkd : decide ((k : Int) > 0) = false := by simp; omega
        have hkd2 : ¬ (0 : Int) < k := by omega
        have HL := Lib.hid hl.out
        go_wp2
        go_ret
        exact retLog_mk HL.out (by omega) hsm ho hcr (by omega) hfr
end Go.Proofs.YtfglmghcgoembaaGreatDoor

namespace Go.Proofs.YtfglmghcgoembaaGreatDoor
open Go.RowKit

theorem run_copy_cellsN {P : Program} (w : World) (dT sT ty elem : TypeId) (k b o dLen dCap : Nat) (a : Addr) (sLen sCap : Nat) (cs : List Value)
    (hu : P.underlying dT = some (.slice elem)) (hs : (P.info? elem).map (·.size) = some k) (hn : cs.length = Nat.min sLen dLen * k)
    (hsrc : ∀ j v, cs[j]? = some v → w.cell? (a.add j) = some v) (hc : ∀ j, j < cs.length → (w.cell? ⟨b, o + j, none⟩).isSome = true) (hf : ∀ j, j < cs.length → w.frozen? ⟨b, o + j, none⟩ = false) (h1 : ∀ v ∈ cs, v.oneCell' = true) :
    (Builtin.copy_ #[dT, sT] ty #[.slice (some ⟨b, o, none⟩) dLen dCap, .slice (some a) sLen sCap]).run P w = .ok (goInt (Nat.min sLen dLen)) (w.setCells b o cs) := by
  have hl := run_loadCells_list (P := P) w a cs hsrc
  have hst := run_storeCells_cells (P := P) b o cs 0 w (by simpa using hc) (by simpa using hf) h1
  cases hq : P.info? elem with
  | none => simp [hq] at hs
  | some i =>
    have hi : i.size = k := by simpa [hq] using hs
    rw [hn] at hl
    have hn' : Nat.min sLen dLen * k = min sLen dLen * k := rfl
    first
      | (simp [Builtin.copy_, run_underlying hu, Builtin.lenOf, Builtin.firstCells, sizeOf, typeInfo, hq, hi, hl, hst]; done)
      | (rw [hn', Nat.mul_comm] at hl; simp [Builtin.copy_, run_underlying hu, Builtin.lenOf, Builtin.firstCells, sizeOf, typeInfo, hq, hi, hl, hst]; done)

end Go.Proofs.YtfglmghcgoembaaGreatDoor
