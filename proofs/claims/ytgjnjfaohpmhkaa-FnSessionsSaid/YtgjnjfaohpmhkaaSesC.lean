/-
  Several texts in one. No conditions.
-/
import Derived.Test.YtgjnjfaohpmhkaaCurK
import Derived.Test.YtgjnjfaohpmhkaaCurM
import Derived.Test.YtgjnjfaohpmhkaaSesA
namespace Go.Proofs.Ytgjnjfaohpmhkaa
open Go.RowKit

set_option maxRecDepth 100000 in
set_option maxHeartbeats 8000000 in
theorem aheadOf_any (g : Nat) (N : Int) (w : World) (hc : Cur w g N) (hN : N ≤ 900000000) :
    Calls Try.prog 53 #[.pointer (some ⟨g, 0, none⟩)] w fun e w' => ∃ x : Int, e = .returned (.int .i64 x) ∧ (-1 ≤ x ∧ x ≤ 1001) ∧ Cur w' g (N + 4) ∧ OnlyF [g] w w' := by
  have lg0 := hc.lt
  go_enter Try.func53, Try.ntmps53
  go_wp2_with fail
  refine (among_any g _ _ _ _ [-1, 1001] _ (hc.below (by repeat' (first | exact bl_refl _ | refine bl_alloc ?_ _ | refine bl_drew ?_ | refine bl_set ?_ (by simp; try omega) _))) (by omega) (by exact sl_lit' (by simp) rfl rfl) (by omega) (by omega) (by rintro b o h _; injection h with h; injection h with h1; omega)).mono ?_
  rintro e V1 ⟨v0, rfl, hv0, hc1, hf1⟩
  have lg1 : g < V1.heap.size := hc1.lt
  have hF1 : OnlyF [g] w V1 := (OnlyF.below (a := w) (by repeat' (first | exact bl_refl _ | refine bl_alloc ?_ _ | refine bl_drew ?_ | refine bl_set ?_ (by simp; try omega) _))).trans hf1
  have hw0 : -1 ≤ v0 ∧ v0 ≤ 1001 := by simp only [List.mem_cons, List.not_mem_nil, or_false] at hv0; rcases hv0 with rfl | rfl <;> omega
  clear hv0
  go_wp2_with fail
  refine (among_any g _ _ _ _ [0, 1, 10, 30, 1000, v0] _ (hc1.below (by repeat' (first | exact bl_refl _ | refine bl_alloc ?_ _ | refine bl_drew ?_ | refine bl_set ?_ (by simp; try omega) _))) (by omega) (by exact sl_lit' (by simp) rfl rfl) (by omega) (by omega) (by rintro b o h _; injection h with h; injection h with h1; omega)).mono ?_
  rintro e V2 ⟨v1, rfl, hv1, hc2, hf2⟩
  have lg2 : g < V2.heap.size := hc2.lt
  have hF2 : OnlyF [g] w V2 := hF1.trans ((OnlyF.below (a := V1) (by repeat' (first | exact bl_refl _ | refine bl_alloc ?_ _ | refine bl_drew ?_ | refine bl_set ?_ (by simp; try omega) _))).trans hf2)
  have hw1 : -1 ≤ v1 ∧ v1 ≤ 1001 := by simp only [List.mem_cons, List.not_mem_nil, or_false] at hv1; rcases hv1 with rfl | rfl | rfl | rfl | rfl | rfl <;> omega
  clear hv1
  go_wp2
  go_ret
  exact ⟨v1, rfl, hw1, hc2.mono (by omega), hF2⟩

end Go.Proofs.Ytgjnjfaohpmhkaa

namespace Go.Proofs.Ytgjnjfaohpmhkaa
open Go.RowKit

set_option maxRecDepth 100000 in
set_option maxHeartbeats 8000000 in
theorem drawSessions_any (A : Option Addr) (n c : Nat) (cs : List Byt) (w : World) (hcode : CodeIs w A n cs) :
    Calls Try.prog 15 #[.slice A n c] w fun e w' => ∃ (l : List Skill) (A' : Option Addr) (c' : Nat) (u a m : Int), e = .returned (.tuple #[.slice A' l.length c', .int .i64 u, .int .i64 a, .int .i64 m]) ∧ l.length ≤ 26 ∧ (∀ x, x ∈ l → x.Person.size ≤ 7) ∧ (-1 ≤ u ∧ u ≤ 20001) ∧ (-1 ≤ a ∧ a ≤ 1001) ∧ (0 ≤ m ∧ m ≤ 11) ∧ Own w' w.heap.size 44 (.slice A' l.length c') l ∧ Below w.heap.size w w' := by
  go_enter Try.func15, Try.ntmps15
  go_wp2_with fail
  refine (skills_any w.heap.size 0 _ (hcode.cur (by simp)) (by omega)).mono ?_
  rintro e V1 ⟨l, A', c', rfl, hl, hlp, ho1, hc1, hf1⟩
  have lg1 := hc1.lt
  have hk1 : Below w.heap.size w V1 := below_only (by repeat' (first | exact bl_refl _ | refine bl_alloc ?_ _ | refine bl_drew ?_)) hf1 (lies1 w.heap.size) (Nat.le_refl _)
  go_wp2_with fail
  refine (skillDay_any w.heap.size _ _ (hc1.below (by repeat' (first | exact bl_refl _ | refine bl_alloc ?_ _ | refine bl_drew ?_))) (by omega)).mono ?_
  rintro e V2 ⟨u, rfl, hz_u, hc2, hf2⟩
  have lg2 := hc2.lt
  have hk2 : Below w.heap.size w V2 := below_only (bl_trans hk1 (by repeat' (first | exact bl_refl _ | refine bl_alloc ?_ _ | refine bl_drew ?_))) hf2 (lies1 w.heap.size) (Nat.le_refl _)
  have ho2 := (ho1.below (by repeat' (first | exact bl_refl _ | refine bl_alloc ?_ _ | refine bl_drew ?_))).onlyF hf2 (by simp only [World.size_alloc]; omega)
  go_wp2_with fail
  refine (aheadOf_any w.heap.size _ _ (hc2.below (by repeat' (first | exact bl_refl _ | refine bl_alloc ?_ _ | refine bl_drew ?_))) (by omega)).mono ?_
  rintro e V3 ⟨a, rfl, hz_a, hc3, hf3⟩
  have lg3 := hc3.lt
  have hk3 : Below w.heap.size w V3 := below_only (bl_trans hk2 (by repeat' (first | exact bl_refl _ | refine bl_alloc ?_ _ | refine bl_drew ?_))) hf3 (lies1 w.heap.size) (Nat.le_refl _)
  have ho3 := (ho2.below (by repeat' (first | exact bl_refl _ | refine bl_alloc ?_ _ | refine bl_drew ?_))).onlyF hf3 (by simp only [World.size_alloc]; omega)
  go_wp2_with fail
  refine (among_any w.heap.size _ _ _ _ [0, 11] _ (hc3.below (by repeat' (first | exact bl_refl _ | refine bl_alloc ?_ _ | refine bl_drew ?_))) (by omega) (by exact sl_lit' (by simp) rfl rfl) (by omega) (by omega) (by rintro b o h _; injection h with h; injection h with h1; (try simp at h1); omega)).mono ?_
  rintro e V4 ⟨m0, rfl, hm_m0, hc4, hf4⟩
  have lg4 := hc4.lt
  have hk4 : Below w.heap.size w V4 := below_only (bl_trans hk3 (by repeat' (first | exact bl_refl _ | refine bl_alloc ?_ _ | refine bl_drew ?_))) hf4 (lies1 w.heap.size) (Nat.le_refl _)
  have ho4 := (ho3.below (by repeat' (first | exact bl_refl _ | refine bl_alloc ?_ _ | refine bl_drew ?_))).onlyF hf4 (by simp only [World.size_alloc]; omega)
  have hz_m0 : 0 ≤ m0 ∧ m0 ≤ 11 := by simp only [List.mem_cons, List.not_mem_nil, or_false] at hm_m0; rcases hm_m0 with rfl | rfl <;> omega
  clear hm_m0
  go_wp2_with fail
  refine (among_any w.heap.size _ _ _ _ [1, 2, 2, 3, 10, m0] _ (hc4.below (by repeat' (first | exact bl_refl _ | refine bl_alloc ?_ _ | refine bl_drew ?_))) (by omega) (by exact sl_lit' (by simp) rfl rfl) (by omega) (by omega) (by rintro b o h _; injection h with h; injection h with h1; (try simp at h1); omega)).mono ?_
  rintro e V5 ⟨m, rfl, hm_m, hc5, hf5⟩
  have lg5 := hc5.lt
  have hk5 : Below w.heap.size w V5 := below_only (bl_trans hk4 (by repeat' (first | exact bl_refl _ | refine bl_alloc ?_ _ | refine bl_drew ?_))) hf5 (lies1 w.heap.size) (Nat.le_refl _)
  have ho5 := (ho4.below (by repeat' (first | exact bl_refl _ | refine bl_alloc ?_ _ | refine bl_drew ?_))).onlyF hf5 (by simp only [World.size_alloc]; omega)
  have hz_m : 0 ≤ m ∧ m ≤ 11 := by simp only [List.mem_cons, List.not_mem_nil, or_false] at hm_m; rcases hm_m with rfl | rfl | rfl | rfl | rfl | rfl <;> omega
  clear hm_m
  go_wp2
  (try simp only [Exit.inBlock, Exit.then]); refine bodyPost_ret (results_tmp4 rfl _ _ _) rfl ?_
  exact ⟨l, A', c', u, a, m, rfl, hl, hlp, hz_u, hz_a, hz_m, ho5.mono (by simp only [World.size_alloc]; omega), hk5⟩
set_option maxRecDepth 100000 in
set_option maxHeartbeats 8000000 in
theorem drawIsQ_any (A : Option Addr) (n c : Nat) (cs : List Byt) (w : World) (hcode : CodeIs w A n cs) :
    Calls Try.prog 31 #[.slice A n c] w fun e w' => ∃ (l : List Skill) (A' : Option Addr) (c' : Nat) (p : ByteArray) (k u : Int), e = .returned (.tuple #[.slice A' l.length c', .string p, .int .i64 k, .int .i64 u]) ∧ l.length ≤ 26 ∧ (∀ x, x ∈ l → x.Person.size ≤ 7) ∧ p.size ≤ 7 ∧ (-1 ≤ k ∧ k ≤ 6) ∧ (-1 ≤ u ∧ u ≤ 20001) ∧ Own w' w.heap.size 44 (.slice A' l.length c') l ∧ Below w.heap.size w w' := by
  go_enter Try.func31, Try.ntmps31
  go_wp2_with fail
  refine (skills_any w.heap.size 0 _ (hcode.cur (by simp)) (by omega)).mono ?_
  rintro e V1 ⟨l, A', c', rfl, hl, hlp, ho1, hc1, hf1⟩
  have lg1 := hc1.lt
  have hk1 : Below w.heap.size w V1 := below_only (by repeat' (first | exact bl_refl _ | refine bl_alloc ?_ _ | refine bl_drew ?_)) hf1 (lies1 w.heap.size) (Nat.le_refl _)
  go_wp2_with fail
  refine (personOf_any w.heap.size _ _ (hc1.below (by repeat' (first | exact bl_refl _ | refine bl_alloc ?_ _ | refine bl_drew ?_))) (by omega)).mono ?_
  rintro e V2 ⟨p, rfl, hz_p, hc2, hf2⟩
  have lg2 := hc2.lt
  have hk2 : Below w.heap.size w V2 := below_only (bl_trans hk1 (by repeat' (first | exact bl_refl _ | refine bl_alloc ?_ _ | refine bl_drew ?_))) hf2 (lies1 w.heap.size) (Nat.le_refl _)
  have ho2 := (ho1.below (by repeat' (first | exact bl_refl _ | refine bl_alloc ?_ _ | refine bl_drew ?_))).onlyF hf2 (by simp only [World.size_alloc]; omega)
  go_wp2_with fail
  refine (skillKind_any w.heap.size _ _ (hc2.below (by repeat' (first | exact bl_refl _ | refine bl_alloc ?_ _ | refine bl_drew ?_))) (by omega)).mono ?_
  rintro e V3 ⟨k, rfl, hz_k, hc3, hf3⟩
  have lg3 := hc3.lt
  have hk3 : Below w.heap.size w V3 := below_only (bl_trans hk2 (by repeat' (first | exact bl_refl _ | refine bl_alloc ?_ _ | refine bl_drew ?_))) hf3 (lies1 w.heap.size) (Nat.le_refl _)
  have ho3 := (ho2.below (by repeat' (first | exact bl_refl _ | refine bl_alloc ?_ _ | refine bl_drew ?_))).onlyF hf3 (by simp only [World.size_alloc]; omega)
  go_wp2_with fail
  refine (skillDay_any w.heap.size _ _ (hc3.below (by repeat' (first | exact bl_refl _ | refine bl_alloc ?_ _ | refine bl_drew ?_))) (by omega)).mono ?_
  rintro e V4 ⟨u, rfl, hz_u, hc4, hf4⟩
  have lg4 := hc4.lt
  have hk4 : Below w.heap.size w V4 := below_only (bl_trans hk3 (by repeat' (first | exact bl_refl _ | refine bl_alloc ?_ _ | refine bl_drew ?_))) hf4 (lies1 w.heap.size) (Nat.le_refl _)
  have ho4 := (ho3.below (by repeat' (first | exact bl_refl _ | refine bl_alloc ?_ _ | refine bl_drew ?_))).onlyF hf4 (by simp only [World.size_alloc]; omega)
  go_wp2
  (try simp only [Exit.inBlock, Exit.then]); refine bodyPost_ret (results_tmp4 rfl _ _ _) rfl ?_
  exact ⟨l, A', c', p, k, u, rfl, hl, hlp, hz_p, hz_k, hz_u, ho4.mono (by simp only [World.size_alloc]; omega), hk4⟩
end Go.Proofs.Ytgjnjfaohpmhkaa

namespace Go.Proofs.Ytgjnjfaohpmhkaa
open Go.RowKit

set_option maxRecDepth 100000 in
set_option maxHeartbeats 8000000 in
theorem drawQfor_any (A : Option Addr) (n c : Nat) (cs : List Byt) (w : World) (hcode : CodeIs w A n cs) :
    Calls Try.prog 21 #[.slice A n c] w fun e w' => ∃ (l : List Skill) (A' : Option Addr) (c' : Nat) (ks : List Int) (B : Option Addr) (d : Nat) (u : Int), e = .returned (.tuple #[.slice A' l.length c', .slice B ks.length d, .int .i64 u]) ∧ l.length ≤ 26 ∧ (∀ x, x ∈ l → x.Person.size ≤ 7) ∧ ks.length ≤ 7 ∧ (-1 ≤ u ∧ u ≤ 20001) ∧ Own w' w.heap.size 44 (.slice A' l.length c') l ∧ Own w' w.heap.size 3 (.slice B ks.length d) ks ∧ Below w.heap.size w w' := by
  go_enter Try.func21, Try.ntmps21
  go_wp2
  go_loopw [6, 7] (fun lv kv wr => ∃ (k q d : Nat) (B : Option Addr) (ks : List Int), k ≤ 6 ∧ kv = .int .i64 k ∧ lv = .slice B q d ∧ q ≤ k ∧ Own wr (w.heap.size + 1) 3 (.slice B q d) ks ∧ w.heap.size + 1 ≤ wr.heap.size ∧ Cur wr w.heap.size (2 * k) ∧ Below w.heap.size w wr) (fun _ kv _ => 6 - (intOf kv).toNat)
  case atStart => exact ⟨0, 0, 0, none, [], by omega, rfl, rfl, by omega, Own.nil _ _ _, by simp, (hcode.cur (by simp)).mono (by omega), by repeat' (first | exact bl_refl _ | refine bl_alloc ?_ _ | refine bl_drew ?_)⟩
  case round =>
    obtain ⟨k, q, d, B, ks, hk, rfl, rfl, hqk, ho, hsz, hc, hb⟩ := hrel
    clear hcode
    have hlg : w.heap.size < w.heap.size + 1 := by omega
    by_cases hlt : k < 6
    · have hk6 : decide ((k : Int) < 6) = true := decide_eq_true (by omega)
      have hk7 : decide (k < 6) = true := decide_eq_true hlt
      go_wp2_with fail
      refine (one_any w.heap.size _ 4 _ hc (by omega) (by omega)).mono ?_
      rintro e V1 ⟨b, rfl, hc1, hf1⟩
      have ho1 := ho.onlyF hf1 hlg
      have hb1 := below_only hb hf1 (lies1 w.heap.size) (Nat.le_refl _)
      have hs1 : w.heap.size + 1 ≤ V1.heap.size := by have := hf1.size; omega
      clear ho hc hf1 hb
      cases b
      · go_wp2
        go_roundw
        case rel => exact ⟨k + 1, q, d, B, ks, by omega, by go_num, rfl, by omega, ho1, hs1, hc1.mono (by omega), hb1⟩
        case measure => simp [intOf]; omega
      · go_wp2_with ((at_builtin; refine wpList_app1r rfl (.tmp 17) (.tmp 19) _ _ rfl el_int (k : Int) rfl ho1 hs1 rfl rfl (by omega) ?_; intro B2 d2 w2 ho2 hf2))
        have hc2 := hc1.onlyF hf2 (fun j hj => by have := (ho1.lt j (by simpa using hj)).1; omega)
        have hb2 := below_only hb1 hf2 ho1.lies (by omega)
        have hs2 : w.heap.size + 1 ≤ w2.heap.size := by have := hf2.size; omega
        go_roundw
        case rel => exact ⟨k + 1, q + 1, d2, B2, ks ++ [(k : Int)], by omega, by go_num, rfl, by omega, ho2, hs2, hc2.mono (by omega), hb2⟩
        case measure => simp [intOf]; omega
    · obtain rfl : k = 6 := by omega
      go_wp2_with fail
      refine (one_any w.heap.size _ 12 _ hc (by omega) (by omega)).mono ?_
      rintro e V1 ⟨b, rfl, hc1, hf1⟩
      have ho1 := ho.onlyF hf1 hlg
      have hb1 := below_only hb hf1 (lies1 w.heap.size) (Nat.le_refl _)
      have hs1 : w.heap.size + 1 ≤ V1.heap.size := by have := hf1.size; omega
      have lg1 := hc1.lt
      clear ho hc hf1 hb
      go_upto_if 22 with fail
      go_cut [6] (fun lv wx => ∃ (q d : Nat) (B : Option Addr) (ks : List Int), lv = .slice B q d ∧ q ≤ 7 ∧ Own wx (w.heap.size + 1) 3 (.slice B q d) ks ∧ w.heap.size + 1 ≤ wx.heap.size ∧ Cur wx w.heap.size 40 ∧ Below w.heap.size w wx)
      case first =>
        cases b
        · go_wp2_with fail
          go_meet
          exact ⟨q, d, B, ks, rfl, by omega, ho1, hs1, hc1.mono (by omega), hb1⟩
        · go_wp2_with fail
          refine (among_any w.heap.size _ _ _ _ [5, 6, 0] _ (hc1.below (by repeat' (first | exact bl_refl _ | refine bl_alloc ?_ _ | refine bl_drew ?_))) (by omega) (by exact sl_lit' (by simp) rfl rfl) (by omega) (by omega) (by rintro b o h _; injection h with h; injection h with h1; (try simp at h1); omega)).mono ?_
          rintro e V2 ⟨m0, rfl, hm_m0, hc2, hf2⟩
          clear hm_m0
          have hbx := bl_alloc (bl_refl V1) (.cells #[.int .i64 5, .int .i64 6, .int .i64 0] 3)
          have ho2 := (ho1.below hbx).onlyF hf2 hlg
          have hb2 := below_only (bl_trans hb1 hbx) hf2 (lies1 w.heap.size) (Nat.le_refl _)
          have hs2 : w.heap.size + 1 ≤ V2.heap.size := by have := hf2.size; have := hbx.size; omega
          clear hbx hf2 ho1 hb1 hs1 hc1 lg1
          go_wp2_with ((at_builtin; refine wpList_app1r rfl (.tmp 23) (.tmp 27) _ _ rfl el_int m0 rfl ho2 hs2 rfl rfl (by omega) ?_; intro B3 d3 w3 ho3 hf3))
          have hc3 := hc2.onlyF hf3 (fun j hj => by have := (ho2.lt j (by simpa using hj)).1; omega)
          have hb3 := below_only hb2 hf3 ho2.lies (by omega)
          have hs3 : w.heap.size + 1 ≤ w3.heap.size := by have := hf3.size; omega
          go_wp2_with fail
          go_meet
          exact ⟨q + 1, d3, B3, ks ++ [m0], rfl, by omega, ho3, hs3, hc3.mono (by omega), hb3⟩
      case rest =>
        obtain ⟨q, d, B, ks, rfl, hq, ho, hs, hc, hb⟩ := hcut
        clear ho1 hb1 hs1 hc1 lg1
        have lg := hc.lt
        go_upto_region 10 with fail
        go_cut [36] (fun v wx => ∃ b : Bool, v = .bool b ∧ Own wx (w.heap.size + 1) 3 (.slice B q d) ks ∧ w.heap.size + 1 ≤ wx.heap.size ∧ Cur wx w.heap.size 60 ∧ Below w.heap.size w wx)
        case first =>
          by_cases hq0 : q = 0
          · subst hq0
            go_wp2_with fail
            refine (one_any w.heap.size _ 6 _ hc (by omega) (by omega)).mono ?_
            rintro e V1 ⟨b, rfl, hc1, hf1⟩
            have ho1 := ho.onlyF hf1 hlg
            have hb1 := below_only hb hf1 (lies1 w.heap.size) (Nat.le_refl _)
            have hs1 : w.heap.size + 1 ≤ V1.heap.size := by have := hf1.size; omega
            go_wp2_with fail
            go_meet
            exact ⟨_, rfl, ho1, hs1, hc1.mono (by omega), hb1⟩
          · have hqd : ((q : Int) == 0) = false := by simp; omega
            have hqd2 : decide (q = 0) = false := decide_eq_false hq0
            go_wp2_with fail
            go_meet
            exact ⟨_, rfl, ho, hs, hc.mono (by omega), hb⟩
        case rest =>
          obtain ⟨b, rfl, ho1, hs1, hc1, hb1⟩ := hcut
          clear ho hs hc hb lg
          have lg1 := hc1.lt
          go_upto_if 36 with fail
          go_cut [6] (fun lv wx => ∃ (q d : Nat) (B : Option Addr) (ks : List Int), lv = .slice B q d ∧ q ≤ 7 ∧ Own wx (w.heap.size + 1) 3 (.slice B q d) ks ∧ w.heap.size + 1 ≤ wx.heap.size ∧ Cur wx w.heap.size 60 ∧ Below w.heap.size w wx)
          case first =>
            cases b
            · go_wp2_with fail
              go_meet
              exact ⟨q, d, B, ks, rfl, hq, ho1, hs1, hc1, hb1⟩
            · go_wp2_with fail
              go_meet
              refine ⟨1, 1, _, [(0 : Int)], rfl, by omega, ?_, by simp; omega, hc1.below (bl_alloc (bl_refl _) _), bl_alloc hb1 _⟩
              have h := World.ownsRow_lit (base := w.heap.size + 1) (e := 3) (size := 1) wc #[.int .i64 0] 1 hs1 (by unfold maxLen; omega) rfl
              exact h
          case rest =>
            obtain ⟨q, d, B, ks, rfl, hq, ho, hs, hc, hb⟩ := hcut
            clear ho1 hs1 hc1 hb1 lg1
            have hql : ks.length = q := ho.sl.1
            subst hql
            go_wp2_with fail
            refine (skills_any w.heap.size _ _ hc (by omega)).mono ?_
            rintro e V5 ⟨l, A', c', rfl, hl, hlp, ho5, hc5, hf5⟩
            have hk5 := ho.onlyF hf5 hlg
            have hb5 := below_only hb hf5 (lies1 w.heap.size) (Nat.le_refl _)
            go_wp2_with fail
            refine (skillDay_any w.heap.size _ _ hc5 (by omega)).mono ?_
            rintro e V6 ⟨u, rfl, hz_u, hc6, hf6⟩
            have ho6 := ho5.onlyF hf6 (by omega)
            have hk6 := hk5.onlyF hf6 hlg
            have hb6 := below_only hb5 hf6 (lies1 w.heap.size) (Nat.le_refl _)
            have zz : w.heap.size ≤ wc.heap.size := by omega
            clear ho5 hk5 hb5 ho hb hc5 hf5 hf6 hc
            go_wp2
            go_ret3
            exact ⟨l, A', c', ks, B, d, u, rfl, hl, hlp, hq, hz_u, ho6.mono zz, hk6.mono (by omega), hb6⟩
end Go.Proofs.Ytgjnjfaohpmhkaa
