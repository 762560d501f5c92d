/-
  Several texts in one. No conditions.
-/
import Derived.Test.YtfglmghcgoembaaGreatDoorHx16
import Derived.Test.YtfglmghcgoembaaGreatDoorHx10
import Derived.Test.YtfglmghcgoembaaGreatDoorHx15
namespace Go.Proofs.YtfglmghcgoembaaGreatDoor
open Go.RowKit

/-- two drawn histories -/
def DrawnH2 (w : World) (e : Ending) (w' : World) : Prop := ∃ (a b : List Entry) (A : Option Addr) (c : Nat) (B : Option Addr) (d : Nat), e = .returned (.tuple #[.slice A a.length c, .slice B b.length d]) ∧ a.length ≤ 60 ∧ b.length ≤ 60 ∧ SmE a ∧ SmE b ∧ SlB w' w.heap.size A a.length a ∧ SlB w' w.heap.size B b.length b ∧ Below w.heap.size w w'
theorem drawnH2_mk {w w' : World} {a b : List Entry} {A B : Option Addr} {n m c d : Nat} (ha : a.length = n) (hb : b.length = m) (hn : n ≤ 60) (hm : m ≤ 60) (sa : SmE a) (sb : SmE b) (la : SlB w' w.heap.size A n a) (lb : SlB w' w.heap.size B m b) (hbl : Below w.heap.size w w') : DrawnH2 w (.returned (.tuple #[.slice A n c, .slice B m d])) w' := by
  subst ha; subst hb; exact ⟨a, b, A, c, B, d, rfl, hn, hm, sa, sb, la, lb, hbl⟩
def DrawnH1 (w : World) (e : Ending) (w' : World) : Prop := ∃ (a : List Entry) (A : Option Addr) (c : Nat), e = .returned (.slice A a.length c) ∧ a.length ≤ 60 ∧ SmE a ∧ SlB w' w.heap.size A a.length a ∧ Below w.heap.size w w'
set_option maxRecDepth 100000 in
set_option maxHeartbeats 16000000 in
theorem drawIsHistory_any (A : Option Addr) (n c : Nat) (cs : List Byt) (w : World) (hcode : CodeIs w A n cs) :
    Calls Tryz.prog 39 #[.slice A n c] w (DrawnH1 w) := by
  go_enter Tryz.func39, Tryz.ntmps39
  go_wp2_with fail
  refine (history_any w.heap.size _ _ (hcode.cur (by simp)) (by omega)).mono ?_
  rintro e V1 ⟨a, A1, c1, rfl, hla, hsa, hA1, hc1, hf1⟩
  have lg1 := hc1.lt
  have hk1 : Below w.heap.size w V1 := below_only (by repeat' (first | exact bl_refl _ | refine bl_alloc ?_ _ | refine bl_drew ?_)) hf1 (lies1 w.heap.size) (Nat.le_refl _)
  go_wp2
  go_ret
  exact ⟨a, A1, c1, rfl, by omega, hsa, hA1.mono (by first | omega | (simp; done) | (simp; omega)), hk1⟩
set_option maxRecDepth 100000 in
set_option maxHeartbeats 16000000 in
theorem drawSplit_any (A : Option Addr) (n c : Nat) (cs : List Byt) (w : World) (hcode : CodeIs w A n cs) :
    Calls Tryz.prog 12 #[.slice A n c] w (DrawnH1 w) := by
  go_enter Tryz.func12, Tryz.ntmps12
  go_wp2_with fail
  refine (drawIsHistory_any A n c cs _ hcode).mono ?_
  rintro e V1 ⟨a, A1, c1, rfl, hla, hsa, hA1, hb1⟩
  go_wp2
  go_ret
  exact ⟨a, A1, c1, rfl, hla, hsa, hA1, hb1⟩
set_option maxRecDepth 100000 in
set_option maxHeartbeats 16000000 in
theorem drawMerge_any (A : Option Addr) (n c : Nat) (cs : List Byt) (w : World) (hcode : CodeIs w A n cs) :
    Calls Tryz.prog 5 #[.slice A n c] w (DrawnH2 w) := by
  go_enter Tryz.func5, Tryz.ntmps5
  go_wp2_with fail
  refine (one_any w.heap.size _ 6 _ (hcode.cur (by simp)) (by omega) (by omega)).mono ?_
  rintro e V1 ⟨b, rfl, hc1, hf1⟩
  have lg1 := hc1.lt
  have hk1 : Below w.heap.size w V1 := below_only (by repeat' (first | exact bl_refl _ | refine bl_alloc ?_ _ | refine bl_drew ?_)) hf1 (lies1 w.heap.size) (Nat.le_refl _)
  have z1 : w.heap.size < V1.heap.size := lg1
  cases b
  · go_wp2_with fail
    refine (log_any w.heap.size _ 1 _ (hc1.below (by repeat' (first | exact bl_refl _ | refine bl_alloc ?_ _ | refine bl_drew ?_))) (by omega)).mono ?_
    rintro e V2 ⟨F, A1, c1, rfl, hlF, hsF, hoF, hc2, hf2⟩
    have lg2 := hc2.lt
    have hk2 : Below w.heap.size w V2 := below_only (bl_trans hk1 (by repeat' (first | exact bl_refl _ | refine bl_alloc ?_ _ | refine bl_drew ?_))) hf2 (lies1 w.heap.size) (Nat.le_refl _)
    have hcF := hoF.cap.1
    have hF2 := hoF.slb.mono (b := w.heap.size + 1) (by first | omega | (simp; done) | (simp; omega))
    have hnF : A1 = none → F.length = 0 := fun e => by subst e; exact hoF.sl.none_len.1
    clear hoF
    go_wp2_with fail
    refine (log_any w.heap.size _ 2 _ (hc2.below (by repeat' (first | exact bl_refl _ | refine bl_alloc ?_ _ | refine bl_drew ?_))) (by omega)).mono ?_
    rintro e V3 ⟨S, A2, c2, rfl, hlS, hsS, hoS, hc3, hf3⟩
    have lg3 := hc3.lt
    have hk3 : Below w.heap.size w V3 := below_only (bl_trans hk2 (by repeat' (first | exact bl_refl _ | refine bl_alloc ?_ _ | refine bl_drew ?_))) hf3 (lies1 w.heap.size) (Nat.le_refl _)
    have h_F3 := (hF2.below (by repeat' (first | exact bl_refl _ | refine bl_alloc ?_ _ | refine bl_drew ?_))).only1 hf3 (by omega)
    have hcS := hoS.cap.1
    have hz2 := hk2.size
    have hS3 := hoS.slb.mono (b := w.heap.size + 1) (by first | omega | (simp; done) | (simp; omega))
    have hnS : A2 = none → S.length = 0 := fun e => by subst e; exact hoS.sl.none_len.1
    clear hoS
    have HF0 : Hid (F.length ≤ 24) := hlF
    have HS0 : Hid (S.length ≤ 24) := hlS
    go_wp2_with fail
    refine (mgCut_any w.heap.size _ A1 F.length c1 _ (hc3.below (by repeat' (first | exact bl_refl _ | refine bl_alloc ?_ _ | refine bl_drew ?_))) (by omega) hcF (by omega) hnF).mono ?_
    rintro e V4 ⟨⟨k1, d1, rfl, hk1, hkd1⟩, hc4, hf4⟩
    have lg4 := hc4.lt
    have hk4 : Below w.heap.size w V4 := below_only (bl_trans hk3 (by repeat' (first | exact bl_refl _ | refine bl_alloc ?_ _ | refine bl_drew ?_))) hf4 (lies1 w.heap.size) (Nat.le_refl _)
    have h_F4 := (h_F3.below (by repeat' (first | exact bl_refl _ | refine bl_alloc ?_ _ | refine bl_drew ?_))).only1 hf4 (by omega)
    have h_S4 := (hS3.below (by repeat' (first | exact bl_refl _ | refine bl_alloc ?_ _ | refine bl_drew ?_))).only1 hf4 (by omega)
    go_wp2_with fail
    refine (mgCut_any w.heap.size _ A2 S.length c2 _ (hc4.below (by repeat' (first | exact bl_refl _ | refine bl_alloc ?_ _ | refine bl_drew ?_))) (by omega) hcS (by omega) hnS).mono ?_
    rintro e V5 ⟨⟨k2, d2, rfl, hk2', hkd2⟩, hc5, hf5⟩
    have lg5 := hc5.lt
    have hk5 : Below w.heap.size w V5 := below_only (bl_trans hk4 (by repeat' (first | exact bl_refl _ | refine bl_alloc ?_ _ | refine bl_drew ?_))) hf5 (lies1 w.heap.size) (Nat.le_refl _)
    have h_F5 := (h_F4.below (by repeat' (first | exact bl_refl _ | refine bl_alloc ?_ _ | refine bl_drew ?_))).only1 hf5 (by omega)
    have h_S5 := (h_S4.below (by repeat' (first | exact bl_refl _ | refine bl_alloc ?_ _ | refine bl_drew ?_))).only1 hf5 (by omega)
    have hX1 := h_F5.take hk1
    have hX2 := h_S5.take hk2'
    have lx1 : (F.take k1).length = k1 := by rw [List.length_take]; omega
    have lx2 : (S.take k2).length = k2 := by rw [List.length_take]; omega
    have sx1 := hsF.take k1
    have sx2 := hsS.take k2
    obtain ⟨X, hX⟩ : ∃ X, F.take k1 = X := ⟨_, rfl⟩
    obtain ⟨Y, hY⟩ : ∃ Y, S.take k2 = Y := ⟨_, rfl⟩
    rw [hX] at hX1 lx1 sx1
    rw [hY] at hX2 lx2 sx2
    clear hX hY
    go_wp2_with fail
    refine (one_any w.heap.size _ 2 _ (hc5.below (by repeat' (first | exact bl_refl _ | refine bl_alloc ?_ _ | refine bl_drew ?_))) (by omega) (by omega)).mono ?_
    rintro e V6 ⟨b2, rfl, hc6, hf6⟩
    have lg6 := hc6.lt
    have hk6 : Below w.heap.size w V6 := below_only (bl_trans hk5 (by repeat' (first | exact bl_refl _ | refine bl_alloc ?_ _ | refine bl_drew ?_))) hf6 (lies1 w.heap.size) (Nat.le_refl _)
    have h_F6 := (h_F5.below (by repeat' (first | exact bl_refl _ | refine bl_alloc ?_ _ | refine bl_drew ?_))).only1 hf6 (by omega)
    have h_S6 := (h_S5.below (by repeat' (first | exact bl_refl _ | refine bl_alloc ?_ _ | refine bl_drew ?_))).only1 hf6 (by omega)
    have h_X6 := (hX1.below (by repeat' (first | exact bl_refl _ | refine bl_alloc ?_ _ | refine bl_drew ?_))).only1 hf6 (by omega)
    have h_Y6 := (hX2.below (by repeat' (first | exact bl_refl _ | refine bl_alloc ?_ _ | refine bl_drew ?_))).only1 hf6 (by omega)
    cases b2
    · go_wp2_with fail
      refine (mgHistory_any F S A1 A2 _ _ c1 c2 _ (by omega) (by omega) (h_F6.sl.below (by repeat' (first | exact bl_refl _ | refine bl_alloc ?_ _ | refine bl_drew ?_))) (h_S6.sl.below (by repeat' (first | exact bl_refl _ | refine bl_alloc ?_ _ | refine bl_drew ?_)))).mono ?_
      rintro e V7 ⟨P1, p1, rfl, hq1, hb7⟩
      have hk7 := bl_trans hk6 hb7
      have hc7 := hc6.below hb7
      have lg7 := hc7.lt
      have h_F7 := h_F6.below hb7
      have h_S7 := h_S6.below hb7
      have h_X7 := h_X6.below hb7
      have h_Y7 := h_Y6.below hb7
      have hm1 := hsF.mg hsS
      have hl1 : (mgL F S).length ≤ 60 := by rw [mgL_len]; omega
      have zq1 := hk6.size
      have hr1 := hq1.slb.mono (b := w.heap.size + 1) (by first | omega | (simp; done) | (simp; omega))
      obtain ⟨R1, hR1⟩ : ∃ R, mgL F S = R := ⟨_, rfl⟩
      rw [hR1] at hm1 hl1 hr1 ⊢
      clear hR1 hq1
      go_wp2_with fail
      refine (copyOf_any w.heap.size _ (w.heap.size + 1) F A1 F.length c1 _ (hc7.below (by repeat' (first | exact bl_refl _ | refine bl_alloc ?_ _ | refine bl_drew ?_))) (by omega) (h_F7.below (by repeat' (first | exact bl_refl _ | refine bl_alloc ?_ _ | refine bl_drew ?_))) (by omega) hcF (by omega) hsF).mono ?_
      rintro e V8 ⟨C, A3, c3, rfl, hlC, hsC, hoC, hc8, hf8⟩
      have lg8 := hc8.lt
      have hk8 : Below w.heap.size w V8 := below_only (bl_trans hk7 (by repeat' (first | exact bl_refl _ | refine bl_alloc ?_ _ | refine bl_drew ?_))) hf8 (lies1 w.heap.size) (Nat.le_refl _)
      have h_F8 := (h_F7.below (by repeat' (first | exact bl_refl _ | refine bl_alloc ?_ _ | refine bl_drew ?_))).only1 hf8 (by omega)
      have h_S8 := (h_S7.below (by repeat' (first | exact bl_refl _ | refine bl_alloc ?_ _ | refine bl_drew ?_))).only1 hf8 (by omega)
      have h_X8 := (h_X7.below (by repeat' (first | exact bl_refl _ | refine bl_alloc ?_ _ | refine bl_drew ?_))).only1 hf8 (by omega)
      have h_Y8 := (h_Y7.below (by repeat' (first | exact bl_refl _ | refine bl_alloc ?_ _ | refine bl_drew ?_))).only1 hf8 (by omega)
      have h_r8 := (hr1.below (by repeat' (first | exact bl_refl _ | refine bl_alloc ?_ _ | refine bl_drew ?_))).only1 hf8 (by omega)
      have hC := hoC.slb
      go_wp2_with fail
      refine (mgHistory_any C Y A3 A2 _ _ c3 d2 _ (by omega) (by omega) (hC.sl.below (by repeat' (first | exact bl_refl _ | refine bl_alloc ?_ _ | refine bl_drew ?_))) (h_Y8.sl.below (by repeat' (first | exact bl_refl _ | refine bl_alloc ?_ _ | refine bl_drew ?_)))).mono ?_
      rintro e V9 ⟨P2, p2, rfl, hq2, hb9⟩
      have hk9 := bl_trans hk8 hb9
      have hc9 := hc8.below hb9
      have lg9 := hc9.lt
      have h_F9 := h_F8.below hb9
      have h_S9 := h_S8.below hb9
      have h_X9 := h_X8.below hb9
      have h_Y9 := h_Y8.below hb9
      have h_r9 := h_r8.below hb9
      have h_C9 := hC.below hb9
      have hm2 := hsC.mg sx2
      have hl2 : (mgL C Y).length ≤ 60 := by rw [mgL_len]; omega
      have zq2 := hk8.size
      have hr2 := hq2.slb.mono (b := w.heap.size + 1) (by first | omega | (simp; done) | (simp; omega))
      obtain ⟨R2, hR2⟩ : ∃ R, mgL C Y = R := ⟨_, rfl⟩
      rw [hR2] at hm2 hl2 hr2 ⊢
      clear hR2 hq2
      have hZ := h_r9
      go_wp2
      go_ret2
      exact drawnH2_mk rfl rfl (by omega) (by omega) hm1 hm2 (hZ.mono (by omega)) (hr2.mono (by omega)) hk9
    · go_wp2_with fail
      refine (mgHistory_any F Y A1 A2 _ _ c1 d2 _ (by omega) (by omega) (h_F6.sl.below (by repeat' (first | exact bl_refl _ | refine bl_alloc ?_ _ | refine bl_drew ?_))) (h_Y6.sl.below (by repeat' (first | exact bl_refl _ | refine bl_alloc ?_ _ | refine bl_drew ?_)))).mono ?_
      rintro e V7 ⟨P1, p1, rfl, hq1, hb7⟩
      have hk7 := bl_trans hk6 hb7
      have hc7 := hc6.below hb7
      have lg7 := hc7.lt
      have h_F7 := h_F6.below hb7
      have h_S7 := h_S6.below hb7
      have h_X7 := h_X6.below hb7
      have h_Y7 := h_Y6.below hb7
      have hm1 := hsF.mg sx2
      have hl1 : (mgL F Y).length ≤ 60 := by rw [mgL_len]; omega
      have zq1 := hk6.size
      have hr1 := hq1.slb.mono (b := w.heap.size + 1) (by first | omega | (simp; done) | (simp; omega))
      obtain ⟨R1, hR1⟩ : ∃ R, mgL F Y = R := ⟨_, rfl⟩
      rw [hR1] at hm1 hl1 hr1 ⊢
      clear hR1 hq1
      go_wp2_with fail
      refine (mgHistory_any X S A1 A2 _ _ d1 c2 _ (by omega) (by omega) (h_X7.sl.below (by repeat' (first | exact bl_refl _ | refine bl_alloc ?_ _ | refine bl_drew ?_))) (h_S7.sl.below (by repeat' (first | exact bl_refl _ | refine bl_alloc ?_ _ | refine bl_drew ?_)))).mono ?_
      rintro e V8 ⟨P2, p2, rfl, hq2, hb8⟩
      have hk8 := bl_trans hk7 hb8
      have hc8 := hc7.below hb8
      have lg8 := hc8.lt
      have h_F8 := h_F7.below hb8
      have h_S8 := h_S7.below hb8
      have h_X8 := h_X7.below hb8
      have h_Y8 := h_Y7.below hb8
      have h_r8 := hr1.below hb8
      have hm2 := sx1.mg hsS
      have hl2 : (mgL X S).length ≤ 60 := by rw [mgL_len]; omega
      have zq2 := hk7.size
      have hr2 := hq2.slb.mono (b := w.heap.size + 1) (by first | omega | (simp; done) | (simp; omega))
      obtain ⟨R2, hR2⟩ : ∃ R, mgL X S = R := ⟨_, rfl⟩
      rw [hR2] at hm2 hl2 hr2 ⊢
      clear hR2 hq2
      have hZ := h_r8
      go_wp2
      go_ret2
      exact drawnH2_mk rfl rfl (by omega) (by omega) hm1 hm2 (hZ.mono (by omega)) (hr2.mono (by omega)) hk8
  · go_wp2_with fail
    refine (history_any w.heap.size _ _ (hc1.below (by repeat' (first | exact bl_refl _ | refine bl_alloc ?_ _ | refine bl_drew ?_))) (by omega)).mono ?_
    rintro e V2 ⟨a, A1, c1, rfl, hla, hsa, hA2, hc2, hf2⟩
    have lg2 := hc2.lt
    have hk2 : Below w.heap.size w V2 := below_only (bl_trans hk1 (by repeat' (first | exact bl_refl _ | refine bl_alloc ?_ _ | refine bl_drew ?_))) hf2 (lies1 w.heap.size) (Nat.le_refl _)
    have z2 := hk2.size
    go_wp2_with fail
    refine (history_any w.heap.size _ _ (hc2.below (by repeat' (first | exact bl_refl _ | refine bl_alloc ?_ _ | refine bl_drew ?_))) (by omega)).mono ?_
    rintro e V3 ⟨b, A2, c2, rfl, hlb, hsb, hB3, hc3, hf3⟩
    have lg3 := hc3.lt
    have hk3 : Below w.heap.size w V3 := below_only (bl_trans hk2 (by repeat' (first | exact bl_refl _ | refine bl_alloc ?_ _ | refine bl_drew ?_))) hf3 (lies1 w.heap.size) (Nat.le_refl _)
    have h_a3 := (hA2.below (by repeat' (first | exact bl_refl _ | refine bl_alloc ?_ _ | refine bl_drew ?_))).only1 hf3 (by omega)
    have hA4 := h_a3
    go_wp2
    go_ret2
    exact drawnH2_mk rfl rfl (by omega) (by omega) hsa hsb (hA4.mono (by first | omega | (simp; done) | (simp; omega))) (hB3.mono (by first | omega | (simp; done) | (simp; omega))) hk3
end Go.Proofs.YtfglmghcgoembaaGreatDoor

namespace Go.Proofs.YtfglmghcgoembaaGreatDoor
open Go.RowKit

theorem Own.besides {α : Type} [Flat α] {w w' : World} {base : Nat} {E : TypeId} {v u : Value} {xs : List α} (h : Own w base E v xs) (hg : w.grownBy w' u.ownBlock) (hap : ∀ z, u.ownBlock = some z → v.ownBlock ≠ some z) : Own w' base E v xs := by
  cases hv : v.ownBlock with
  | none => exact h.grown hg (.inl hv)
  | some z => exact h.grown hg (.inr (fun e => hap z (e.symm.trans hv) hv))
set_option maxHeartbeats 8000000 in
theorem mgSplit_any (l : List Entry) (A : Option Addr) (n c : Nat) (w : World) (hn : n ≤ 1048576) (hs : Sl w A n l) :
    Calls Tryz.prog 32 #[.slice A n c] w fun e w' => ∃ A1 c1 A2 c2, e = .returned (.tuple #[.slice A1 (fil 1 l).length c1, .slice A2 (filN 1 l).length c2]) ∧ Own w' w.heap.size 40 (.slice A1 (fil 1 l).length c1) (fil 1 l) ∧ Own w' w.heap.size 40 (.slice A2 (filN 1 l).length c2) (filN 1 l) ∧ Below w.heap.size w w' := by
  have HL := Lib.hid hs.1
  go_enter Tryz.func32, Tryz.ntmps32
  go_wp2
  go_loopw [4, 5, 10] (fun fv sv iv wr => ∃ (F S : List Entry) (p q k : Nat) (A1 : Option Addr) (c1 : Nat) (A2 : Option Addr) (c2 : Nat), fv = .slice A1 p c1 ∧ sv = .slice A2 q c2 ∧ iv = .int .i64 k ∧ k ≤ n ∧ p ≤ k ∧ q ≤ k ∧ Hid (F = fil 1 (l.take k)) ∧ Hid (S = filN 1 (l.take k)) ∧ Own wr w.heap.size 40 (.slice A1 p c1) F ∧ Own wr w.heap.size 40 (.slice A2 q c2) S ∧ Hid (∀ z, Value.ownBlock (.slice A1 p c1) = some z → Value.ownBlock (.slice A2 q c2) ≠ some z) ∧ Below w.heap.size w wr) (fun _ _ iv _ => n - (intOf iv).toNat)
  case atStart => exact ⟨[], [], 0, 0, 0, none, 0, none, 0, rfl, rfl, rfl, Nat.zero_le _, Nat.le_refl _, Nat.le_refl _, by rw [Hid]; rfl, by rw [Hid]; rfl, Own.nil _ _ _, Own.nil _ _ _, (fun z hz => by cases hz), bl_refl _⟩
  case round =>
    obtain ⟨F, S, p, q, k, A1, c1, A2, c2, rfl, rfl, rfl, hk, hpk, hqk, hF, hS, hoF, hoS, hap, hb⟩ := hrel
    by_cases hlt : k < n
    · obtain ⟨b, o, rfl, hbz, d0, d1, d2, d3⟩ := (hs.below hb).entry hlt
      clear hs
      have hkd : (k : Int) < n := by omega
      obtain ⟨x, hx⟩ : ∃ x, x = nth l k := ⟨_, rfl⟩
      rw [← hx] at d0 d1 d2 d3
      have HXX := Lib.hid hx
      clear hx
      have hfk : Hid (fil 1 (l.take (k + 1)) = F ++ if x.Room == 1 then [x] else []) := by rw [Hid, hF.out, HXX.out]; exact filter_take (by rw [HL.out]; exact hlt)
      have hsk : Hid (filN 1 (l.take (k + 1)) = S ++ if !(x.Room == 1) then [x] else []) := by rw [Hid, hS.out, HXX.out]; exact filter_take (p := fun e => !(e.Room == 1)) (by rw [HL.out]; exact hlt)
      have hbx := bl_alloc (bl_refl wr) (.cells #[.int .i64 x.Room, .int .i64 x.Number, .int .i64 x.Minute, .string x.Text] 40)
      have hoF' := hoF.below hbx
      have hoS' := hoS.below hbx
      have hzs := hb.size
      have hbk := bl_trans hb hbx
      clear hoF hoS
      by_cases hr : x.Room = 1
      · have hr1 : (x.Room == 1) = true := by simpa using hr
        have h1 : Hid (fil 1 (l.take (k + 1)) = F ++ [x]) := by rw [Hid, hfk.out, hr1]; simp
        have h2 : Hid (filN 1 (l.take (k + 1)) = S) := by rw [Hid, hsk.out, hr1]; simp
        clear hr hfk hsk
        have HO := Lib.hid hoS'
        have HW := Lib.hid hoF'
        go_wp2_with ((at_builtin; refine wpList_app1b rfl (.tmp 17) (.tmp 19) _ _ rfl el_ent (x : Entry) rfl hoF' (by simp only [World.size_alloc]; omega) rfl (by simp only [World.size_alloc]) (by omega) ?_; intro A3 c3 w3 ho3 hg3 hz3))
        have ho4 := (HO.out.alloc (.cells (Flat.enc x).toArray 40)).besides (u := (.slice A1 p c1)) hg3 hap.out
        have hb4 : Below w.heap.size w w3 := bl_grown (bl_trans hbk (bl_alloc (bl_refl _) _)) hg3 (fun z hz => (HW.out.lt z hz).1)
        have hap4 : ∀ z, Value.ownBlock (.slice A3 (p + 1) c3) = some z → Value.ownBlock (.slice A2 q c2) ≠ some z := fun z hz h => by rcases hz3 z hz with k1 | k1; exact hap.out z k1 h; have := (HO.out.lt z h).2; omega
        go_roundw
        case rel => exact ⟨F ++ [x], S, p + 1, q, k + 1, A3, c3, A2, c2, rfl, rfl, by go_num, by omega, by omega, by omega, h1.out.symm, h2.out.symm, ho3, ho4, hap4, hb4⟩
        case measure => simp [intOf]; omega
      · have hr1 : (x.Room == 1) = false := by simpa using hr
        have h1 : Hid (fil 1 (l.take (k + 1)) = F) := by rw [Hid, hfk.out, hr1]; simp
        have h2 : Hid (filN 1 (l.take (k + 1)) = S ++ [x]) := by rw [Hid, hsk.out, hr1]; simp
        clear hr hfk hsk
        have HO := Lib.hid hoF'
        have HW := Lib.hid hoS'
        go_wp2_with ((at_builtin; refine wpList_app1b rfl (.tmp 21) (.tmp 23) _ _ rfl el_ent (x : Entry) rfl hoS' (by simp only [World.size_alloc]; omega) rfl (by simp only [World.size_alloc]) (by omega) ?_; intro A3 c3 w3 ho3 hg3 hz3))
        have ho4 := (HO.out.alloc (.cells (Flat.enc x).toArray 40)).besides (u := (.slice A2 q c2)) hg3 (fun z hz h => hap.out z h hz)
        have hb4 : Below w.heap.size w w3 := bl_grown (bl_trans hbk (bl_alloc (bl_refl _) _)) hg3 (fun z hz => (HW.out.lt z hz).1)
        have hap4 : ∀ z, Value.ownBlock (.slice A3 (q + 1) c3) = some z → Value.ownBlock (.slice A1 p c1) ≠ some z := fun z hz h => by rcases hz3 z hz with k1 | k1; exact hap.out z h k1; have := (HO.out.lt z h).2; omega
        go_roundw
        case rel => exact ⟨F, S ++ [x], p, q + 1, k + 1, A1, c1, A3, c3, rfl, rfl, by go_num, by omega, by omega, by omega, h1.out.symm, h2.out.symm, ho4, ho3, fun z hz h => hap4 z h hz, hb4⟩
        case measure => simp [intOf]; omega
    · obtain rfl : k = n := by omega
      have hf : F = fil 1 l := by rw [hF.out, List.take_of_length_le (by rw [HL.out]; exact Nat.le_refl _)]
      have hz : S = filN 1 l := by rw [hS.out, List.take_of_length_le (by rw [HL.out]; exact Nat.le_refl _)]
      have Hf := Lib.hid hf
      have Hz := Lib.hid hz
      clear hf hz
      go_wp2
      go_ret2
      have e1 := hoF.sl.1
      have e2 := hoS.sl.1
      rw [Hf.out] at e1 hoF
      rw [Hz.out] at e2 hoS
      subst e1 e2
      exact ⟨A1, c1, A2, c2, rfl, hoF, hoS, hb⟩
end Go.Proofs.YtfglmghcgoembaaGreatDoor
