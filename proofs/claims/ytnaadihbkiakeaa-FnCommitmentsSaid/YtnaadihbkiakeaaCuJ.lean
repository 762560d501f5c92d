/-
  Incidents drawn for the laws. No conditions.
-/
import Derived.Test.YtnaadihbkiakeaaCuL
import Derived.Deep.QuietTactic
import Derived.BigQuiet
namespace Go.Proofs.Ytnaadihbkiakeaa
open Go.RowKit

/-- what is drawn: incidents, a number, a name -/
def DrawnI (w : World) (e : Ending) (w' : World) (f : Value → Int → ByteArray → Int → Value) : Prop := ∃ (xs : List Incident) (A : Option Addr) (c : Nat) (F : List Nat) (k : Int) (s : ByteArray) (k2 : Int), e = .returned (f (.slice A xs.length c) k s k2) ∧ xs.length ≤ 9 ∧ SmI xs ∧ s.size ≤ 7 ∧ OwnX incidentN w' w.heap.size 76 9 (.slice A xs.length c) xs F ∧ Below w.heap.size w w'
set_option maxRecDepth 100000 in
set_option maxHeartbeats 8000000 in
theorem drawCommit_any (A : Option Addr) (n c : Nat) (cs : List Byt) (w : World) (hcode : CodeIs w A n cs) :
    Calls Try.prog 33 #[.slice A n c] w fun e w' => DrawnI w e w' (fun l k s _ => .tuple #[l, .int .i64 k, .string s]) := by
  go_enter Try.func33, Try.ntmps33
  go_wp2_with fail
  refine (incidents_any w.heap.size 0 _ (hcode.cur (by simp)) (by omega)).mono ?_
  rintro e V1 ⟨xs, A', c', F, rfl, hl, hsm, ho1, hc1, hf1⟩
  have lg1 := hc1.lt
  have hk1 : Below w.heap.size w V1 := below_only (by repeat' (first | exact bl_refl _ | refine bl_alloc ?_ _ | refine bl_drew ?_)) hf1 (lies1 w.heap.size) (Nat.le_refl _)
  obtain ⟨m, hm⟩ : ∃ m, xs.length = m := ⟨_, rfl⟩
  rw [hm] at hl ho1 ⊢
  have HM := Lib.hid hm
  clear hm
  go_wp2_with fail
  refine (numberOf_any w.heap.size _ _ xs A' m c' F _ (hc1.below (by repeat' (first | exact bl_refl _ | refine bl_alloc ?_ _ | refine bl_drew ?_))) (by omega) (ho1.below (by repeat' (first | exact bl_refl _ | refine bl_alloc ?_ _ | refine bl_drew ?_))) (by simp only [World.size_alloc]; omega) (by omega)).mono ?_
  rintro e V2 ⟨k, rfl, hc2, hf2⟩
  have lg2 := hc2.lt
  have hk2 : Below w.heap.size w V2 := below_only (bl_trans hk1 (by repeat' (first | exact bl_refl _ | refine bl_alloc ?_ _ | refine bl_drew ?_))) hf2 (lies1 w.heap.size) (Nat.le_refl _)
  have ho2 := (ho1.below (by repeat' (first | exact bl_refl _ | refine bl_alloc ?_ _ | refine bl_drew ?_))).only hf2 (fun j hj hm => by have := (ho1.lies j hj).1; have := List.mem_singleton.1 hm; simp only [World.size_alloc] at *; omega)
  go_wp2_with fail
  refine (applianceName_any w.heap.size _ _ (hc2.below (by repeat' (first | exact bl_refl _ | refine bl_alloc ?_ _ | refine bl_drew ?_))) (by omega)).mono ?_
  rintro e V3 ⟨s, rfl, hs, hc3, hf3⟩
  have lg3 := hc3.lt
  have hk3 : Below w.heap.size w V3 := below_only (bl_trans hk2 (by repeat' (first | exact bl_refl _ | refine bl_alloc ?_ _ | refine bl_drew ?_))) hf3 (lies1 w.heap.size) (Nat.le_refl _)
  have ho3 := (ho2.below (by repeat' (first | exact bl_refl _ | refine bl_alloc ?_ _ | refine bl_drew ?_))).only hf3 (fun j hj hm => by have := (ho2.lies j hj).1; have := List.mem_singleton.1 hm; simp only [World.size_alloc] at *; omega)
  go_wp2
  go_ret3
  exact ⟨xs, A', c', F, k, s, 0, by rw [HM.out]; rfl, by rw [HM.out]; exact hl, hsm, hs, by rw [HM.out]; exact ho3.mono (by simp only [World.size_alloc]; omega), hk3⟩
set_option maxRecDepth 100000 in
set_option maxHeartbeats 8000000 in
theorem drawTransfer_any (A : Option Addr) (n c : Nat) (cs : List Byt) (w : World) (hcode : CodeIs w A n cs) :
    Calls Try.prog 40 #[.slice A n c] w fun e w' => DrawnI w e w' (fun l k s _ => .tuple #[l, .string s, .int .i64 k]) := by
  go_enter Try.func40, Try.ntmps40
  go_wp2_with fail
  refine (incidents_any w.heap.size 0 _ (hcode.cur (by simp)) (by omega)).mono ?_
  rintro e V1 ⟨xs, A', c', F, rfl, hl, hsm, ho1, hc1, hf1⟩
  have lg1 := hc1.lt
  have hk1 : Below w.heap.size w V1 := below_only (by repeat' (first | exact bl_refl _ | refine bl_alloc ?_ _ | refine bl_drew ?_)) hf1 (lies1 w.heap.size) (Nat.le_refl _)
  obtain ⟨m, hm⟩ : ∃ m, xs.length = m := ⟨_, rfl⟩
  rw [hm] at hl ho1 ⊢
  have HM := Lib.hid hm
  clear hm
  go_wp2_with fail
  refine (applianceName_any w.heap.size _ _ (hc1.below (by repeat' (first | exact bl_refl _ | refine bl_alloc ?_ _ | refine bl_drew ?_))) (by omega)).mono ?_
  rintro e V2 ⟨s, rfl, hs, hc2, hf2⟩
  have lg2 := hc2.lt
  have hk2 : Below w.heap.size w V2 := below_only (bl_trans hk1 (by repeat' (first | exact bl_refl _ | refine bl_alloc ?_ _ | refine bl_drew ?_))) hf2 (lies1 w.heap.size) (Nat.le_refl _)
  have ho2 := (ho1.below (by repeat' (first | exact bl_refl _ | refine bl_alloc ?_ _ | refine bl_drew ?_))).only hf2 (fun j hj hm => by have := (ho1.lies j hj).1; have := List.mem_singleton.1 hm; simp only [World.size_alloc] at *; omega)
  go_wp2_with fail
  refine (numberOf_any w.heap.size _ _ xs A' m c' F _ (hc2.below (by repeat' (first | exact bl_refl _ | refine bl_alloc ?_ _ | refine bl_drew ?_))) (by omega) (ho2.below (by repeat' (first | exact bl_refl _ | refine bl_alloc ?_ _ | refine bl_drew ?_))) (by simp only [World.size_alloc]; omega) (by omega)).mono ?_
  rintro e V3 ⟨k, rfl, hc3, hf3⟩
  have lg3 := hc3.lt
  have hk3 : Below w.heap.size w V3 := below_only (bl_trans hk2 (by repeat' (first | exact bl_refl _ | refine bl_alloc ?_ _ | refine bl_drew ?_))) hf3 (lies1 w.heap.size) (Nat.le_refl _)
  have ho3 := (ho2.below (by repeat' (first | exact bl_refl _ | refine bl_alloc ?_ _ | refine bl_drew ?_))).only hf3 (fun j hj hm => by have := (ho2.lies j hj).1; have := List.mem_singleton.1 hm; simp only [World.size_alloc] at *; omega)
  go_wp2
  go_ret3
  exact ⟨xs, A', c', F, k, s, 0, by rw [HM.out]; rfl, by rw [HM.out]; exact hl, hsm, hs, by rw [HM.out]; exact ho3.mono (by simp only [World.size_alloc]; omega), hk3⟩
set_option maxRecDepth 100000 in
set_option maxHeartbeats 8000000 in
theorem drawJoin_any (A : Option Addr) (n c : Nat) (cs : List Byt) (w : World) (hcode : CodeIs w A n cs) :
    Calls Try.prog 44 #[.slice A n c] w fun e w' => DrawnI w e w' (fun l k _ k2 => .tuple #[l, .int .i64 k, .int .i64 k2]) := by
  go_enter Try.func44, Try.ntmps44
  go_wp2_with fail
  refine (incidents_any w.heap.size 0 _ (hcode.cur (by simp)) (by omega)).mono ?_
  rintro e V1 ⟨xs, A', c', F, rfl, hl, hsm, ho1, hc1, hf1⟩
  have lg1 := hc1.lt
  have hk1 : Below w.heap.size w V1 := below_only (by repeat' (first | exact bl_refl _ | refine bl_alloc ?_ _ | refine bl_drew ?_)) hf1 (lies1 w.heap.size) (Nat.le_refl _)
  obtain ⟨m, hm⟩ : ∃ m, xs.length = m := ⟨_, rfl⟩
  rw [hm] at hl ho1 ⊢
  have HM := Lib.hid hm
  clear hm
  go_wp2_with fail
  refine (numberOf_any w.heap.size _ _ xs A' m c' F _ (hc1.below (by repeat' (first | exact bl_refl _ | refine bl_alloc ?_ _ | refine bl_drew ?_))) (by omega) (ho1.below (by repeat' (first | exact bl_refl _ | refine bl_alloc ?_ _ | refine bl_drew ?_))) (by simp only [World.size_alloc]; omega) (by omega)).mono ?_
  rintro e V2 ⟨k, rfl, hc2, hf2⟩
  have lg2 := hc2.lt
  have hk2 : Below w.heap.size w V2 := below_only (bl_trans hk1 (by repeat' (first | exact bl_refl _ | refine bl_alloc ?_ _ | refine bl_drew ?_))) hf2 (lies1 w.heap.size) (Nat.le_refl _)
  have ho2 := (ho1.below (by repeat' (first | exact bl_refl _ | refine bl_alloc ?_ _ | refine bl_drew ?_))).only hf2 (fun j hj hm => by have := (ho1.lies j hj).1; have := List.mem_singleton.1 hm; simp only [World.size_alloc] at *; omega)
  go_wp2_with fail
  refine (numberOf_any w.heap.size _ _ xs A' m c' F _ (hc2.below (by repeat' (first | exact bl_refl _ | refine bl_alloc ?_ _ | refine bl_drew ?_))) (by omega) (ho2.below (by repeat' (first | exact bl_refl _ | refine bl_alloc ?_ _ | refine bl_drew ?_))) (by simp only [World.size_alloc]; omega) (by omega)).mono ?_
  rintro e V3 ⟨k2, rfl, hc3, hf3⟩
  have lg3 := hc3.lt
  have hk3 : Below w.heap.size w V3 := below_only (bl_trans hk2 (by repeat' (first | exact bl_refl _ | refine bl_alloc ?_ _ | refine bl_drew ?_))) hf3 (lies1 w.heap.size) (Nat.le_refl _)
  have ho3 := (ho2.below (by repeat' (first | exact bl_refl _ | refine bl_alloc ?_ _ | refine bl_drew ?_))).only hf3 (fun j hj hm => by have := (ho2.lies j hj).1; have := List.mem_singleton.1 hm; simp only [World.size_alloc] at *; omega)
  go_wp2
  go_ret3
  exact ⟨xs, A', c', F, k, ⟨#[]⟩, k2, by rw [HM.out]; rfl, by rw [HM.out]; exact hl, hsm, by decide, by rw [HM.out]; exact ho3.mono (by simp only [World.size_alloc]; omega), hk3⟩
set_option maxRecDepth 100000 in
set_option maxHeartbeats 8000000 in
theorem drawRelease_any (A : Option Addr) (n c : Nat) (cs : List Byt) (w : World) (hcode : CodeIs w A n cs) :
    Calls Try.prog 49 #[.slice A n c] w fun e w' => DrawnI w e w' (fun l k s _ => .tuple #[l, .int .i64 k, .string s]) := by
  go_enter Try.func49, Try.ntmps49
  go_wp2_with fail
  refine (incidents_any w.heap.size 0 _ (hcode.cur (by simp)) (by omega)).mono ?_
  rintro e V1 ⟨xs, A', c', F, rfl, hl, hsm, ho1, hc1, hf1⟩
  have lg1 := hc1.lt
  have hk1 : Below w.heap.size w V1 := below_only (by repeat' (first | exact bl_refl _ | refine bl_alloc ?_ _ | refine bl_drew ?_)) hf1 (lies1 w.heap.size) (Nat.le_refl _)
  obtain ⟨m, hm⟩ : ∃ m, xs.length = m := ⟨_, rfl⟩
  rw [hm] at hl ho1 ⊢
  have HM := Lib.hid hm
  clear hm
  go_wp2_with fail
  refine (applianceName_any w.heap.size _ _ (hc1.below (by repeat' (first | exact bl_refl _ | refine bl_alloc ?_ _ | refine bl_drew ?_))) (by omega)).mono ?_
  rintro e V2 ⟨s, rfl, hs, hc2, hf2⟩
  have lg2 := hc2.lt
  have hk2 : Below w.heap.size w V2 := below_only (bl_trans hk1 (by repeat' (first | exact bl_refl _ | refine bl_alloc ?_ _ | refine bl_drew ?_))) hf2 (lies1 w.heap.size) (Nat.le_refl _)
  have ho2 := (ho1.below (by repeat' (first | exact bl_refl _ | refine bl_alloc ?_ _ | refine bl_drew ?_))).only hf2 (fun j hj hm => by have := (ho1.lies j hj).1; have := List.mem_singleton.1 hm; simp only [World.size_alloc] at *; omega)
  go_wp2_with fail
  refine (ixOf_any xs s A' m c' _ (by omega) ho2.sl).mono ?_
  rintro e V3 ⟨rfl, hb3⟩
  have hk3 := bl_trans hk2 hb3
  have ho3 := ho2.below hb3
  have hc3 := hc2.below hb3
  have lg3 := hc3.lt
  clear ho1 ho2 hc1 hc2
  obtain ⟨i, hi⟩ : ∃ i, atB xs s = i := ⟨_, rfl⟩
  rw [hi]
  have hir : -1 ≤ i ∧ i < m := by rw [← hi, ← HM.out]; exact indexF_range _ _
  clear hi
  by_cases h0 : 0 ≤ i
  · have hd : decide (i ≥ 0) = true := decide_eq_true h0
    go_wp2_with fail
    refine (one_any w.heap.size _ 4 _ (hc3.below (by repeat' (first | exact bl_refl _ | refine bl_alloc ?_ _ | refine bl_drew ?_))) (by omega) (by omega)).mono ?_
    rintro e V4 ⟨b, rfl, hc4, hf4⟩
    have lg4 := hc4.lt
    have hk4 : Below w.heap.size w V4 := below_only (bl_trans hk3 (by repeat' (first | exact bl_refl _ | refine bl_alloc ?_ _ | refine bl_drew ?_))) hf4 (lies1 w.heap.size) (Nat.le_refl _)
    have ho4 := (ho3.below (by repeat' (first | exact bl_refl _ | refine bl_alloc ?_ _ | refine bl_drew ?_))).only hf4 (fun j hj hm => by have := (ho3.lies j hj).1; have := List.mem_singleton.1 hm; simp only [World.size_alloc] at *; omega)
    cases b
    · obtain ⟨q, rfl⟩ := Int.eq_ofNat_of_zero_le h0
      have hq : q < m := by omega
      have hqd : (q : Int) < m := by omega
      obtain ⟨b, o, A2, c2, rfl, hbz, d0, d1, d2, d3, _⟩ := ho4.sl.incident hq
      clear d1 d2 d3
      go_wp2
      go_quiet (fail)
      go_wp2
      go_ret3
      exact ⟨xs, _, c', F, _, s, 0, by rw [HM.out]; rfl, by rw [HM.out]; exact hl, hsm, hs, by rw [HM.out]; exact (ho4.below (by repeat' (first | exact bl_refl _ | refine bl_drewN ?_ _ | refine bl_drew ?_))).mono (by simp only [World.size_alloc]; omega), bl_trans hk4 (by repeat' (first | exact bl_refl _ | refine bl_drewN ?_ _ | refine bl_drew ?_))⟩
    · go_wp2_with fail
      refine (numberOf_any w.heap.size _ _ xs A' m c' F _ (hc4.below (by repeat' (first | exact bl_refl _ | refine bl_alloc ?_ _ | refine bl_drew ?_))) (by omega) (ho4.below (by repeat' (first | exact bl_refl _ | refine bl_alloc ?_ _ | refine bl_drew ?_))) (by simp only [World.size_alloc]; omega) (by omega)).mono ?_
      rintro e V5 ⟨k, rfl, hc5, hf5⟩
      have lg5 := hc5.lt
      have hk5 : Below w.heap.size w V5 := below_only (bl_trans hk4 (by repeat' (first | exact bl_refl _ | refine bl_alloc ?_ _ | refine bl_drew ?_))) hf5 (lies1 w.heap.size) (Nat.le_refl _)
      have ho5 := (ho4.below (by repeat' (first | exact bl_refl _ | refine bl_alloc ?_ _ | refine bl_drew ?_))).only hf5 (fun j hj hm => by have := (ho4.lies j hj).1; have := List.mem_singleton.1 hm; simp only [World.size_alloc] at *; omega)
      go_wp2
      go_ret3
      exact ⟨xs, A', c', F, k, s, 0, by rw [HM.out]; rfl, by rw [HM.out]; exact hl, hsm, hs, by rw [HM.out]; exact ho5.mono (by simp only [World.size_alloc]; omega), hk5⟩
  · have hd : decide (i ≥ 0) = false := decide_eq_false (by omega)
    go_wp2_with fail
    refine (numberOf_any w.heap.size _ _ xs A' m c' F _ (hc3.below (by repeat' (first | exact bl_refl _ | refine bl_alloc ?_ _ | refine bl_drew ?_))) (by omega) (ho3.below (by repeat' (first | exact bl_refl _ | refine bl_alloc ?_ _ | refine bl_drew ?_))) (by simp only [World.size_alloc]; omega) (by omega)).mono ?_
    rintro e V4 ⟨k, rfl, hc4, hf4⟩
    have lg4 := hc4.lt
    have hk4 : Below w.heap.size w V4 := below_only (bl_trans hk3 (by repeat' (first | exact bl_refl _ | refine bl_alloc ?_ _ | refine bl_drew ?_))) hf4 (lies1 w.heap.size) (Nat.le_refl _)
    have ho4 := (ho3.below (by repeat' (first | exact bl_refl _ | refine bl_alloc ?_ _ | refine bl_drew ?_))).only hf4 (fun j hj hm => by have := (ho3.lies j hj).1; have := List.mem_singleton.1 hm; simp only [World.size_alloc] at *; omega)
    go_wp2
    go_ret3
    exact ⟨xs, A', c', F, k, s, 0, by rw [HM.out]; rfl, by rw [HM.out]; exact hl, hsm, hs, by rw [HM.out]; exact ho4.mono (by simp only [World.size_alloc]; omega), hk4⟩

end Go.Proofs.Ytnaadihbkiakeaa
