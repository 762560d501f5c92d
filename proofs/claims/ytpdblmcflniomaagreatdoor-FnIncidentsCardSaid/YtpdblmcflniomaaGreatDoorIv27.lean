/-
  Several texts in one. No conditions.
-/
import Derived.Test.YtpdblmcflniomaaGreatDoorCuL
import Derived.Deep.QuietTactic
import Derived.BigQuiet
namespace Go.Proofs.YtpdblmcflniomaaGreatDoor
open Go.RowKit

/-- what is drawn: incidents, a number, a name -/
def DrawnI (w : World) (e : Ending) (w' : World) (f : Value → Int → ByteArray → Int → Value) : Prop := ∃ (xs : List Incident) (A : Option Addr) (c : Nat) (F : List Nat) (k : Int) (s : ByteArray) (k2 : Int), e = .returned (f (.slice A xs.length c) k s k2) ∧ xs.length ≤ 9 ∧ SmI xs ∧ s.size ≤ 7 ∧ OwnX incidentN w' w.heap.size 32 9 (.slice A xs.length c) xs F ∧ Below w.heap.size w w'
end Go.Proofs.YtpdblmcflniomaaGreatDoor

namespace Go.Proofs.YtpdblmcflniomaaGreatDoor
open Go.RowKit

set_option maxRecDepth 100000 in
set_option maxHeartbeats 8000000 in
theorem drawOpen_any (A : Option Addr) (n c : Nat) (cs : List Byt) (w : World) (hcode : CodeIs w A n cs) :
    Calls Tryz.prog 5 #[.slice A n c] w fun e w' => DrawnI w e w' (fun l k _ _ => .tuple #[l, .int .i64 k]) := by
  go_enter Tryz.func5, Tryz.ntmps5
  go_wp2_with fail
  refine (incidents_any w.heap.size 0 _ (hcode.cur (by simp)) (by omega)).mono ?_
  rintro e V1 ⟨xs, A', c', F, rfl, hl, hsm, ho1, hc1, hf1⟩
  have lg1 := hc1.lt
  have hk1 : Below w.heap.size w V1 := below_only (by repeat' (first | exact bl_refl _ | refine bl_alloc ?_ _ | refine bl_drew ?_)) hf1 (lies1 w.heap.size) (Nat.le_refl _)
  obtain ⟨m, hm⟩ : ∃ m, xs.length = m := ⟨_, rfl⟩
  rw [hm] at hl ho1 ⊢
  have HM := Lib.hid hm
  clear hm
  go_wp2_with fail
  refine (among_any w.heap.size _ _ _ _ [-1, 14] _ (hc1.below (by repeat' (first | exact bl_refl _ | refine bl_alloc ?_ _ | refine bl_drew ?_))) (by omega) (by exact sl_lit' (by simp) rfl rfl) (by omega) (by omega) (by rintro b o h _; injection h with h; injection h with h1; (try simp at h1); omega)).mono ?_
  rintro e V2 ⟨k0, rfl, hm_k0, hc2, hf2⟩
  have lg2 := hc2.lt
  have hk2 : Below w.heap.size w V2 := below_only (bl_trans hk1 (by repeat' (first | exact bl_refl _ | refine bl_alloc ?_ _ | refine bl_drew ?_))) hf2 (lies1 w.heap.size) (Nat.le_refl _)
  have ho2 := (ho1.below (by repeat' (first | exact bl_refl _ | refine bl_alloc ?_ _ | refine bl_drew ?_))).only hf2 (fun j hj hm => by have := (ho1.lies j hj).1; have := List.mem_singleton.1 hm; simp only [World.size_alloc] at *; omega)
  clear hm_k0
  go_wp2_with fail
  refine (among_any w.heap.size _ _ _ _ [0, 1, 3, 13, k0] _ (hc2.below (by repeat' (first | exact bl_refl _ | refine bl_alloc ?_ _ | refine bl_drew ?_))) (by omega) (by exact sl_lit' (by simp) rfl rfl) (by omega) (by omega) (by rintro b o h _; injection h with h; injection h with h1; (try simp at h1); omega)).mono ?_
  rintro e V3 ⟨k, rfl, hm_k, hc3, hf3⟩
  have lg3 := hc3.lt
  have hk3 : Below w.heap.size w V3 := below_only (bl_trans hk2 (by repeat' (first | exact bl_refl _ | refine bl_alloc ?_ _ | refine bl_drew ?_))) hf3 (lies1 w.heap.size) (Nat.le_refl _)
  have ho3 := (ho2.below (by repeat' (first | exact bl_refl _ | refine bl_alloc ?_ _ | refine bl_drew ?_))).only hf3 (fun j hj hm => by have := (ho2.lies j hj).1; have := List.mem_singleton.1 hm; simp only [World.size_alloc] at *; omega)
  clear hm_k
  go_wp2
  go_ret2
  exact ⟨xs, A', c', F, k, ⟨#[]⟩, 0, by rw [HM.out]; rfl, by rw [HM.out]; exact hl, hsm, by decide, by rw [HM.out]; exact ho3.mono (by simp only [World.size_alloc]; omega), hk3⟩
set_option maxRecDepth 100000 in
set_option maxHeartbeats 8000000 in
theorem drawClose_any (A : Option Addr) (n c : Nat) (cs : List Byt) (w : World) (hcode : CodeIs w A n cs) :
    Calls Tryz.prog 10 #[.slice A n c] w fun e w' => DrawnI w e w' (fun l k _ _ => .tuple #[l, .int .i64 k]) := by
  go_enter Tryz.func10, Tryz.ntmps10
  go_wp2_with fail
  refine (incidents_any w.heap.size 0 _ (hcode.cur (by simp)) (by omega)).mono ?_
  rintro e V1 ⟨xs, A', c', F, rfl, hl, hsm, ho1, hc1, hf1⟩
  have lg1 := hc1.lt
  have hk1 : Below w.heap.size w V1 := below_only (by repeat' (first | exact bl_refl _ | refine bl_alloc ?_ _ | refine bl_drew ?_)) hf1 (lies1 w.heap.size) (Nat.le_refl _)
  obtain ⟨m, hm⟩ : ∃ m, xs.length = m := ⟨_, rfl⟩
  rw [hm] at hl ho1 ⊢
  have HM := Lib.hid hm
  clear hm
  go_wp2_with fail
  refine (numberOf_any w.heap.size _ _ xs A' m c' F _ (hc1.below (by repeat' (first | exact bl_refl _ | refine bl_alloc ?_ _ | refine bl_drew ?_))) (by omega) (ho1.below (by repeat' (first | exact bl_refl _ | refine bl_alloc ?_ _ | refine bl_drew ?_))) (by simp only [World.size_alloc]; omega) (by omega)).mono ?_
  rintro e V2 ⟨k, rfl, hc2, hf2⟩
  have lg2 := hc2.lt
  have hk2 : Below w.heap.size w V2 := below_only (bl_trans hk1 (by repeat' (first | exact bl_refl _ | refine bl_alloc ?_ _ | refine bl_drew ?_))) hf2 (lies1 w.heap.size) (Nat.le_refl _)
  have ho2 := (ho1.below (by repeat' (first | exact bl_refl _ | refine bl_alloc ?_ _ | refine bl_drew ?_))).only hf2 (fun j hj hm => by have := (ho1.lies j hj).1; have := List.mem_singleton.1 hm; simp only [World.size_alloc] at *; omega)
  go_wp2
  go_ret2
  exact ⟨xs, A', c', F, k, ⟨#[]⟩, 0, by rw [HM.out]; rfl, by rw [HM.out]; exact hl, hsm, by decide, by rw [HM.out]; exact ho2.mono (by simp only [World.size_alloc]; omega), hk2⟩

end Go.Proofs.YtpdblmcflniomaaGreatDoor
