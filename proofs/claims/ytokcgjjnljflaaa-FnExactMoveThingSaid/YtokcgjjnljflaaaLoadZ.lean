/-
  Loads: the laws' helpers over one. No conditions.
-/
import Derived.Test.YtokcgjjnljflaaaThing
import Derived.Test.YtokcgjjnljflaaaMem7
namespace Go.Proofs.Ytokcgjjnljflaaa
open Go.RowKit

structure Load where
  Appliance : ByteArray
  Things : List Thing
  deriving DecidableEq
instance : Inhabited Load := ⟨⟨ByteArray.empty, []⟩⟩
/-- A call hands back a Load whose slice is its own. -/
def RetLoad (w : World) (E : TypeId) (x : Load) (e : Ending) (w' : World) : Prop :=
  ∃ A c, e = .returned (.agg #[.string (x.Appliance), .slice A x.Things.length c]) ∧ Own w' w.heap.size E (.slice A x.Things.length c) x.Things ∧ Below w.heap.size w w'
theorem retLoad_mk {w w' : World} {E : TypeId} {x : Load} {appliance : ByteArray} {A : Option Addr} {n c : Nat} {xs : List Thing} (hx : x = ⟨appliance, xs⟩) (hn : xs.length = n) (ho : Own w' w.heap.size E (.slice A n c) xs) (hb : Below w.heap.size w w') :
    RetLoad w E x (.returned (.agg #[.string (appliance), .slice A n c])) w' := by subst hx; subst hn; exact ⟨A, c, rfl, ho, hb⟩
/-- .. and a bool. -/
def RetLoad2 (w : World) (E : TypeId) (r : Load × Bool) (e : Ending) (w' : World) : Prop :=
  ∃ A c, e = .returned (.tuple #[.agg #[.string (r.1.Appliance), .slice A r.1.Things.length c], .bool r.2]) ∧ Own w' w.heap.size E (.slice A r.1.Things.length c) r.1.Things ∧ Below w.heap.size w w'
theorem retLoad2_mk {w w' : World} {E : TypeId} {r : Load × Bool} {b : Bool} {appliance : ByteArray} {A : Option Addr} {n c : Nat} {xs : List Thing} (hx : r = (⟨appliance, xs⟩, b)) (hn : xs.length = n) (ho : Own w' w.heap.size E (.slice A n c) xs) (hb : Below w.heap.size w w') :
    RetLoad2 w E r (.returned (.tuple #[.agg #[.string (appliance), .slice A n c], .bool b])) w' := by subst hx; subst hn; exact ⟨A, c, rfl, ho, hb⟩
set_option maxHeartbeats 1000000 in
theorem szLoad_any (appliance : ByteArray) (A : Option Addr) (n c : Nat) (xs : List Thing) (left : Int) (w : World) (hzappliance : appliance.size ≤ maxLen) (hn : (n : Int) ≤ 9223372036854775807) (hs : Sl w A n xs) (hv : ∀ x, x ∈ xs → x.Name.size ≤ maxLen) (h0 : 0 ≤ left) (h1 : left ≤ 1048576) :
    Calls Try.prog 6 #[.agg #[.string (appliance), .slice A n c], .int .i64 left] w (SzPost w left ((n : Int) ≤ left)) := by
  unfold maxLen at hzappliance
  by_cases hlt : left < appliance.size
  · go_enter Try.func6, Try.ntmps6
    go_wp2
    go_ret
    exact ⟨-1, rfl, .inl rfl, bl_alloc (bl_refl _) _⟩
  have HV := Lib.hid hv
  clear hv
  go_enter Try.func6, Try.ntmps6
  go_wp2_with fail
  refine (szThingS_any A n c xs (left - appliance.size) _ hn (hs.below (bl_alloc (bl_refl _) _)) HV.out (by omega) (by omega)).mono ?_
  rintro e V ⟨q, rfl, hq, hV⟩
  have hb := bl_trans (bl_alloc (bl_refl w) (.cells #[.string (appliance), .slice A n c] 24)) hV
  rcases hq with rfl | ⟨q0, q1, q2⟩
  · go_wp2
    go_ret
    exact ⟨-1, rfl, .inl rfl, hb⟩
  · have q3 : (n : Int) ≤ left := by have := q2.1; omega
    clear q2
    go_wp2
    go_ret
    exact ⟨q, rfl, .inr ⟨q0, by omega, q3⟩, hb⟩
set_option maxHeartbeats 1000000 in
theorem toLoad_any (appliance : ByteArray) (A : Option Addr) (n c : Nat) (xs : List Thing) (w : World) (hn : n ≤ 1048576) (hs : Sl w A n xs) :
    Calls Try.prog 8 #[.agg #[.string (appliance), .slice A n c]] w (RetLoad w 59 ⟨appliance, xs⟩) := by
  have HL := Lib.hid hs.1
  go_enter Try.func8, Try.ntmps8
  go_wp2_with fail
  refine (toThingS_any A n c xs _ hn (hs.below (by repeat' (first | exact bl_refl _ | refine bl_alloc ?_ _ | refine bl_set ?_ ?_ _ | (simp; done) | (simp; omega))))).mono ?_
  rintro e V ⟨A1, c1, rfl, ho, hb⟩
  have hk := bl_trans (a := w) (by repeat' (first | exact bl_refl _ | refine bl_alloc ?_ _ | refine bl_set ?_ ?_ _ | (simp; done) | (simp; omega))) hb
  have r0 : V.cell? ⟨w.heap.size + 1, 0, none⟩ = some (.string ⟨#[]⟩) := cell_later hb (by go_simp)
  have q0 : V.frozen? ⟨w.heap.size + 1, 0, none⟩ = false := frozen_later hb (by simp) (by go_simp)
  have s0 : V.cell? ⟨w.heap.size + 1 + 1, 0, none⟩ = some (.string (appliance)) := cell_later hb (by go_simp)
  have p0 : V.frozen? ⟨w.heap.size + 1 + 1, 0, none⟩ = false := frozen_later hb (by simp) (by go_simp)
  have r1 : V.cell? ⟨w.heap.size + 1, 1, none⟩ = some (.slice none 0 0) := cell_later hb (by go_simp)
  have q1 : V.frozen? ⟨w.heap.size + 1, 1, none⟩ = false := frozen_later hb (by simp) (by go_simp)
  have s1 : V.cell? ⟨w.heap.size + 1 + 1, 1, none⟩ = some (.slice none 0 0) := cell_later hb (by go_simp)
  have p1 : V.frozen? ⟨w.heap.size + 1 + 1, 1, none⟩ = false := frozen_later hb (by simp) (by go_simp)
  have HO := Lib.hid (ho.mono (base' := w.heap.size + 1 + 1 + 1) (by simp))
  clear ho hb
  go_wp2
  refine bodyPost_ret (by simp [results, Try.results8, go_sem, r0, r1]; try rfl) rfl ?_
  refine retLoad_mk rfl rfl (Own.mono (base := w.heap.size + 1 + 1 + 1) ?_ (by omega)) ?_
  · repeat' (first | with_reducible exact HO.out | with_reducible refine Own.set ?_ (by omega) _)
  · repeat' (first | with_reducible exact hk | with_reducible refine bl_set ?_ (by simp only []; omega) _)
set_option maxHeartbeats 1000000 in
theorem eqLoad_any (appliance : ByteArray) (appliance' : ByteArray) (A B : Option Addr) (n m c d : Nat) (xs ys : List Thing) (w : World) (hn : (n : Int) ≤ 9223372036854775807) (hx : Sl w A n xs) (hy : Sl w B m ys) :
    Calls Try.prog 10 #[.agg #[.string (appliance), .slice A n c], .agg #[.string (appliance'), .slice B m d]] w fun e w' => e = .returned (.bool (sameB (⟨appliance, xs⟩ : Load) ⟨appliance', ys⟩)) ∧ Below w.heap.size w w' := by
  by_cases h0 : (appliance.toList == appliance'.toList) = true
  rotate_left
  · have h0 : (appliance.toList == appliance'.toList) = false := by simpa using h0
    have q : Hid (sameB (⟨appliance, xs⟩ : Load) ⟨appliance', ys⟩ = false) := by rw [Hid, sameB_no]; intro e; injection e; simp_all
    go_enter Try.func10, Try.ntmps10
    go_wp2
    go_ret
    exact ⟨ret_bool q.out.symm, by repeat' (first | exact bl_refl _ | refine bl_alloc ?_ _ | refine bl_set ?_ ?_ _ | (simp; done) | (simp; omega))⟩
  have z0 : Hid (appliance = appliance') := by rw [Hid]; exact bytes_inj (by simpa using h0)
  go_enter Try.func10, Try.ntmps10
  go_wp2_with fail
  refine (eqThingS_any A B n m c d xs ys _ hn (hx.below (bl_alloc (bl_alloc (bl_refl _) _) _)) (hy.below (bl_alloc (bl_alloc (bl_refl _) _) _))).mono ?_
  rintro e V ⟨rfl, hV⟩
  have hk := bl_trans (bl_alloc (bl_alloc (bl_refl w) (.cells #[.string (appliance), .slice A n c] 28)) (.cells #[.string (appliance'), .slice B m d] 28)) hV
  cases h : sameB xs ys
  · have q : Hid (sameB (⟨appliance, xs⟩ : Load) ⟨appliance', ys⟩ = false) := by rw [Hid]; rw [sameB_no] at h ⊢; intro e; injection e; contradiction
    clear h
    go_wp2
    go_ret
    exact ⟨ret_bool q.out.symm, hk⟩
  · have q : Hid (sameB (⟨appliance, xs⟩ : Load) ⟨appliance', ys⟩ = true) := by rw [Hid]; rw [sameB_iff] at h ⊢; rw [z0.out]; rw [h]
    clear h
    go_wp2
    go_ret
    exact ⟨ret_bool q.out.symm, hk⟩
theorem markLoad_any (appliance : ByteArray) (A : Option Addr) (n c base : Nat) (k : Int) (xs : List Thing) (w : World) (hn : n ≤ 1048576) (hk0 : 0 ≤ k) (hk1 : k ≤ 16777216) (ho : Own w base 59 (.slice A n c) xs) :
    Calls Try.prog 11 #[.agg #[.string (appliance), .slice A n c], .int .i64 k] w fun e w' => e = .returned (.int .i64 (k + 3 * n)) ∧ Own w' base 59 (.slice A n c) (marks mkThing 3 k n) ∧ w.grownBy w' (Value.ownBlock (.slice A n c)) := by
  go_enter Try.func11, Try.ntmps11
  go_wp2_with fail
  refine (markThingS_any A n c base k xs _ hn hk0 hk1 (ho.alloc _)).mono ?_
  rintro e V ⟨rfl, ho2, hg⟩
  go_wp2
  go_ret
  exact ⟨rfl, ho2, gb_trans (gb_below (bl_alloc (bl_refl w) (.cells #[.string (appliance), .slice A n c] 28)) _) hg⟩
theorem heldLoad_any (appliance : ByteArray) (A : Option Addr) (n c : Nat) (k : Int) (w : World) (hn : n ≤ 1048576) (hk0 : 0 ≤ k) (hk1 : k ≤ 16777216) (hs : Sl w A n (marks mkThing 3 k n)) :
    Calls Try.prog 12 #[.agg #[.string (appliance), .slice A n c], .int .i64 k] w fun e w' => e = .returned (.int .i64 (k + 3 * n)) ∧ Below w.heap.size w w' := by
  go_enter Try.func12, Try.ntmps12
  go_wp2_with fail
  refine (heldThingS_any A n c k _ hn hk0 hk1 (hs.below (bl_alloc (bl_refl _) _))).mono ?_
  rintro e V ⟨rfl, hV⟩
  go_wp2
  go_ret
  exact ⟨rfl, bl_trans (bl_alloc (bl_refl w) (.cells #[.string (appliance), .slice A n c] 28)) hV⟩

end Go.Proofs.Ytokcgjjnljflaaa
