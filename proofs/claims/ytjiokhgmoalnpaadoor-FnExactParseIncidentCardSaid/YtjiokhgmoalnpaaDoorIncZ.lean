/-
  Incidents: the laws' helpers over one. No conditions.
-/
import Derived.Test.YtjiokhgmoalnpaaDoorStrsI
import Derived.Test.YtjiokhgmoalnpaaDoorMem7
import Derived.Test.YtjiokhgmoalnpaaDoorMem6
namespace Go.Proofs.YtjiokhgmoalnpaaDoor
open Go.RowKit

structure Incident where
  Number : Int
  Node : Int
  Closed : Bool
  Names : List ByteArray
  deriving DecidableEq
instance : Inhabited Incident := ⟨⟨0, 0, false, []⟩⟩
/-- A call hands back a Incident whose slice is its own. -/
def RetIncident (w : World) (E : TypeId) (x : Incident) (e : Ending) (w' : World) : Prop :=
  ∃ A c, e = .returned (.agg #[.int .i64 (x.Number), .int .i64 (x.Node), .bool (x.Closed), .slice A x.Names.length c]) ∧ Own w' w.heap.size E (.slice A x.Names.length c) x.Names ∧ Below w.heap.size w w'
theorem retIncident_mk {w w' : World} {E : TypeId} {x : Incident} {number : Int} {node : Int} {closed : Bool} {A : Option Addr} {n c : Nat} {xs : List ByteArray} (hx : x = ⟨number, node, closed, xs⟩) (hn : xs.length = n) (ho : Own w' w.heap.size E (.slice A n c) xs) (hb : Below w.heap.size w w') :
    RetIncident w E x (.returned (.agg #[.int .i64 (number), .int .i64 (node), .bool (closed), .slice A n c])) w' := by subst hx; subst hn; exact ⟨A, c, rfl, ho, hb⟩
/-- .. and a bool. -/
def RetIncident2 (w : World) (E : TypeId) (r : Incident × Bool) (e : Ending) (w' : World) : Prop :=
  ∃ A c, e = .returned (.tuple #[.agg #[.int .i64 (r.1.Number), .int .i64 (r.1.Node), .bool (r.1.Closed), .slice A r.1.Names.length c], .bool r.2]) ∧ Own w' w.heap.size E (.slice A r.1.Names.length c) r.1.Names ∧ Below w.heap.size w w'
theorem retIncident2_mk {w w' : World} {E : TypeId} {r : Incident × Bool} {b : Bool} {number : Int} {node : Int} {closed : Bool} {A : Option Addr} {n c : Nat} {xs : List ByteArray} (hx : r = (⟨number, node, closed, xs⟩, b)) (hn : xs.length = n) (ho : Own w' w.heap.size E (.slice A n c) xs) (hb : Below w.heap.size w w') :
    RetIncident2 w E r (.returned (.tuple #[.agg #[.int .i64 (number), .int .i64 (node), .bool (closed), .slice A n c], .bool b])) w' := by subst hx; subst hn; exact ⟨A, c, rfl, ho, hb⟩
set_option maxHeartbeats 1000000 in
theorem szIncident_any (number : Int) (node : Int) (closed : Bool) (A : Option Addr) (n c : Nat) (xs : List ByteArray) (left : Int) (w : World) (hn : (n : Int) ≤ 9223372036854775807) (hs : Sl w A n xs) (hv : ∀ x, x ∈ xs → x.size ≤ maxLen) (h0 : 0 ≤ left) (h1 : left ≤ 1048576) :
    Calls Tryd.prog 12 #[.agg #[.int .i64 (number), .int .i64 (node), .bool (closed), .slice A n c], .int .i64 left] w (SzPost w left ((n : Int) ≤ left)) := by
  have HV := Lib.hid hv
  clear hv
  go_enter Tryd.func12, Tryd.ntmps12
  go_wp2_with fail
  refine (szStringS_any A n c xs (left) _ hn (hs.below (bl_alloc (bl_refl _) _)) HV.out (by omega) (by omega)).mono ?_
  rintro e V ⟨q, rfl, hq, hV⟩
  have hb := bl_trans (bl_alloc (bl_refl w) (.cells #[.int .i64 (number), .int .i64 (node), .bool (closed), .slice A n c] 32)) hV
  rcases hq with rfl | ⟨q0, q1, q2⟩
  · go_wp2
    go_ret
    exact ⟨-1, rfl, .inl rfl, hb⟩
  · have q3 : (n : Int) ≤ left := by have := q2.1; omega
    clear q2
    go_wp2
    go_ret
    exact ⟨q, rfl, .inr ⟨q0, by omega, q3⟩, hb⟩
set_option maxHeartbeats 1000000 in
theorem toIncident_any (number : Int) (node : Int) (closed : Bool) (A : Option Addr) (n c : Nat) (xs : List ByteArray) (w : World) (hn : n ≤ 1048576) (hs : Sl w A n xs) :
    Calls Tryd.prog 14 #[.agg #[.int .i64 (number), .int .i64 (node), .bool (closed), .slice A n c]] w (RetIncident w 9 ⟨number, node, closed, xs⟩) := by
  have HL := Lib.hid hs.1
  go_enter Tryd.func14, Tryd.ntmps14
  go_wp2_with fail
  refine (toStringS_any A n c xs _ hn (hs.below (by repeat' (first | exact bl_refl _ | refine bl_alloc ?_ _ | refine bl_set ?_ ?_ _ | (simp; done) | (simp; omega))))).mono ?_
  rintro e V ⟨A1, c1, rfl, ho, hb⟩
  have hk := bl_trans (a := w) (by repeat' (first | exact bl_refl _ | refine bl_alloc ?_ _ | refine bl_set ?_ ?_ _ | (simp; done) | (simp; omega))) hb
  have r0 : V.cell? ⟨w.heap.size + 1, 0, none⟩ = some (.int .i64 0) := cell_later hb (by go_simp)
  have q0 : V.frozen? ⟨w.heap.size + 1, 0, none⟩ = false := frozen_later hb (by simp) (by go_simp)
  have s0 : V.cell? ⟨w.heap.size + 1 + 1, 0, none⟩ = some (.int .i64 (number)) := cell_later hb (by go_simp)
  have p0 : V.frozen? ⟨w.heap.size + 1 + 1, 0, none⟩ = false := frozen_later hb (by simp) (by go_simp)
  have r1 : V.cell? ⟨w.heap.size + 1, 1, none⟩ = some (.int .i64 0) := cell_later hb (by go_simp)
  have q1 : V.frozen? ⟨w.heap.size + 1, 1, none⟩ = false := frozen_later hb (by simp) (by go_simp)
  have s1 : V.cell? ⟨w.heap.size + 1 + 1, 1, none⟩ = some (.int .i64 (node)) := cell_later hb (by go_simp)
  have p1 : V.frozen? ⟨w.heap.size + 1 + 1, 1, none⟩ = false := frozen_later hb (by simp) (by go_simp)
  have r2 : V.cell? ⟨w.heap.size + 1, 2, none⟩ = some (.bool false) := cell_later hb (by go_simp)
  have q2 : V.frozen? ⟨w.heap.size + 1, 2, none⟩ = false := frozen_later hb (by simp) (by go_simp)
  have s2 : V.cell? ⟨w.heap.size + 1 + 1, 2, none⟩ = some (.bool (closed)) := cell_later hb (by go_simp)
  have p2 : V.frozen? ⟨w.heap.size + 1 + 1, 2, none⟩ = false := frozen_later hb (by simp) (by go_simp)
  have r3 : V.cell? ⟨w.heap.size + 1, 3, none⟩ = some (.slice none 0 0) := cell_later hb (by go_simp)
  have q3 : V.frozen? ⟨w.heap.size + 1, 3, none⟩ = false := frozen_later hb (by simp) (by go_simp)
  have s3 : V.cell? ⟨w.heap.size + 1 + 1, 3, none⟩ = some (.slice none 0 0) := cell_later hb (by go_simp)
  have p3 : V.frozen? ⟨w.heap.size + 1 + 1, 3, none⟩ = false := frozen_later hb (by simp) (by go_simp)
  have HO := Lib.hid (ho.mono (base' := w.heap.size + 1 + 1 + 1) (by simp))
  clear ho hb
  go_wp2
  refine bodyPost_ret (by simp [results, Tryd.results14, go_sem, r0, r1, r2, r3]; try rfl) rfl ?_
  refine retIncident_mk rfl rfl (Own.mono (base := w.heap.size + 1 + 1 + 1) ?_ (by omega)) ?_
  · repeat' (first | with_reducible exact HO.out | with_reducible refine Own.set ?_ (by omega) _)
  · repeat' (first | with_reducible exact hk | with_reducible refine bl_set ?_ (by simp only []; omega) _)
set_option maxHeartbeats 1000000 in
theorem eqIncident_any (number : Int) (node : Int) (closed : Bool) (number' : Int) (node' : Int) (closed' : Bool) (A B : Option Addr) (n m c d : Nat) (xs ys : List ByteArray) (w : World) (hn : (n : Int) ≤ 9223372036854775807) (hx : Sl w A n xs) (hy : Sl w B m ys) :
    Calls Tryd.prog 16 #[.agg #[.int .i64 (number), .int .i64 (node), .bool (closed), .slice A n c], .agg #[.int .i64 (number'), .int .i64 (node'), .bool (closed'), .slice B m d]] w fun e w' => e = .returned (.bool (sameB (⟨number, node, closed, xs⟩ : Incident) ⟨number', node', closed', ys⟩)) ∧ Below w.heap.size w w' := by
  by_cases h0 : (number == number') = true
  rotate_left
  · have h0 : (number == number') = false := by simpa using h0
    have e0 : (number != number') = true := by simp [bne, h0]
    have q : Hid (sameB (⟨number, node, closed, xs⟩ : Incident) ⟨number', node', closed', ys⟩ = false) := by rw [Hid, sameB_no]; intro e; injection e; simp_all
    go_enter Tryd.func16, Tryd.ntmps16
    go_wp2
    go_ret
    exact ⟨ret_bool q.out.symm, by repeat' (first | exact bl_refl _ | refine bl_alloc ?_ _ | refine bl_set ?_ ?_ _ | (simp; done) | (simp; omega))⟩
  have e0 : (number != number') = false := by simp [bne, h0]
  have z0 : Hid (number = number') := by rw [Hid]; simpa using h0
  by_cases h1 : (node == node') = true
  rotate_left
  · have h1 : (node == node') = false := by simpa using h1
    have e1 : (node != node') = true := by simp [bne, h1]
    have q : Hid (sameB (⟨number, node, closed, xs⟩ : Incident) ⟨number', node', closed', ys⟩ = false) := by rw [Hid, sameB_no]; intro e; injection e; simp_all
    go_enter Tryd.func16, Tryd.ntmps16
    go_wp2
    go_ret
    exact ⟨ret_bool q.out.symm, by repeat' (first | exact bl_refl _ | refine bl_alloc ?_ _ | refine bl_set ?_ ?_ _ | (simp; done) | (simp; omega))⟩
  have e1 : (node != node') = false := by simp [bne, h1]
  have z1 : Hid (node = node') := by rw [Hid]; simpa using h1
  by_cases h2 : (closed == closed') = true
  rotate_left
  · have h2 : (closed == closed') = false := by simpa using h2
    have e2 : (closed != closed') = true := by simp [bne, h2]
    have q : Hid (sameB (⟨number, node, closed, xs⟩ : Incident) ⟨number', node', closed', ys⟩ = false) := by rw [Hid, sameB_no]; intro e; injection e; simp_all
    go_enter Tryd.func16, Tryd.ntmps16
    go_wp2
    go_ret
    exact ⟨ret_bool q.out.symm, by repeat' (first | exact bl_refl _ | refine bl_alloc ?_ _ | refine bl_set ?_ ?_ _ | (simp; done) | (simp; omega))⟩
  have e2 : (closed != closed') = false := by simp [bne, h2]
  have z2 : Hid (closed = closed') := by rw [Hid]; simpa using h2
  go_enter Tryd.func16, Tryd.ntmps16
  go_wp2_with fail
  refine (eqStringS_any A B n m c d xs ys _ hn (hx.below (bl_alloc (bl_alloc (bl_refl _) _) _)) (hy.below (bl_alloc (bl_alloc (bl_refl _) _) _))).mono ?_
  rintro e V ⟨rfl, hV⟩
  have hk := bl_trans (bl_alloc (bl_alloc (bl_refl w) (.cells #[.int .i64 (number), .int .i64 (node), .bool (closed), .slice A n c] 35)) (.cells #[.int .i64 (number'), .int .i64 (node'), .bool (closed'), .slice B m d] 35)) hV
  cases h : sameB xs ys
  · have q : Hid (sameB (⟨number, node, closed, xs⟩ : Incident) ⟨number', node', closed', ys⟩ = false) := by rw [Hid]; rw [sameB_no] at h ⊢; intro e; injection e; contradiction
    clear h
    go_wp2
    go_ret
    exact ⟨ret_bool q.out.symm, hk⟩
  · have q : Hid (sameB (⟨number, node, closed, xs⟩ : Incident) ⟨number', node', closed', ys⟩ = true) := by rw [Hid]; rw [sameB_iff] at h ⊢; rw [z0.out]; rw [z1.out]; rw [z2.out]; rw [h]
    clear h
    go_wp2
    go_ret
    exact ⟨ret_bool q.out.symm, hk⟩

end Go.Proofs.YtjiokhgmoalnpaaDoor
