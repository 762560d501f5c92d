/-
  Incidents: the exported tests of one answer incB. No conditions.
-/
import Derived.Test.YtocpddhlpkdikaaIncB
import Derived.Test.YtocpddhlpkdikaaIncC
namespace Go.Proofs.Ytocpddhlpkdikaa
open Go.RowKit

theorem specIsIncident_any (number node : Int) (closed : Bool) (xs : List ByteArray) (A : Option Addr) (n c : Nat) (w : World) (hn : (n : Int) ≤ 9223372036854775807) (hs : Sl w A n xs) (hv : ∀ x, x ∈ xs → x.size ≤ maxLen) :
    Calls Try.prog 14 #[.agg #[.int .i64 number, .int .i64 node, .bool closed, .slice A n c]] w fun e w' => e = .returned (.bool (incB number node closed xs)) ∧ Below w.heap.size w w' := by
  have HV := Lib.hid hv
  clear hv
  go_enter Try.func14, Try.ntmps14
  have hk0 := bl_refl w
  go_wp2_with fail
  refine (ixOne_any number node closed xs _ _ _ _ hn (hs.below (bl_trans hk0 (by repeat' (first | exact bl_refl _ | refine bl_alloc ?_ _ | refine bl_drew ?_ | refine bl_drewN ?_ _ | refine bl_set ?_ ?_ _ | (simp; done) | (simp; omega))))) HV.out).mono ?_
  rintro e V1 ⟨rfl, hb1⟩
  have hB1 := bl_trans (a := w) (by repeat' (first | exact bl_refl _ | refine bl_alloc ?_ _ | refine bl_drew ?_ | refine bl_drewN ?_ _ | refine bl_set ?_ ?_ _ | (simp; done) | (simp; omega))) hb1
  have hk1 := bl_trans hk0 hB1
  have z1 := Lib.hid hB1.size
  go_wp2
  go_ret
  exact ⟨rfl, hk1⟩
theorem implIsIncident_any (number node : Int) (closed : Bool) (xs : List ByteArray) (A : Option Addr) (n c : Nat) (w : World) (hn : (n : Int) ≤ 9223372036854775807) (hs : Sl w A n xs) (hv : ∀ x, x ∈ xs → x.size ≤ maxLen) :
    Calls Try.prog 16 #[.agg #[.int .i64 number, .int .i64 node, .bool closed, .slice A n c]] w fun e w' => e = .returned (.bool (incB number node closed xs)) ∧ Below w.heap.size w w' := by
  have HV := Lib.hid hv
  clear hv
  go_enter Try.func16, Try.ntmps16
  have hk0 := bl_refl w
  go_wp2_with fail
  refine (isIncident_any number node closed xs _ _ _ _ hn (hs.below (bl_trans hk0 (by repeat' (first | exact bl_refl _ | refine bl_alloc ?_ _ | refine bl_drew ?_ | refine bl_drewN ?_ _ | refine bl_set ?_ ?_ _ | (simp; done) | (simp; omega))))) HV.out).mono ?_
  rintro e V1 ⟨rfl, hb1⟩
  have hB1 := bl_trans (a := w) (by repeat' (first | exact bl_refl _ | refine bl_alloc ?_ _ | refine bl_drew ?_ | refine bl_drewN ?_ _ | refine bl_set ?_ ?_ _ | (simp; done) | (simp; omega))) hb1
  have hk1 := bl_trans hk0 hB1
  have z1 := Lib.hid hB1.size
  go_wp2
  go_ret
  exact ⟨rfl, hk1⟩

end Go.Proofs.Ytocpddhlpkdikaa
