/-
  One incident: the mark and the test of it. No conditions.
-/
import Derived.Test.YtjiokhgmoalnpaaDoorIncZ
namespace Go.Proofs.YtjiokhgmoalnpaaDoor
open Go.RowKit

theorem markIncident_any (number : Int) (node : Int) (closed : Bool) (A : Option Addr) (n c base : Nat) (k : Int) (xs : List ByteArray) (w : World) (hn : n ≤ 1048576) (hk0 : 0 ≤ k) (hk1 : k ≤ 16777216) (ho : Own w base 9 (.slice A n c) xs) :
    Calls Tryd.prog 23 #[.agg #[.int .i64 (number), .int .i64 (node), .bool (closed), .slice A n c], .int .i64 k] w fun e w' => e = .returned (.int .i64 (k + n)) ∧ Own w' base 9 (.slice A n c) (marks mkT 1 k n) ∧ w.grownBy w' (Value.ownBlock (.slice A n c)) := by
  go_enter Tryd.func23, Tryd.ntmps23
  go_wp2_with fail
  refine (markStringS_any A n c base k xs _ hn hk0 hk1 (ho.alloc _)).mono ?_
  rintro e V ⟨rfl, ho2, hg⟩
  go_wp2
  go_ret
  exact ⟨rfl, ho2, gb_trans (gb_below (bl_alloc (bl_refl w) (.cells #[.int .i64 (number), .int .i64 (node), .bool (closed), .slice A n c] 35)) _) hg⟩
theorem heldIncident_any (number : Int) (node : Int) (closed : Bool) (A : Option Addr) (n c : Nat) (k : Int) (w : World) (hn : n ≤ 1048576) (hk0 : 0 ≤ k) (hk1 : k ≤ 16777216) (hs : Sl w A n (marks mkT 1 k n)) :
    Calls Tryd.prog 24 #[.agg #[.int .i64 (number), .int .i64 (node), .bool (closed), .slice A n c], .int .i64 k] w fun e w' => e = .returned (.int .i64 (k + n)) ∧ Below w.heap.size w w' := by
  go_enter Tryd.func24, Tryd.ntmps24
  go_wp2_with fail
  refine (heldStringS_any A n c k _ hn hk0 hk1 (hs.below (bl_alloc (bl_refl _) _))).mono ?_
  rintro e V ⟨rfl, hV⟩
  go_wp2
  go_ret
  exact ⟨rfl, bl_trans (bl_alloc (bl_refl w) (.cells #[.int .i64 (number), .int .i64 (node), .bool (closed), .slice A n c] 35)) hV⟩

end Go.Proofs.YtjiokhgmoalnpaaDoor
