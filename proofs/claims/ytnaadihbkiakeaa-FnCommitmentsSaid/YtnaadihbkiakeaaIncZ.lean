/-
  Incidents: the laws' helpers over one. No conditions.
-/
import Derived.Test.YtnaadihbkiakeaaStrsI
import Derived.Test.YtnaadihbkiakeaaMem7
import Derived.Test.YtnaadihbkiakeaaMem6
namespace Go.Proofs.Ytnaadihbkiakeaa
open Go.RowKit

structure Incident where
  Number : Int
  Node : Int
  Closed : Bool
  Names : List ByteArray
  deriving DecidableEq
instance : Inhabited Incident := ⟨⟨0, 0, false, []⟩⟩
/-- A call hands back a Incident whose slice is its own. -/
def RetIncident (w : World) (E : TypeId) (x : Incident) (e : Ending) (w' : World) : Prop :=
  ∃ A c, e = .returned (.agg #[.int .i64 (x.Number), .int .i64 (x.Node), .bool (x.Closed), .slice A x.Names.length c]) ∧ Own w' w.heap.size E (.slice A x.Names.length c) x.Names ∧ Below w.heap.size w w'
theorem retIncident_mk {w w' : World} {E : TypeId} {x : Incident} {number : Int} {node : Int} {closed : Bool} {A : Option Addr} {n c : Nat} {xs : List ByteArray} (hx : x = ⟨number, node, closed, xs⟩) (hn : xs.length = n) (ho : Own w' w.heap.size E (.slice A n c) xs) (hb : Below w.heap.size w w') :
    RetIncident w E x (.returned (.agg #[.int .i64 (number), .int .i64 (node), .bool (closed), .slice A n c])) w' := by subst hx; subst hn; exact ⟨A, c, rfl, ho, hb⟩
/-- .. and a bool. -/
def RetIncident2 (w : World) (E : TypeId) (r : Incident × Bool) (e : Ending) (w' : World) : Prop :=
  ∃ A c, e = .returned (.tuple #[.agg #[.int .i64 (r.1.Number), .int .i64 (r.1.Node), .bool (r.1.Closed), .slice A r.1.Names.length c], .bool r.2]) ∧ Own w' w.heap.size E (.slice A r.1.Names.length c) r.1.Names ∧ Below w.heap.size w w'
theorem retIncident2_mk {w w' : World} {E : TypeId} {r : Incident × Bool} {b : Bool} {number : Int} {node : Int} {closed : Bool} {A : Option Addr} {n c : Nat} {xs : List ByteArray} (hx : r = (⟨number, node, closed, xs⟩, b)) (hn : xs.length = n) (ho : Own w' w.heap.size E (.slice A n c) xs) (hb : Below w.heap.size w w') :
    RetIncident2 w E r (.returned (.tuple #[.agg #[.int .i64 (number), .int .i64 (node), .bool (closed), .slice A n c], .bool b])) w' := by subst hx; subst hn; exact ⟨A, c, rfl, ho, hb⟩
end Go.Proofs.Ytnaadihbkiakeaa
