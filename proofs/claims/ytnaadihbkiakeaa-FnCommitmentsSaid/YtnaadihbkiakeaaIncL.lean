/-
  Lists of incidents: the helpers of the laws over them. No conditions.
-/
import Derived.Test.YtnaadihbkiakeaaIncN
namespace Go.Proofs.Ytnaadihbkiakeaa
open Go.RowKit

theorem incident_info : (Try.prog.info? 76).map (fun i => (i.zero, i.size, i.bytes)) = some (some (.agg #[.int .i64 (0), .int .i64 (0), .bool (false), .slice none 0 0]), 4, 48) := by kernel_rfl
end Go.Proofs.Ytnaadihbkiakeaa
