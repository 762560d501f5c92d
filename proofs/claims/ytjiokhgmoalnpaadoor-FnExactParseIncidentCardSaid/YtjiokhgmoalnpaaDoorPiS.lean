/-
  ParseIncident: the reference's answer. No conditions.
-/
import Derived.Test.YtjiokhgmoalnpaaDoorPiS1
import Derived.Test.YtjiokhgmoalnpaaDoorPiS2
import Derived.Test.YtjiokhgmoalnpaaDoorPiS3
namespace Go.Proofs.YtjiokhgmoalnpaaDoor
open Go.RowKit

theorem specParseIncident_any (s : ByteArray) (w : World) (hs : s.size ≤ 1048576) :
    Calls Tryd.prog 21 #[.string s] w (RetIncident2 w 9 (piF s)) := by
  by_cases h0 : 0 < (nth (cutB 58 s) 0).size
  · by_cases h1 : Go.PlainAid.bt (nth (cutB 58 s) 0) ((nth (cutB 58 s) 0).size - 1) = 33
    · exact specParseIncident_1 s w hs (fun h hh => by subst hh; exact ⟨h0, h1⟩)
    · exact specParseIncident_2 s w hs (fun h hh => by subst hh; exact ⟨h0, h1⟩)
  · exact specParseIncident_3 s w hs (fun h hh => by subst hh; omega)

end Go.Proofs.YtjiokhgmoalnpaaDoor
