/-
  CrashDiary: both texts. No conditions.
-/
import Derived.Test.YtenlbeghjabpkaaGreatDoorJnD0
namespace Go.Proofs.YtenlbeghjabpkaaGreatDoor
open Go.RowKit

end Go.Proofs.YtenlbeghjabpkaaGreatDoor
