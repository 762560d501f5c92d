/-
  Diaries: what they have, plain. No conditions.
-/
import Derived.Test.YtenlbeghjabpkaaGreatDoorJnH
import Derived.Test.YtenlbeghjabpkaaGreatDoorJnI
import Derived.Test.YtenlbeghjabpkaaGreatDoorDiary
namespace Go.Proofs.YtenlbeghjabpkaaGreatDoor
open Go.RowKit

noncomputable def stF (d : Diary) : List State × Bool := if openB d.Safe d.Open then (statesB d.Safe d.Open, true) else ([], false)
theorem stF_yes {d : Diary} (h : openB d.Safe d.Open = true) : stF d = (statesB d.Safe d.Open, true) := by unfold stF; rw [if_pos h]
theorem stF_no {d : Diary} (h : openB d.Safe d.Open = false) : stF d = ([], false) := by unfold stF; rw [if_neg (by rw [h]; exact Bool.false_ne_true)]
theorem stF_len (d : Diary) : (stF d).1.length ≤ 40 := by
  unfold stF; split
  · exact states_len _ _
  · simp
theorem readStates0 (s : ByteArray) (w : World) (hs : s.size ≤ 1048576) (hen : Env w) : Calls Tryz.prog 43 #[.string s, .int .i64 0] w (RetRd w (rd 40 0 s.data.toList)) := readStates_any s 0 w hs (by omega) hen
theorem ba_size_app (a b : ByteArray) : (a ++ b).size = a.size + b.size := ByteArray.size_append

end Go.Proofs.YtenlbeghjabpkaaGreatDoor
