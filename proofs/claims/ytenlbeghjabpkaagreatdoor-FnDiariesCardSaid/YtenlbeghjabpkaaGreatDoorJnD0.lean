/-
  Diaries: what the rows answer, plain. No conditions.
-/
import Derived.Test.YtenlbeghjabpkaaGreatDoorJnJ
import Derived.Test.YtenlbeghjabpkaaGreatDoorJnK
namespace Go.Proofs.YtenlbeghjabpkaaGreatDoor
open Go.RowKit

theorem stF_snd (d : Diary) : (stF d).2 = openB d.Safe d.Open := by
  cases h : openB d.Safe d.Open
  · rw [stF_no h]
  · rw [stF_yes h]
theorem statesOf_yes (d : Diary) (w : World) (hz : d.Safe.size + d.Open.size ≤ 1048576) (he : Env w) (h : openB d.Safe d.Open = true) :
    Calls Tryz.prog 25 #[.agg #[.string d.Safe, .string d.Open]] w fun e w' => ∃ A c, e = .returned (.tuple #[.slice A (statesB d.Safe d.Open).length c, .bool true]) ∧ Own w' w.heap.size 26 (.slice A (statesB d.Safe d.Open).length c) (statesB d.Safe d.Open) ∧ Below w.heap.size w w' := by
  have h1 := statesOf_any d w (by omega) (by omega) he
  unfold RetOwn2 at h1
  rw [stF_yes h] at h1
  exact h1
theorem statesOf_no (d : Diary) (w : World) (hz : d.Safe.size + d.Open.size ≤ 1048576) (he : Env w) (h : openB d.Safe d.Open = false) :
    Calls Tryz.prog 25 #[.agg #[.string d.Safe, .string d.Open]] w fun e w' => ∃ A c, e = .returned (.tuple #[.slice A 0 c, .bool false]) ∧ Below w.heap.size w w' := by
  have h1 := statesOf_any d w (by omega) (by omega) he
  unfold RetOwn2 at h1
  rw [stF_no h] at h1
  exact h1.mono fun _ _ ⟨A, c, he, _, hb⟩ => ⟨A, c, he, hb⟩
noncomputable def flF (d : Diary) : Diary × Bool := if openB d.Safe d.Open then (⟨d.Safe ++ d.Open, ByteArray.empty⟩, true) else (⟨ByteArray.empty, ByteArray.empty⟩, false)
theorem flF_yes {d : Diary} (h : openB d.Safe d.Open = true) : flF d = (⟨d.Safe ++ d.Open, ByteArray.empty⟩, true) := by unfold flF; rw [if_pos h]
theorem flF_no {d : Diary} (h : openB d.Safe d.Open = false) : flF d = (⟨ByteArray.empty, ByteArray.empty⟩, false) := by unfold flF; rw [if_neg (by rw [h]; exact Bool.false_ne_true)]
theorem ret_db {a b : ByteArray} {p : Bool} {r : Diary × Bool} (h : r = (⟨a, b⟩, p)) : Ending.returned (.tuple #[.agg #[.string a, .string b], .bool p]) = .returned (.tuple #[.agg #[.string r.1.Safe, .string r.1.Open], .bool r.2]) := by rw [h]
noncomputable def crF (d : Diary) (k : Int) : ByteArray × Bool := if openB d.Safe d.Open && inB k 0 d.Open.size then (d.Safe ++ d.Open.extract 0 k.toNat, true) else (ByteArray.empty, false)
theorem crF_yes {d : Diary} {k : Int} (h : openB d.Safe d.Open = true) (h2 : inB k 0 d.Open.size = true) : crF d k = (d.Safe ++ d.Open.extract 0 k.toNat, true) := by unfold crF; rw [if_pos (by rw [h, h2]; rfl)]
theorem crF_no {d : Diary} {k : Int} (h : openB d.Safe d.Open = false) : crF d k = (ByteArray.empty, false) := by unfold crF; rw [if_neg (by rw [h]; exact Bool.false_ne_true)]
theorem crF_out {d : Diary} {k : Int} (h : inB k 0 d.Open.size = false) : crF d k = (ByteArray.empty, false) := by unfold crF; rw [if_neg (by rw [h, Bool.and_false]; exact Bool.false_ne_true)]
theorem ret_tb {a : ByteArray} {p : Bool} {r : ByteArray × Bool} (h : r = (a, p)) : Ending.returned (.tuple #[.string a, .bool p]) = .returned (.tuple #[.string r.1, .bool r.2]) := by rw [h]
noncomputable def reF (s : ByteArray) : Diary × Bool := if s.size ≤ 3000 then (⟨s.extract 0 (rd 40 0 s.data.toList).2, ByteArray.empty⟩, true) else (⟨ByteArray.empty, ByteArray.empty⟩, false)

end Go.Proofs.YtenlbeghjabpkaaGreatDoor
