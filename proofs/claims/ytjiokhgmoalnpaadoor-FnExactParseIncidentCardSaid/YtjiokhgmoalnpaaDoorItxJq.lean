/-
  Names with commas between them, joined by the library. No conditions.
-/
import Derived.Test.YtjiokhgmoalnpaaDoorItxPq
import Derived.Test.YtjiokhgmoalnpaaDoorJoNq
namespace Go.Proofs.YtjiokhgmoalnpaaDoor
open Go.RowKit

theorem join_snoc (x : List UInt8) (r : List (List UInt8)) (a sep : List UInt8) : Lib.join (x :: (r ++ [a])) sep = Lib.join (x :: r) sep ++ sep ++ a := by
  rw [Lib.join_cons, Lib.join_cons]
  unfold Lib.joinTail
  simp
theorem nmT_join {h : ByteArray} {xs : List ByteArray} : ∀ i, i ≤ xs.length → (nmT h xs i).data.toList = h.data.toList ++ Lib.join ((xs.take i).map (·.data.toList)) [44]
  | 0, _ => by simp [nmT, Lib.join_nil]
  | i + 1, hi => by
    have ih := nmT_join (h := h) (xs := xs) i (by omega)
    rw [take_succ (by omega : i < xs.length), List.map_append]
    by_cases h0 : 0 < i
    · rw [nmT_1 h0, ba_app, ba_app, ih]
      obtain ⟨x, r, e⟩ : ∃ x r, (xs.take i).map (·.data.toList) = x :: r := by
        cases hx : (xs.take i).map (·.data.toList) with
        | nil => have := congrArg List.length hx; rw [List.length_map, List.length_take, List.length_nil] at this; omega
        | cons x r => exact ⟨x, r, rfl⟩
      rw [e, List.map_cons, List.map_nil, List.cons_append, join_snoc]
      simp
    · have hi0 : i = 0 := by omega
      subst hi0
      rw [nmT_0 h0, ba_app, ih]
      simp [Lib.join_nil, Lib.join_one]
theorem incT_join (number node : Int) (closed : Bool) (xs : List ByteArray) : hdT number node closed ++ joinB ⟨#[44]⟩ xs = incT number node closed xs := by
  apply ba_ext
  unfold incT
  rw [nmT_join _ (Nat.le_refl _), ba_app, List.take_length]
  rfl
theorem joinS_any (xs : List ByteArray) (sep : ByteArray) (A : Option Addr) (n c : Nat) (w : World) (hs : Sl w A n xs) (hn : n ≤ 1048576) (hc : n ≤ c) (hl : (joinB sep xs).size ≤ 140737488355328) :
    Calls Tryd.prog 63 #[.slice A n c, .string sep] w fun e w' => e = .returned (.string (joinB sep xs)) ∧ Below w.heap.size w w' := by
  have h := hs.1
  subst h
  have hl2 : (Lib.join (xs.map (·.data.toList)) sep.data.toList).length ≤ 140737488355328 := by
    rw [← ba_len] at hl
    unfold joinB at hl
    simpa using hl
  cases xs with
  | nil => exact (Any.strings_Join_none Tryd.laysJoin join_extra A c sep w).mono fun e w' ⟨he, hw⟩ => ⟨he, hw ▸ Below.refl _ _⟩
  | cons x r =>
    obtain ⟨b, o, rfl, hb, _⟩ := hs.str (k := 0) (by simp)
    refine Any.strings_Join Tryd.laysJoin join_extra b o c (x :: r) sep w (fun j y hy => ?_) hb (by omega) hc hl2
    have hj : j < (x :: r).length := (List.getElem?_eq_some_iff.1 hy).1
    obtain ⟨b', o', e, _, hcell⟩ := hs.str hj
    injection e with e
    injection e with e1 e2
    subst e1 e2
    rw [hcell, nth_get hy]

end Go.Proofs.YtjiokhgmoalnpaaDoor
