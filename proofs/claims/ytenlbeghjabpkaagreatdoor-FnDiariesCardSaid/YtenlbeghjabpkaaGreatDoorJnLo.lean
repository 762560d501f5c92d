/-
  LostStates: what it answers. No conditions.
-/
import Derived.Test.YtenlbeghjabpkaaGreatDoorJnCr
import Derived.Test.YtenlbeghjabpkaaGreatDoorMem6
namespace Go.Proofs.YtenlbeghjabpkaaGreatDoor
open Go.RowKit

theorem ez_state : ElemZ Tryz.prog 31 26 (default : State) := elemZ_mk Tryz.underlying31 (by kernel_rfl)
theorem el_state : Elem Tryz.prog 31 26 (Flat.sz State) := ez_state.elem
noncomputable def keptN (d : Diary) (k : Int) : Nat := (rd 40 0 (d.Safe ++ d.Open.extract 0 k.toNat).data.toList).1.length
theorem kept_le {d : Diary} {k : Int} : keptN d k ≤ (statesB d.Safe d.Open).length := by
  have h := rd_take 40 0 (d.Safe ++ d.Open).data.toList (d.Safe.size + k.toNat)
  have e : (d.Safe ++ d.Open.extract 0 k.toNat).data.toList = (d.Safe ++ d.Open).data.toList.take (d.Safe.size + k.toNat) := by
    rw [ba_app, ba_app, ba_ex, ← ba_len d.Safe, List.take_append]
    simp
    rw [List.take_of_length_le (by rw [ba_len]; omega)]
  rw [← e] at h
  exact h.length_le
noncomputable def loF (d : Diary) (k : Int) : List State × Bool := if openB d.Safe d.Open && inB k 0 d.Open.size then ((statesB d.Safe d.Open).drop (keptN d k), true) else ([], false)
theorem loF_yes {d : Diary} {k : Int} (h : openB d.Safe d.Open = true) (h2 : inB k 0 d.Open.size = true) : loF d k = ((statesB d.Safe d.Open).drop (keptN d k), true) := by unfold loF; rw [if_pos (by rw [h, h2]; rfl)]
theorem loF_no {d : Diary} {k : Int} (h : openB d.Safe d.Open = false) : loF d k = ([], false) := by unfold loF; rw [if_neg (by rw [h]; exact Bool.false_ne_true)]
theorem loF_out {d : Diary} {k : Int} (h : inB k 0 d.Open.size = false) : loF d k = ([], false) := by unfold loF; rw [if_neg (by rw [h, Bool.and_false]; exact Bool.false_ne_true)]
theorem loF_len (d : Diary) (k : Int) : (loF d k).1.length ≤ 40 := by
  unfold loF; split
  · have := states_len d.Safe d.Open; simp; omega
  · simp
theorem Own.kind {α : Type} [Flat α] {w : World} {base : Nat} {E : TypeId} {A : Option Addr} {n c : Nat} {xs : List α} (h : Own w base E (.slice A n c) xs) :
    (A = none ∧ n = 0 ∧ c = 0 ∧ xs = []) ∨ ∃ g, A = some ⟨g, 0, none⟩ ∧ n ≤ c ∧ c ≤ 9223372036854775807 := by
  have hl := h.sl.1
  rcases h.2 with ⟨hv, h0⟩ | ⟨g, cap, cur, hv, _, _, h1, h2, _⟩
  · injection hv with e1 e2 e3
    exact .inl ⟨e1, e2, e3, List.eq_nil_of_length_eq_zero (by omega)⟩
  · injection hv with e1 e2 e3
    unfold maxLen at h2
    exact .inr ⟨g, e1, by omega, by omega⟩
theorem Sl.drop {α : Type} [Deep α] {w : World} {b o n m : Nat} {xs : List α} (h : Sl w (some ⟨b, o, none⟩) n xs) : Sl w (some ⟨b, o + m * Deep.sz α, none⟩) (n - m) (xs.drop m) :=
  ⟨by rw [List.length_drop, h.1], fun k x hx => by
    rw [List.getElem?_drop] at hx
    obtain ⟨b', o', cs, hA, hr, hc⟩ := h.2 _ _ hx
    injection hA with hA; injection hA with h1 h2; subst h1; subst h2
    refine ⟨b, _, cs, rfl, hr, fun j v hv => ?_⟩
    have := hc j v hv
    rw [Nat.add_mul] at this
    rw [show o + m * Deep.sz α + k * Deep.sz α + j = o + (m * Deep.sz α + k * Deep.sz α) + j by omega]
    exact this⟩

end Go.Proofs.YtenlbeghjabpkaaGreatDoor
