/-
  What is read of a text, plain; a reader's answer. No conditions.
-/
import Derived.Test.YtenlbeghjabpkaaGreatDoorJnF
import Derived.Test.YtenlbeghjabpkaaGreatDoorJnG
namespace Go.Proofs.YtenlbeghjabpkaaGreatDoor
open Go.RowKit Go.PlainAid

theorem parse_no {f : FuncId} {l : ByteArray} {w : World} (h : Calls Tryz.prog f #[.string l] w (ParsePost l w)) (hp : parseB l = none) :
    Calls Tryz.prog f #[.string l] w fun e w' => e = .returned (.tuple #[.int .i64 0, .agg #[.string ByteArray.empty, .int .i64 0], .bool false]) ∧ Below w.heap.size w w' := by
  refine h.mono fun e w' hh => ?_
  unfold ParsePost parseR at hh
  rw [hp] at hh
  exact hh
theorem parse_yes {f : FuncId} {l : ByteArray} {w : World} {n v : Int} {a : ByteArray} (h : Calls Tryz.prog f #[.string l] w (ParsePost l w)) (hp : parseB l = some (n, ⟨a, v⟩)) :
    Calls Tryz.prog f #[.string l] w fun e w' => e = .returned (.tuple #[.int .i64 n, .agg #[.string a, .int .i64 v], .bool true]) ∧ Below w.heap.size w w' := by
  refine h.mono fun e w' hh => ?_
  unfold ParsePost parseR at hh
  rw [hp] at hh
  exact hh
theorem parse_bd {l : ByteArray} {n v : Int} {a : ByteArray} (h : parseB l = some (n, ⟨a, v⟩)) : (0 ≤ n ∧ n ≤ 39) ∧ a.size ≤ 6 ∧ 0 ≤ v ∧ v ≤ 9999 := by
  have := okL_bd (parseB_some h).1
  exact this
theorem el_stateJ : Elem Tryz.prog 31 26 (Flat.sz State) := elem_mk Tryz.underlying31 (by kernel_rfl)
/-- a list of states and a number, handed back -/
def RetRd (w : World) (r : List State × Nat) (e : Ending) (w' : World) : Prop :=
  ∃ A c, e = .returned (.tuple #[.slice A r.1.length c, .int .i64 (r.2 : Int)]) ∧ Own w' w.heap.size 26 (.slice A r.1.length c) r.1 ∧ Below w.heap.size w w'
theorem retRd_mk {w w' : World} {r : List State × Nat} {L : List State} {f q c : Nat} {A : Option Addr} (hr : r = (L, f)) (ho : Own w' w.heap.size 26 (.slice A q c) L) (hb : Below w.heap.size w w') :
    RetRd w r (.returned (.tuple #[.slice A q c, .int .i64 (f : Int)])) w' := by
  subst hr
  have := ho.sl.1
  subst this
  exact ⟨A, c, rfl, ho, hb⟩
theorem rd_next {F q f m : Nat} {N : Int} {l : List UInt8} {L : List State} {x : State} (H : rd F N l = (L ++ (rd (F - q) (N + q) (l.drop f)).1, f + (rd (F - q) (N + q) (l.drop f)).2)) (hq : q < F)
    (hn : nlAt (l.drop f) = some m) (hp : parseB ⟨((l.drop f).take (m + 1)).toArray⟩ = some (N + q, x)) :
    rd F N l = ((L ++ [x]) ++ (rd (F - (q + 1)) (N + ((q + 1 : Nat) : Int)) (l.drop (f + m + 1))).1, (f + m + 1) + (rd (F - (q + 1)) (N + ((q + 1 : Nat) : Int)) (l.drop (f + m + 1))).2) := by
  have e1 : F - q = (F - (q + 1)) + 1 := by omega
  have e2 : N + (q : Int) + 1 = N + ((q + 1 : Nat) : Int) := by omega
  rw [H, e1, rd_good hn hp, List.drop_drop, e2]
  simp only [List.append_assoc, List.singleton_append, Prod.mk.injEq]
  exact ⟨by rw [Nat.add_assoc], by rw [Nat.add_assoc f m 1]; omega⟩
theorem rd_fin {F q f : Nat} {N : Int} {l : List UInt8} {L : List State} (H : rd F N l = (L ++ (rd (F - q) (N + q) (l.drop f)).1, f + (rd (F - q) (N + q) (l.drop f)).2)) (hz : rd (F - q) (N + q) (l.drop f) = ([], 0)) : rd F N l = (L, f) := by
  rw [H, hz]; simp
theorem nl_at {s : ByteArray} {f k : Nat} (hfk : f ≤ k) (hk : k < s.size) (hno : ∀ j, f ≤ j → j < k → bt s j ≠ 10) (he : bt s k = 10) : nlAt (s.data.toList.drop f) = some (k - f) := by
  refine nlAt_mk ?_ fun j hj => ?_
  · rw [List.getElem?_drop, show f + (k - f) = k by omega]; exact bt_eq hk (by rw [he]; rfl)
  · rw [List.getElem?_drop]; exact bt_ne (by omega) (hno _ (by omega) (by omega))
theorem nl_end {s : ByteArray} {f : Nat} (hno : ∀ j, f ≤ j → j < s.size → bt s j ≠ 10) : nlAt (s.data.toList.drop f) = none := by
  refine nlAt_none fun j hj => ?_
  rw [List.getElem?_drop] at hj
  have h1 : f + j < s.size := by rw [← ba_len]; exact (List.getElem?_eq_some_iff.1 hj).1
  exact bt_ne (c := 10) h1 (hno _ (by omega) h1) hj
theorem ex_take (s : ByteArray) (f m : Nat) : s.extract f (f + m + 1) = ⟨((s.data.toList.drop f).take (m + 1)).toArray⟩ := by
  apply ba_ext; rw [ba_ex, ba_mk]; congr 1; omega
theorem ex_size (s : ByteArray) {f k : Nat} (h : k ≤ s.size) : (s.extract f k).size ≤ s.size := by rw [ByteArray.size_extract]; omega

end Go.Proofs.YtenlbeghjabpkaaGreatDoor
