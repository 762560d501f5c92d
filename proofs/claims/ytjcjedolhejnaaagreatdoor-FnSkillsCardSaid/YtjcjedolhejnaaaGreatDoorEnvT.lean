/-
  The table that strconv.Itoa reads, and Itoa by its contract. No conditions.
-/
import Derived.Test.YtjcjedolhejnaaaGreatDoorMem7
import Derived.Test.YtjcjedolhejnaaaGreatDoorIn
import Derived.Test.YtjcjedolhejnaaaGreatDoorLays
import Derived.Lib.ItoaMem
namespace Go.Proofs.YtjcjedolhejnaaaGreatDoor
open Go.RowKit

theorem var_below {P : Program} {w w' : World} {name : String} {v : Array Value} (h : w.var? P name = some v) (hb : Below w.heap.size w w') : w'.var? P name = some v := by
  unfold World.var? at h ⊢
  cases hg : P.globalNamed name with
  | none => rw [hg] at h; cases h
  | some g =>
    rw [hg] at h
    simp only [Option.bind_some] at h ⊢
    have hlt : g < w.heap.size := by
      rcases Nat.lt_or_ge g w.heap.size with h' | h'
      · exact h'
      · rw [Array.getElem?_eq_none h'] at h; cases h
    rw [hb.block g hlt]
    exact h
/-- the table of the powers of ten -/
def Tab (w : World) : Prop := Lib.TabIs Tryz.prog w "internal/strconv.uint64pow10" .u64 Lib.pow10Tab
theorem Tab.below {w w' : World} (h : Tab w) (hb : Below w.heap.size w w') : Tab w' := var_below h hb
theorem below_grow (w : World) (q : Nat) (os : Array Obj) : Below w.heap.size w (Sort.grow (w.drewN q) os) := by
  refine ⟨rfl, rfl, rfl, ?_, fun k hk => ?_⟩
  · simp [Sort.grow]
  · simp only [Sort.grow]
    exact Array.getElem?_append_left (by simpa using hk)
def itB (n : Int) : ByteArray := ⟨(Lib.itoa n).toArray⟩
theorem itoa_any (n : Int) (w : World) (h0 : -9223372036854775808 ≤ n) (h1 : n ≤ 9223372036854775807) (ht : Tab w) :
    Calls Tryz.prog 92 #[.int .i64 n] w fun e w' => e = .returned (.string (itB n)) ∧ Below w.heap.size w w' :=
  (Any.strconv_Itoa Tryz.laysItoa n h0 h1 w ht).mono fun e w' ⟨he, k, os, hw⟩ => ⟨he, by rw [hw]; exact below_grow _ _ _⟩
end Go.Proofs.YtjcjedolhejnaaaGreatDoor
