/-
  Several texts in one. No conditions.
-/
import Derived.Test.YtfglmghcgoembaaGreatDoorMem7
import Derived.Test.YtfglmghcgoembaaGreatDoorHx0
import Derived.Test.YtfglmghcgoembaaGreatDoorLays
import Derived.Lib.ItoaMem
import Derived.Test.YtfglmghcgoembaaGreatDoorHx2
namespace Go.Proofs.YtfglmghcgoembaaGreatDoor
open Go.RowKit

theorem var_below {P : Program} {w w' : World} {name : String} {v : Array Value} (h : w.var? P name = some v) (hb : Below w.heap.size w w') : w'.var? P name = some v := by
  unfold World.var? at h ⊢
  cases hg : P.globalNamed name with
  | none => rw [hg] at h; cases h
  | some g =>
    rw [hg] at h
    simp only [Option.bind_some] at h ⊢
    have hlt : g < w.heap.size := by
      rcases Nat.lt_or_ge g w.heap.size with h' | h'
      · exact h'
      · rw [Array.getElem?_eq_none h'] at h; cases h
    rw [hb.block g hlt]
    exact h
/-- the table of the powers of ten -/
def Tab (w : World) : Prop := Lib.TabIs Tryz.prog w "internal/strconv.uint64pow10" .u64 Lib.pow10Tab
theorem Tab.below {w w' : World} (h : Tab w) (hb : Below w.heap.size w w') : Tab w' := var_below h hb
theorem below_grow (w : World) (q : Nat) (os : Array Obj) : Below w.heap.size w (Sort.grow (w.drewN q) os) := by
  refine ⟨rfl, rfl, rfl, ?_, fun k hk => ?_⟩
  · simp [Sort.grow]
  · simp only [Sort.grow]
    exact Array.getElem?_append_left (by simpa using hk)
def itB (n : Int) : ByteArray := ⟨(Lib.itoa n).toArray⟩
theorem itoa_any (n : Int) (w : World) (h0 : -9223372036854775808 ≤ n) (h1 : n ≤ 9223372036854775807) (ht : Tab w) :
    Calls Tryz.prog 78 #[.int .i64 n] w fun e w' => e = .returned (.string (itB n)) ∧ Below w.heap.size w w' :=
  (Any.strconv_Itoa Tryz.laysItoa n h0 h1 w ht).mono fun e w' ⟨he, k, os, hw⟩ => ⟨he, by rw [hw]; exact below_grow _ _ _⟩
end Go.Proofs.YtfglmghcgoembaaGreatDoor

namespace Go.Proofs.YtfglmghcgoembaaGreatDoor
open Go.RowKit
/-- one digit as a text -/
def digT (k : Int) : ByteArray := strOfNums [48 + k % 10]
theorem run_digit {P : Program} (w : World) (src dst e : TypeId) (hs : P.underlying src = some (.slice e)) (he : P.underlying e = some (.int .u8)) (hd : P.underlying dst = some .string) (x : Int) :
    (convert src dst (.slice (some ⟨w.heap.size, 0, none⟩) 1 1)).run P (w.alloc (.cells #[.int .u8 x] e)) = .ok (.string (strOfNums [x])) (w.alloc (.cells #[.int .u8 x] e)) := by
  have h := run_convert_bytes_arg (P := P) (w := w.alloc (.cells #[.int .u8 x] e)) src e hs he w.heap.size 0 1 1 [x] rfl
  exact h (fun i hi => by obtain rfl : i = 0 := by omega
                          rw [World.cell?_alloc_new]; rfl) dst hd
/-- the text after f steps -/
def mkGo : Nat → Int → ByteArray → ByteArray
  | 0, _, s => s
  | f + 1, k, s => if 0 < k then mkGo f (k / 10) (digT k ++ s) else s
theorem mkGo_zero (f : Nat) (s : ByteArray) : mkGo f 0 s = s := by cases f <;> simp [mkGo]
theorem mkGo_more : ∀ (f : Nat) (k : Int) (s : ByteArray), 0 ≤ k → k.toNat ≤ f → mkGo (f + 1) k s = mkGo f k s
  | 0, k, s, h0, h => by
    obtain rfl : k = 0 := by omega
    rfl
  | f + 1, k, s, h0, h => by
    rw [mkGo]
    conv => rhs; rw [mkGo]
    split
    · exact mkGo_more f (k / 10) _ (by omega) (by omega)
    · rfl
def mkT (m : Int) : ByteArray := if m ≤ 0 then ⟨#[109, 48]⟩ else ⟨#[109]⟩ ++ mkGo m.toNat m ByteArray.empty
theorem mkGo_step {f : Nat} {k : Int} {s : ByteArray} (hk : 0 < k) (h : k.toNat ≤ f) : ∃ f', (k / 10).toNat ≤ f' ∧ mkGo f k s = mkGo f' (k / 10) (digT k ++ s) := by
  cases f with
  | zero => omega
  | succ f => exact ⟨f, by omega, by rw [mkGo, if_pos hk]⟩
end Go.Proofs.YtfglmghcgoembaaGreatDoor
