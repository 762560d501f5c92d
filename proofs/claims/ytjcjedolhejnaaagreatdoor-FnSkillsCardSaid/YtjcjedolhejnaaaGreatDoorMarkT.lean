/-
  markText answers mkT. Conditions: the number is not below zero.
-/
import Derived.Test.YtjcjedolhejnaaaGreatDoorMark
namespace Go.Proofs.YtjcjedolhejnaaaGreatDoor
open Go.RowKit
/-- one digit as a text -/
def digT (k : Int) : ByteArray := strOfNums [48 + k % 10]
theorem run_digit {P : Program} (w : World) (src dst e : TypeId) (hs : P.underlying src = some (.slice e)) (he : P.underlying e = some (.int .u8)) (hd : P.underlying dst = some .string) (x : Int) :
    (convert src dst (.slice (some ⟨w.heap.size, 0, none⟩) 1 1)).run P (w.alloc (.cells #[.int .u8 x] e)) = .ok (.string (strOfNums [x])) (w.alloc (.cells #[.int .u8 x] e)) := by
  have h := run_convert_bytes_arg (P := P) (w := w.alloc (.cells #[.int .u8 x] e)) src e hs he w.heap.size 0 1 1 [x] rfl
  exact h (fun i hi => by obtain rfl : i = 0 := by omega
                          rw [World.cell?_alloc_new]; rfl) dst hd
/-- the text after f steps -/
def mkGo : Nat → Int → ByteArray → ByteArray
  | 0, _, s => s
  | f + 1, k, s => if 0 < k then mkGo f (k / 10) (digT k ++ s) else s
theorem mkGo_zero (f : Nat) (s : ByteArray) : mkGo f 0 s = s := by cases f <;> simp [mkGo]
theorem mkGo_more : ∀ (f : Nat) (k : Int) (s : ByteArray), 0 ≤ k → k.toNat ≤ f → mkGo (f + 1) k s = mkGo f k s
  | 0, k, s, h0, h => by
    obtain rfl : k = 0 := by omega
    rfl
  | f + 1, k, s, h0, h => by
    rw [mkGo]
    conv => rhs; rw [mkGo]
    split
    · exact mkGo_more f (k / 10) _ (by omega) (by omega)
    · rfl
def mkT (m : Int) : ByteArray := if m ≤ 0 then ⟨#[109, 48]⟩ else ⟨#[109]⟩ ++ mkGo m.toNat m ByteArray.empty
theorem mkGo_step {f : Nat} {k : Int} {s : ByteArray} (hk : 0 < k) (h : k.toNat ≤ f) : ∃ f', (k / 10).toNat ≤ f' ∧ mkGo f k s = mkGo f' (k / 10) (digT k ++ s) := by
  cases f with
  | zero => omega
  | succ f => exact ⟨f, by omega, by rw [mkGo, if_pos hk]⟩
end Go.Proofs.YtjcjedolhejnaaaGreatDoor
