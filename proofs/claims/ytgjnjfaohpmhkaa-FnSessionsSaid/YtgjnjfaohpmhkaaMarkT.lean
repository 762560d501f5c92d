/-
  markText answers mkT. Conditions: the number is not below zero.
-/
import Derived.Test.YtgjnjfaohpmhkaaMark
namespace Go.Proofs.Ytgjnjfaohpmhkaa
open Go.RowKit
/-- one digit as a text -/
def digT (k : Int) : ByteArray := strOfNums [48 + k % 10]
theorem run_digit {P : Program} (w : World) (src dst e : TypeId) (hs : P.underlying src = some (.slice e)) (he : P.underlying e = some (.int .u8)) (hd : P.underlying dst = some .string) (x : Int) :
    (convert src dst (.slice (some ⟨w.heap.size, 0, none⟩) 1 1)).run P (w.alloc (.cells #[.int .u8 x] e)) = .ok (.string (strOfNums [x])) (w.alloc (.cells #[.int .u8 x] e)) := by
  have h := run_convert_bytes_arg (P := P) (w := w.alloc (.cells #[.int .u8 x] e)) src e hs he w.heap.size 0 1 1 [x] rfl
  exact h (fun i hi => by obtain rfl : i = 0 := by omega
                          rw [World.cell?_alloc_new]; rfl) dst hd
/-- the text after f steps -/
def mkGo : Nat → Int → ByteArray → ByteArray
  | 0, _, s => s
  | f + 1, k, s => if 0 < k then mkGo f (k / 10) (digT k ++ s) else s
theorem mkGo_zero (f : Nat) (s : ByteArray) : mkGo f 0 s = s := by cases f <;> simp [mkGo]
theorem mkGo_more : ∀ (f : Nat) (k : Int) (s : ByteArray), 0 ≤ k → k.toNat ≤ f → mkGo (f + 1) k s = mkGo f k s
  | 0, k, s, h0, h => by
    obtain rfl : k = 0 := by omega
    rfl
  | f + 1, k, s, h0, h => by
    rw [mkGo]
    conv => rhs; rw [mkGo]
    split
    · exact mkGo_more f (k / 10) _ (by omega) (by omega)
    · rfl
def mkT (m : Int) : ByteArray := if m ≤ 0 then ⟨#[109, 48]⟩ else ⟨#[109]⟩ ++ mkGo m.toNat m ByteArray.empty
theorem mkGo_step {f : Nat} {k : Int} {s : ByteArray} (hk : 0 < k) (h : k.toNat ≤ f) : ∃ f', (k / 10).toNat ≤ f' ∧ mkGo f k s = mkGo f' (k / 10) (digT k ++ s) := by
  cases f with
  | zero => omega
  | succ f => exact ⟨f, by omega, by rw [mkGo, if_pos hk]⟩
set_option maxRecDepth 20000 in
set_option maxHeartbeats 1000000 in
theorem markText_any (m : Int) (w : World) (h0 : 0 ≤ m) (h1 : m ≤ 134217728) :
    Calls Try.prog 48 #[.int .i64 m] w fun e w' => e = .returned (.string (mkT m)) ∧ Below w.heap.size w w' := by
  by_cases hm : m ≤ 0
  · obtain rfl : m = 0 := by omega
    go_enter Try.func48, Try.ntmps48
    go_wp2
    go_ret
    exact ⟨rfl, bl_refl _⟩
  have HT : Hid (mkT m = ⟨#[109]⟩ ++ mkGo m.toNat m ByteArray.empty) := by rw [Hid, mkT, if_neg hm]
  go_enter Try.func48, Try.ntmps48
  go_wp2
  go_loopw [0, 3] (fun u v wr => ∃ (k : Int) (s : ByteArray) (f : Nat), 0 ≤ k ∧ (s.size : Int) + k ≤ 134217728 ∧ u = .int .i64 k ∧ v = .string s ∧ Hid (k.toNat ≤ f) ∧ Hid (mkGo m.toNat m ByteArray.empty = mkGo f k s) ∧ Below w.heap.size w wr) (fun u _ _ => (intOf u).toNat)
  case atStart => exact ⟨m, ByteArray.empty, m.toNat, by omega, by have e : ByteArray.empty.size = 0 := rfl; rw [e]; omega, rfl, rfl, Nat.le_refl _, rfl, bl_refl _⟩
  case round =>
    obtain ⟨k, s, f, hk0, hk1, rfl, rfl, hf, hg, hb⟩ := hrel
    by_cases hk : 0 < k
    · have hr0 : 0 ≤ k % 10 := by omega
      have hr1 : k % 10 ≤ 9 := by omega
      have hcv := run_digit (P := Try.prog) wr 34 9 5 Try.underlying34 Try.underlying5 Try.underlying9 (48 + k % 10)
      have hz1 : (strOfNums [48 + k % 10]).size = 1 := strOfNums_size _
      go_wp2
      go_roundw
      case rel =>
        obtain ⟨f', h1', h2'⟩ := mkGo_step (s := s) hk hf.out
        exact ⟨k / 10, _, f', by omega, by rw [ByteArray.size_append, hz1]; omega, rfl, rfl, h1', hg.out.trans h2', bl_alloc hb _⟩
      case measure => simp [intOf]; omega
    · obtain rfl : k = 0 := by omega
      have hz2 : (⟨#[109]⟩ : ByteArray).size = 1 := rfl
      have hfin : Hid (mkT m = ⟨#[109]⟩ ++ s) := by rw [Hid, HT.out, hg.out, mkGo_zero]
      go_wp2
      go_ret
      exact ⟨by rw [hfin.out]; rfl, hb⟩
end Go.Proofs.Ytgjnjfaohpmhkaa
