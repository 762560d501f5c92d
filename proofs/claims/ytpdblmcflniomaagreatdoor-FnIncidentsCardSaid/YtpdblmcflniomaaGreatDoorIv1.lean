/-
  Several texts in one. No conditions.
-/
import Derived.Test.YtpdblmcflniomaaGreatDoorIv0
namespace Go.Proofs.YtpdblmcflniomaaGreatDoor
open Go.RowKit
/-- one digit as a text -/
def digT (k : Int) : ByteArray := strOfNums [48 + k % 10]
theorem run_digit {P : Program} (w : World) (src dst e : TypeId) (hs : P.underlying src = some (.slice e)) (he : P.underlying e = some (.int .u8)) (hd : P.underlying dst = some .string) (x : Int) :
    (convert src dst (.slice (some ⟨w.heap.size, 0, none⟩) 1 1)).run P (w.alloc (.cells #[.int .u8 x] e)) = .ok (.string (strOfNums [x])) (w.alloc (.cells #[.int .u8 x] e)) := by
  have h := run_convert_bytes_arg (P := P) (w := w.alloc (.cells #[.int .u8 x] e)) src e hs he w.heap.size 0 1 1 [x] rfl
  exact h (fun i hi => by obtain rfl : i = 0 := by omega
                          rw [World.cell?_alloc_new]; rfl) dst hd
/-- the text after f steps -/
def mkGo : Nat → Int → ByteArray → ByteArray
  | 0, _, s => s
  | f + 1, k, s => if 0 < k then mkGo f (k / 10) (digT k ++ s) else s
theorem mkGo_zero (f : Nat) (s : ByteArray) : mkGo f 0 s = s := by cases f <;> simp [mkGo]
theorem mkGo_more : ∀ (f : Nat) (k : Int) (s : ByteArray), 0 ≤ k → k.toNat ≤ f → mkGo (f + 1) k s = mkGo f k s
  | 0, k, s, h0, h => by
    obtain rfl : k = 0 := by omega
    rfl
  | f + 1, k, s, h0, h => by
    rw [mkGo]
    conv => rhs; rw [mkGo]
    split
    · exact mkGo_more f (k / 10) _ (by omega) (by omega)
    · rfl
def mkT (m : Int) : ByteArray := if m ≤ 0 then ⟨#[109, 48]⟩ else ⟨#[109]⟩ ++ mkGo m.toNat m ByteArray.empty
theorem mkGo_step {f : Nat} {k : Int} {s : ByteArray} (hk : 0 < k) (h : k.toNat ≤ f) : ∃ f', (k / 10).toNat ≤ f' ∧ mkGo f k s = mkGo f' (k / 10) (digT k ++ s) := by
  cases f with
  | zero => omega
  | succ f => exact ⟨f, by omega, by rw [mkGo, if_pos hk]⟩
end Go.Proofs.YtpdblmcflniomaaGreatDoor

namespace Go.Proofs.YtpdblmcflniomaaGreatDoor
open Go.RowKit
/-- A call hands back a slice of its own that holds xs, and a bool. -/
def RetOwn2 {α : Type} [Flat α] (w : World) (E : TypeId) (r : List α × Bool) (e : Ending) (w' : World) : Prop :=
  ∃ A c, e = .returned (.tuple #[.slice A r.1.length c, .bool r.2]) ∧ Own w' w.heap.size E (.slice A r.1.length c) r.1 ∧ Below w.heap.size w w'
theorem retOwn2_mk {α : Type} [Flat α] {w w' : World} {E : TypeId} {r : List α × Bool} {xs : List α} {b : Bool} {A : Option Addr} {n c : Nat} (hr : r = (xs, b)) (ho : Own w' w.heap.size E (.slice A n c) xs) (hb : Below w.heap.size w w') :
    RetOwn2 w E r (.returned (.tuple #[.slice A n c, .bool b])) w' := by
  subst hr
  have := ho.sl.1
  subst this
  exact ⟨A, c, rfl, ho, hb⟩
theorem RetOwn2.back {α : Type} [Flat α] {w0 w w' : World} {E : TypeId} {r : List α × Bool} {e : Ending} (h : RetOwn2 w E r e w') (hb : Below w0.heap.size w0 w) : RetOwn2 w0 E r e w' := by
  obtain ⟨A, c, he, ho, hb'⟩ := h
  exact ⟨A, c, he, ho.mono hb.size, bl_trans hb hb'⟩
end Go.Proofs.YtpdblmcflniomaaGreatDoor

namespace Go.Proofs.YtpdblmcflniomaaGreatDoor
open Go.RowKit
/-- Of what was there only the blocks of F may have turned. -/
structure OnlyF (F : List Nat) (w w' : World) : Prop where
  os : w'.os = w.os
  tape : w'.tape = w.tape
  output : w'.output = w.output
  size : w.heap.size ≤ w'.heap.size
  block : ∀ k, k < w.heap.size → k ∉ F → w'.heap[k]? = w.heap[k]?
theorem OnlyF.of_gb {w w' : World} {v : Value} (h : w.grownBy w' v.ownBlock) : OnlyF v.ownBlock.toList w w' :=
  ⟨h.os, h.tape, h.output, h.size, fun k hk hn => h.block k hk (fun e => hn (by rw [← e]; simp))⟩
theorem OnlyF.refl (F : List Nat) (w : World) : OnlyF F w w := ⟨rfl, rfl, rfl, Nat.le_refl _, fun _ _ _ => rfl⟩
theorem OnlyF.trans {F : List Nat} {a b c : World} (h : OnlyF F a b) (k : OnlyF F b c) : OnlyF F a c :=
  ⟨k.os.trans h.os, k.tape.trans h.tape, k.output.trans h.output, Nat.le_trans h.size k.size, fun i hi hn => (k.block i (Nat.lt_of_lt_of_le hi h.size) hn).trans (h.block i hi hn)⟩
theorem OnlyF.below {F : List Nat} {a b : World} (h : Below a.heap.size a b) : OnlyF F a b := ⟨h.os, h.tape, h.output, h.size, fun i hi _ => h.block i hi⟩
theorem OnlyF.mono {F G : List Nat} {a b : World} (h : OnlyF F a b) (hs : ∀ k ∈ F, k ∈ G) : OnlyF G a b := ⟨h.os, h.tape, h.output, h.size, fun i hi hn => h.block i hi (fun hm => hn (hs i hm))⟩
theorem OnlyF.keeps {F : List Nat} {a b : World} (h : OnlyF F a b) {ad : Addr} {v : Value} (hv : a.cell? ad = some v) (hn : ad.block ∉ F) : b.cell? ad = some v :=
  (World.cell?_of_block (h.block ad.block (World.block_lt_of_cell? a ad hv) hn)).trans hv
/-- The blocks of F lie from lo on and below hi. -/
def Lies (F : List Nat) (lo hi : Nat) : Prop := ∀ k, k ∈ F → lo ≤ k ∧ k < hi
theorem Lies.apart {F G : List Nat} {a b c d : Nat} (h : Lies F a b) (k : Lies G c d) (hle : b ≤ c ∨ d ≤ a) : ∀ i, i ∈ F → i ∉ G := fun i hi hg => by
  have h1 := h i hi; have h2 := k i hg; omega
theorem Own.lies {α : Type} [Flat α] {w : World} {base : Nat} {E : TypeId} {v : Value} {xs : List α} (h : Own w base E v xs) : Lies v.ownBlock.toList base w.heap.size := fun k hk => h.lt k (by simpa using hk)
theorem Own.only {α : Type} [Flat α] {w w' : World} {base : Nat} {E : TypeId} {v : Value} {xs : List α} {F : List Nat} (h : Own w base E v xs) (hf : OnlyF F w w') (ha : ∀ k, k ∈ v.ownBlock.toList → k ∉ F) : Own w' base E v xs := by
  refine ⟨h.1, ?_⟩
  rcases h.2 with h2 | ⟨g, cap, cur, rfl, hb, hg, r⟩
  · exact .inl h2
  · refine .inr ⟨g, cap, cur, rfl, hb, ?_, r⟩
    rw [hf.block g (Array.getElem?_eq_some_iff.1 hg).1 (ha g (by simp [Value.ownBlock]))]
    exact hg
theorem below_only {F : List Nat} {w a b : World} {lo hi : Nat} (h : Below w.heap.size w a) (hf : OnlyF F a b) (hl : Lies F lo hi) (hle : w.heap.size ≤ lo) : Below w.heap.size w b :=
  h.trans ⟨hf.os, hf.tape, hf.output, hf.size, fun k hk => hf.block k (Nat.lt_of_lt_of_le hk h.size) (fun hm => by have := hl k hm; omega)⟩
theorem sameB_refl {α : Type} [DecidableEq α] (x : α) : sameB x x = true := sameB_iff.2 rfl
end Go.Proofs.YtpdblmcflniomaaGreatDoor
