/-
  Who may be changed: a list of blocks. No conditions.
-/
import Derived.Test.YtgjnjfaohpmhkaaMem2
import Derived.Test.YtgjnjfaohpmhkaaMark
namespace Go.Proofs.Ytgjnjfaohpmhkaa
open Go.RowKit
/-- Of what was there only the blocks of F may have turned. -/
structure OnlyF (F : List Nat) (w w' : World) : Prop where
  os : w'.os = w.os
  tape : w'.tape = w.tape
  output : w'.output = w.output
  size : w.heap.size ≤ w'.heap.size
  block : ∀ k, k < w.heap.size → k ∉ F → w'.heap[k]? = w.heap[k]?
theorem OnlyF.of_gb {w w' : World} {v : Value} (h : w.grownBy w' v.ownBlock) : OnlyF v.ownBlock.toList w w' :=
  ⟨h.os, h.tape, h.output, h.size, fun k hk hn => h.block k hk (fun e => hn (by rw [← e]; simp))⟩
theorem OnlyF.refl (F : List Nat) (w : World) : OnlyF F w w := ⟨rfl, rfl, rfl, Nat.le_refl _, fun _ _ _ => rfl⟩
theorem OnlyF.trans {F : List Nat} {a b c : World} (h : OnlyF F a b) (k : OnlyF F b c) : OnlyF F a c :=
  ⟨k.os.trans h.os, k.tape.trans h.tape, k.output.trans h.output, Nat.le_trans h.size k.size, fun i hi hn => (k.block i (Nat.lt_of_lt_of_le hi h.size) hn).trans (h.block i hi hn)⟩
theorem OnlyF.below {F : List Nat} {a b : World} (h : Below a.heap.size a b) : OnlyF F a b := ⟨h.os, h.tape, h.output, h.size, fun i hi _ => h.block i hi⟩
theorem OnlyF.mono {F G : List Nat} {a b : World} (h : OnlyF F a b) (hs : ∀ k ∈ F, k ∈ G) : OnlyF G a b := ⟨h.os, h.tape, h.output, h.size, fun i hi hn => h.block i hi (fun hm => hn (hs i hm))⟩
theorem OnlyF.keeps {F : List Nat} {a b : World} (h : OnlyF F a b) {ad : Addr} {v : Value} (hv : a.cell? ad = some v) (hn : ad.block ∉ F) : b.cell? ad = some v :=
  (World.cell?_of_block (h.block ad.block (World.block_lt_of_cell? a ad hv) hn)).trans hv
/-- The blocks of F lie from lo on and below hi. -/
def Lies (F : List Nat) (lo hi : Nat) : Prop := ∀ k, k ∈ F → lo ≤ k ∧ k < hi
theorem Lies.apart {F G : List Nat} {a b c d : Nat} (h : Lies F a b) (k : Lies G c d) (hle : b ≤ c ∨ d ≤ a) : ∀ i, i ∈ F → i ∉ G := fun i hi hg => by
  have h1 := h i hi; have h2 := k i hg; omega
theorem Own.lies {α : Type} [Flat α] {w : World} {base : Nat} {E : TypeId} {v : Value} {xs : List α} (h : Own w base E v xs) : Lies v.ownBlock.toList base w.heap.size := fun k hk => h.lt k (by simpa using hk)
theorem Own.only {α : Type} [Flat α] {w w' : World} {base : Nat} {E : TypeId} {v : Value} {xs : List α} {F : List Nat} (h : Own w base E v xs) (hf : OnlyF F w w') (ha : ∀ k, k ∈ v.ownBlock.toList → k ∉ F) : Own w' base E v xs := by
  refine ⟨h.1, ?_⟩
  rcases h.2 with h2 | ⟨g, cap, cur, rfl, hb, hg, r⟩
  · exact .inl h2
  · refine .inr ⟨g, cap, cur, rfl, hb, ?_, r⟩
    rw [hf.block g (Array.getElem?_eq_some_iff.1 hg).1 (ha g (by simp [Value.ownBlock]))]
    exact hg
theorem below_only {F : List Nat} {w a b : World} {lo hi : Nat} (h : Below w.heap.size w a) (hf : OnlyF F a b) (hl : Lies F lo hi) (hle : w.heap.size ≤ lo) : Below w.heap.size w b :=
  h.trans ⟨hf.os, hf.tape, hf.output, hf.size, fun k hk => hf.block k (Nat.lt_of_lt_of_le hk h.size) (fun hm => by have := hl k hm; omega)⟩
theorem sameB_refl {α : Type} [DecidableEq α] (x : α) : sameB x x = true := sameB_iff.2 rfl
end Go.Proofs.Ytgjnjfaohpmhkaa
