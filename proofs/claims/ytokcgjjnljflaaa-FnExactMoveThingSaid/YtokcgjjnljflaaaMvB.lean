/-
  Variables that hold loads. No conditions.
-/
import Derived.Test.YtokcgjjnljflaaaMvS
import Derived.Deep.Heap
namespace Go.Proofs.Ytokcgjjnljflaaa
open Go.RowKit

theorem Own.set_ne {α : Type} [Flat α] {w : World} {base : Nat} {E : TypeId} {v : Value} {xs : List α} (h : Own w base E v xs) {g : Nat} (hne : v.ownBlock ≠ some g) (o : Nat) (u : Value) : Own (w.setCell ⟨g, o, none⟩ u) base E v xs := by
  rcases h with ⟨hl, h | ⟨g', cap, cur, hv, hb, hg, h1, h2, h3, h4⟩⟩
  · exact ⟨hl, .inl h⟩
  · refine ⟨hl, .inr ⟨g', cap, cur, hv, hb, ?_, h1, h2, h3, h4⟩⟩
    rw [Go.Deep.blk_setCell_other _ _ _ _ (fun e => hne (by rw [hv]; exact congrArg some e))]
    exact hg
/-- a variable that holds a name and a slice -/
structure BoxL (W : World) (g : Nat) (s : ByteArray) (A : Option Addr) (n c : Nat) : Prop where
  c0 : W.cell? ⟨g, 0, none⟩ = some (.string s)
  c1 : W.cell? ⟨g, 1, none⟩ = some (.slice A n c)
  f0 : W.frozen? ⟨g, 0, none⟩ = false
  f1 : W.frozen? ⟨g, 1, none⟩ = false
theorem BoxL.lt {W : World} {g : Nat} {s : ByteArray} {A : Option Addr} {n c : Nat} (h : BoxL W g s A n c) : g < W.heap.size := World.block_lt_of_cell? _ _ h.c0
theorem BoxL.below {W V : World} {g : Nat} {s : ByteArray} {A : Option Addr} {n c : Nat} (h : BoxL W g s A n c) (hb : Below W.heap.size W V) : BoxL V g s A n c :=
  ⟨cell_later hb h.c0, cell_later hb h.c1, frozen_later hb h.lt h.f0, frozen_later hb h.lt h.f1⟩
theorem BoxL.alloc {W : World} {g : Nat} {s : ByteArray} {A : Option Addr} {n c : Nat} (h : BoxL W g s A n c) (o : Obj) : BoxL (W.alloc o) g s A n c := h.below (bl_alloc (bl_refl _) _)
theorem BoxL.drew {W : World} {g : Nat} {s : ByteArray} {A : Option Addr} {n c : Nat} (h : BoxL W g s A n c) : BoxL W.drew g s A n c := h.below (bl_drew (bl_refl _))
theorem BoxL.new (W : World) (s : ByteArray) (A : Option Addr) (n c : Nat) (T : TypeId) : BoxL (W.alloc (.cells #[.string s, .slice A n c] T)) W.heap.size s A n c := ⟨by go_simp, by go_simp, by go_simp, by go_simp⟩
theorem BoxL.new' {W : World} {g : Nat} (hg : g = W.heap.size) {s : ByteArray} {A : Option Addr} {n c : Nat} {T : TypeId} : BoxL (W.alloc (.cells #[.string s, .slice A n c] T)) g s A n c := by subst hg; exact BoxL.new _ _ _ _ _ _
theorem BoxL.set_ne {W : World} {g : Nat} {s : ByteArray} {A : Option Addr} {n c : Nat} (h : BoxL W g s A n c) {g' : Nat} (hne : g' ≠ g) (o : Nat) (u : Value) : BoxL (W.setCell ⟨g', o, none⟩ u) g s A n c :=
  have e : ∀ j, (⟨g', o, none⟩ : Addr) ≠ ⟨g, j, none⟩ := fun j e => hne (by injection e)
  ⟨(World.cell?_setCell_other _ _ _ _ (e 0)).trans h.c0, (World.cell?_setCell_other _ _ _ _ (e 1)).trans h.c1, by rw [World.frozen?_setCell]; exact h.f0, by rw [World.frozen?_setCell]; exact h.f1⟩
theorem BoxL.set0 {W : World} {g : Nat} {s : ByteArray} {A : Option Addr} {n c : Nat} (h : BoxL W g s A n c) (u : ByteArray) : BoxL (W.setCell ⟨g, 0, none⟩ (.string u)) g u A n c :=
  ⟨World.cell?_setCell_same _ _ _ h.c0, (World.cell?_setCell_other _ _ _ _ (fun e => by simp at e)).trans h.c1, by rw [World.frozen?_setCell]; exact h.f0, by rw [World.frozen?_setCell]; exact h.f1⟩
theorem BoxL.set1 {W : World} {g : Nat} {s : ByteArray} {A : Option Addr} {n c : Nat} (h : BoxL W g s A n c) (B : Option Addr) (m d : Nat) : BoxL (W.setCell ⟨g, 1, none⟩ (.slice B m d)) g s B m d :=
  ⟨(World.cell?_setCell_other _ _ _ _ (fun e => by simp at e)).trans h.c0, World.cell?_setCell_same _ _ _ h.c1, by rw [World.frozen?_setCell]; exact h.f0, by rw [World.frozen?_setCell]; exact h.f1⟩
theorem BoxL.put {W : World} {g : Nat} (h : BoxL W g ⟨#[]⟩ none 0 0) (s : ByteArray) (A : Option Addr) (n c : Nat) : BoxL ((W.setCell ⟨g, 0, none⟩ (.string s)).setCell ⟨g, 1, none⟩ (.slice A n c)) g s A n c := (h.set0 s).set1 A n c
theorem BoxL.only {W V : World} {g : Nat} {s : ByteArray} {A : Option Addr} {n c : Nat} (h : BoxL W g s A n c) {F : List Nat} (hf : OnlyF F W V) (hg : g ∉ F) : BoxL V g s A n c :=
  ⟨hf.keeps h.c0 hg, hf.keeps h.c1 hg, (hf.frozen h.lt hg).trans h.f0, (hf.frozen h.lt hg).trans h.f1⟩
/-- two variables that hold copies, nothing shared -/
structure TwoB (V0 : World) (E : TypeId) (s u : ByteArray) (xs ys : List Thing) (ga gb : Nat) (A1 : Option Addr) (c1 : Nat) (B1 : Option Addr) (d1 : Nat) (wx : World) : Prop where
  la : V0.heap.size ≤ ga
  lb : V0.heap.size ≤ gb
  ne : ga ≠ gb
  bl : Below V0.heap.size V0 wx
  ba : BoxL wx ga s A1 xs.length c1
  bb : BoxL wx gb u B1 ys.length d1
  oa : Own wx V0.heap.size E (.slice A1 xs.length c1) xs
  ob : Own wx V0.heap.size E (.slice B1 ys.length d1) ys
  ha : ∀ k, Value.ownBlock (.slice A1 xs.length c1) = some k → k ≠ ga ∧ k ≠ gb ∧ Value.ownBlock (.slice B1 ys.length d1) ≠ some k
  hb : ∀ k, Value.ownBlock (.slice B1 ys.length d1) = some k → k ≠ ga ∧ k ≠ gb
def TwoP (V0 : World) (E : TypeId) (s u : ByteArray) (xs ys : List Thing) (s11 s12 : Value) (wx : World) : Prop :=
  ∃ (ga gb : Nat) (A1 : Option Addr) (c1 : Nat) (B1 : Option Addr) (d1 : Nat), s11 = .pointer (some ⟨ga, 0, none⟩) ∧ s12 = .pointer (some ⟨gb, 0, none⟩) ∧ TwoB V0 E s u xs ys ga gb A1 c1 B1 d1 wx
theorem twoP_mk {V0 : World} {E : TypeId} {s u : ByteArray} {xs ys : List Thing} {ga gb : Nat} {A1 B1 : Option Addr} {c1 d1 : Nat} {wx : World} (h : TwoB V0 E s u xs ys ga gb A1 c1 B1 d1 wx) : TwoP V0 E s u xs ys (.pointer (some ⟨ga, 0, none⟩)) (.pointer (some ⟨gb, 0, none⟩)) wx := ⟨ga, gb, A1, c1, B1, d1, rfl, rfl, h⟩

end Go.Proofs.Ytokcgjjnljflaaa
