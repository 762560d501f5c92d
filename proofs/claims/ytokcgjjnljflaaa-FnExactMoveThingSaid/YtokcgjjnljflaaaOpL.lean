/-
  How loads open. No conditions.
-/
import Derived.Test.YtokcgjjnljflaaaLoadN
import Derived.Test.YtokcgjjnljflaaaOpS
namespace Go.Proofs.Ytokcgjjnljflaaa
open Go.RowKit

instance : Ok Load := ⟨fun x => Ok.ok x.Appliance ∧ Ok.ok x.Things⟩
theorem opens_load : Opens Try.prog 24 Load := fun {_ _ w _ _ _ _ _ _} h => by
  obtain ⟨xs, n, _, _, hlen, _, hf⟩ := DataW.trod_struct Try.underlying24 h
  have hc : Try.prog.cellsOf 24 = 2 := by kernel_rfl
  rw [hc] at hlen
  have ci0 : Try.prog.cellsOf 9 = 1 := by kernel_rfl
  obtain ⟨c0, y0, e0, r0, k0⟩ := opens_field (off := 0) (opens_string Try.underlying9) ci0 (hf 0 _ rfl) (by simp [*]) (by omega)
  obtain ⟨rfl⟩ : c0 = .string y0 := by injection r0
  have ci1 : Try.prog.cellsOf 22 = 1 := by kernel_rfl
  obtain ⟨c1, y1, e1, r1, k1⟩ := opens_field (α := List Thing) (off := 1) (opens_slice Try.underlying22 (by kernel_rfl) opens_thing) ci1 (hf 1 _ rfl) (by simp [*]) (by omega)
  obtain ⟨A, c, r, hs, hm⟩ := r1
  obtain ⟨rfl⟩ : c1 = .slice A y1.length c := by injection r
  exact ⟨⟨y0, y1⟩, ⟨A, c, list2 hlen e0 e1, hs, hm⟩, k0, k1⟩

end Go.Proofs.Ytokcgjjnljflaaa
