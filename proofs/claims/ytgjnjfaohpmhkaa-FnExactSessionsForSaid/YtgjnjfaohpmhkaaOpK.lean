/-
  How skills open. No conditions.
-/
import Derived.Test.YtgjnjfaohpmhkaaSkill
import Derived.Test.YtgjnjfaohpmhkaaRow
namespace Go.Proofs.Ytgjnjfaohpmhkaa
open Go.RowKit

instance : Ok Skill := ⟨fun x => Ok.ok x.Person ∧ Ok.ok x.Kind ∧ Ok.ok x.Until⟩
theorem opens_skill : Opens Try.prog 60 Skill := fun h => by
  obtain ⟨xs, n, _, _, hlen, _, hf⟩ := DataW.trod_struct Try.underlying60 h
  have hc : Try.prog.cellsOf 60 = 3 := by kernel_rfl
  rw [hc] at hlen
  have ci0 : Try.prog.cellsOf 9 = 1 := by kernel_rfl
  obtain ⟨c0, y0, e0, r0, k0⟩ := opens_field (off := 0) (opens_string Try.underlying9) ci0 (hf 0 _ rfl) (by simp [*]) (by omega)
  obtain ⟨rfl⟩ : c0 = .string y0 := by injection r0
  have ci1 : Try.prog.cellsOf 3 = 1 := by kernel_rfl
  obtain ⟨c1, y1, e1, r1, k1⟩ := opens_field (off := 1) (opens_int Try.underlying3) ci1 (hf 1 _ rfl) (by simp [*]) (by omega)
  obtain ⟨rfl⟩ : c1 = .int .i64 y1 := by injection r1
  have ci2 : Try.prog.cellsOf 3 = 1 := by kernel_rfl
  obtain ⟨c2, y2, e2, r2, k2⟩ := opens_field (off := 2) (opens_int Try.underlying3) ci2 (hf 2 _ rfl) (by simp [*]) (by omega)
  obtain ⟨rfl⟩ : c2 = .int .i64 y2 := by injection r2
  exact ⟨⟨y0, y1, y2⟩, list3 hlen e0 e1 e2, k0, k1, k2⟩

end Go.Proofs.Ytgjnjfaohpmhkaa
