/-
  How skills open. No conditions.
-/
import Derived.Test.YtjiokhgmoalnpaaDoorSkill
import Derived.Test.YtjiokhgmoalnpaaDoorRow
namespace Go.Proofs.YtjiokhgmoalnpaaDoor
open Go.RowKit

instance : Ok Skill := ⟨fun x => Ok.ok x.Person ∧ Ok.ok x.Kind ∧ Ok.ok x.Until⟩
theorem opens_skill : Opens Tryd.prog 48 Skill := fun h => by
  obtain ⟨xs, n, _, _, hlen, _, hf⟩ := DataW.trod_struct Tryd.underlying48 h
  have hc : Tryd.prog.cellsOf 48 = 3 := by kernel_rfl
  rw [hc] at hlen
  have ci0 : Tryd.prog.cellsOf 9 = 1 := by kernel_rfl
  obtain ⟨c0, y0, e0, r0, k0⟩ := opens_field (off := 0) (opens_string Tryd.underlying9) ci0 (hf 0 _ rfl) (by simp [*]) (by omega)
  obtain ⟨rfl⟩ : c0 = .string y0 := by injection r0
  have ci1 : Tryd.prog.cellsOf 3 = 1 := by kernel_rfl
  obtain ⟨c1, y1, e1, r1, k1⟩ := opens_field (off := 1) (opens_int Tryd.underlying3) ci1 (hf 1 _ rfl) (by simp [*]) (by omega)
  obtain ⟨rfl⟩ : c1 = .int .i64 y1 := by injection r1
  have ci2 : Tryd.prog.cellsOf 3 = 1 := by kernel_rfl
  obtain ⟨c2, y2, e2, r2, k2⟩ := opens_field (off := 2) (opens_int Tryd.underlying3) ci2 (hf 2 _ rfl) (by simp [*]) (by omega)
  obtain ⟨rfl⟩ : c2 = .int .i64 y2 := by injection r2
  exact ⟨⟨y0, y1, y2⟩, list3 hlen e0 e1 e2, k0, k1, k2⟩

end Go.Proofs.YtjiokhgmoalnpaaDoor
