/-
  How appliances open. No conditions.
-/
import Derived.Test.YtkgjbijkjlmomaaAppl
import Derived.Test.YtkgjbijkjlmomaaRow
namespace Go.Proofs.Ytkgjbijkjlmomaa
open Go.RowKit

instance : Ok Appliance := ⟨fun x => Ok.ok x.Name ∧ Ok.ok x.Kind ∧ Ok.ok x.Node ∧ Ok.ok x.Crew ∧ Ok.ok x.State⟩
theorem opens_appliance : Opens Try.prog 70 Appliance := fun h => by
  obtain ⟨xs, n, _, _, hlen, _, hf⟩ := DataW.trod_struct Try.underlying70 h
  have hc : Try.prog.cellsOf 70 = 5 := by kernel_rfl
  rw [hc] at hlen
  have ci0 : Try.prog.cellsOf 9 = 1 := by kernel_rfl
  obtain ⟨c0, y0, e0, r0, k0⟩ := opens_field (off := 0) (opens_string Try.underlying9) ci0 (hf 0 _ rfl) (by simp [*]) (by omega)
  obtain ⟨rfl⟩ : c0 = .string y0 := by injection r0
  have ci1 : Try.prog.cellsOf 3 = 1 := by kernel_rfl
  obtain ⟨c1, y1, e1, r1, k1⟩ := opens_field (off := 1) (opens_int Try.underlying3) ci1 (hf 1 _ rfl) (by simp [*]) (by omega)
  obtain ⟨rfl⟩ : c1 = .int .i64 y1 := by injection r1
  have ci2 : Try.prog.cellsOf 3 = 1 := by kernel_rfl
  obtain ⟨c2, y2, e2, r2, k2⟩ := opens_field (off := 2) (opens_int Try.underlying3) ci2 (hf 2 _ rfl) (by simp [*]) (by omega)
  obtain ⟨rfl⟩ : c2 = .int .i64 y2 := by injection r2
  have ci3 : Try.prog.cellsOf 3 = 1 := by kernel_rfl
  obtain ⟨c3, y3, e3, r3, k3⟩ := opens_field (off := 3) (opens_int Try.underlying3) ci3 (hf 3 _ rfl) (by simp [*]) (by omega)
  obtain ⟨rfl⟩ : c3 = .int .i64 y3 := by injection r3
  have ci4 : Try.prog.cellsOf 3 = 1 := by kernel_rfl
  obtain ⟨c4, y4, e4, r4, k4⟩ := opens_field (off := 4) (opens_int Try.underlying3) ci4 (hf 4 _ rfl) (by simp [*]) (by omega)
  obtain ⟨rfl⟩ : c4 = .int .i64 y4 := by injection r4
  exact ⟨⟨y0, y1, y2, y3, y4⟩, list5 hlen e0 e1 e2 e3 e4, k0, k1, k2, k3, k4⟩

end Go.Proofs.Ytkgjbijkjlmomaa
