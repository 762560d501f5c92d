/-
  How states and diaries open. No conditions.
-/
import Derived.Test.YtjnplafphocmiaaDoorDiary
import Derived.Test.YtjnplafphocmiaaDoorRow
namespace Go.Proofs.YtjnplafphocmiaaDoor
open Go.RowKit

instance : Ok State := ⟨fun x => Ok.ok x.Name ∧ Ok.ok x.Value⟩
theorem opens_state : Opens Tryd.prog 23 State := fun h => by
  obtain ⟨xs, n, _, _, hlen, _, hf⟩ := DataW.trod_struct Tryd.underlying23 h
  have hc : Tryd.prog.cellsOf 23 = 2 := by kernel_rfl
  rw [hc] at hlen
  have ci0 : Tryd.prog.cellsOf 9 = 1 := by kernel_rfl
  obtain ⟨c0, y0, e0, r0, k0⟩ := opens_field (off := 0) (opens_string Tryd.underlying9) ci0 (hf 0 _ rfl) (by simp [*]) (by omega)
  obtain ⟨rfl⟩ : c0 = .string y0 := by injection r0
  have ci1 : Tryd.prog.cellsOf 3 = 1 := by kernel_rfl
  obtain ⟨c1, y1, e1, r1, k1⟩ := opens_field (off := 1) (opens_int Tryd.underlying3) ci1 (hf 1 _ rfl) (by simp [*]) (by omega)
  obtain ⟨rfl⟩ : c1 = .int .i64 y1 := by injection r1
  exact ⟨⟨y0, y1⟩, list2 hlen e0 e1, k0, k1⟩
instance : Ok Diary := ⟨fun x => Ok.ok x.Safe ∧ Ok.ok x.Open⟩
theorem opens_diary : Opens Tryd.prog 39 Diary := fun h => by
  obtain ⟨xs, n, _, _, hlen, _, hf⟩ := DataW.trod_struct Tryd.underlying39 h
  have hc : Tryd.prog.cellsOf 39 = 2 := by kernel_rfl
  rw [hc] at hlen
  have ci0 : Tryd.prog.cellsOf 9 = 1 := by kernel_rfl
  obtain ⟨c0, y0, e0, r0, k0⟩ := opens_field (off := 0) (opens_string Tryd.underlying9) ci0 (hf 0 _ rfl) (by simp [*]) (by omega)
  obtain ⟨rfl⟩ : c0 = .string y0 := by injection r0
  have ci1 : Tryd.prog.cellsOf 9 = 1 := by kernel_rfl
  obtain ⟨c1, y1, e1, r1, k1⟩ := opens_field (off := 1) (opens_string Tryd.underlying9) ci1 (hf 1 _ rfl) (by simp [*]) (by omega)
  obtain ⟨rfl⟩ : c1 = .string y1 := by injection r1
  exact ⟨⟨y0, y1⟩, list2 hlen e0 e1, k0, k1⟩

end Go.Proofs.YtjnplafphocmiaaDoor
