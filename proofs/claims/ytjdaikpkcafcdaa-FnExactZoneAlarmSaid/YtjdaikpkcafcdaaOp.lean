/-
  How lists of the laws' own types open. No conditions.
-/
import Derived.Test.YtjdaikpkcafcdaaSig
import Derived.Test.YtjdaikpkcafcdaaDet
import Derived.Test.YtjdaikpkcafcdaaRow
namespace Go.Proofs.Ytjdaikpkcafcdaa
open Go.RowKit

theorem opens_det : Opens Try.prog 60 Det := fun h => by
  obtain ⟨xs, n, _, _, hlen, _, hf⟩ := DataW.trod_struct Try.underlying60 h
  have hc : Try.prog.cellsOf 60 = 4 := by kernel_rfl
  rw [hc] at hlen
  have ci0 : Try.prog.cellsOf 3 = 1 := by kernel_rfl
  obtain ⟨c0, y0, e0, r0⟩ := opens_field (off := 0) (opens_int Try.underlying3) ci0 (hf 0 _ rfl) (by simp [*]) (by omega)
  obtain ⟨rfl⟩ : c0 = .int .i64 y0 := by injection r0
  have ci1 : Try.prog.cellsOf 3 = 1 := by kernel_rfl
  obtain ⟨c1, y1, e1, r1⟩ := opens_field (off := 1) (opens_int Try.underlying3) ci1 (hf 1 _ rfl) (by simp [*]) (by omega)
  obtain ⟨rfl⟩ : c1 = .int .i64 y1 := by injection r1
  have ci2 : Try.prog.cellsOf 3 = 1 := by kernel_rfl
  obtain ⟨c2, y2, e2, r2⟩ := opens_field (off := 2) (opens_int Try.underlying3) ci2 (hf 2 _ rfl) (by simp [*]) (by omega)
  obtain ⟨rfl⟩ : c2 = .int .i64 y2 := by injection r2
  have ci3 : Try.prog.cellsOf 4 = 1 := by kernel_rfl
  obtain ⟨c3, y3, e3, r3⟩ := opens_field (off := 3) (opens_bool Try.underlying4) ci3 (hf 3 _ rfl) (by simp [*]) (by omega)
  obtain ⟨rfl⟩ : c3 = .bool y3 := by injection r3
  exact ⟨⟨y0, y1, y2, y3⟩, list4 hlen e0 e1 e2 e3⟩
theorem opens_sig : Opens Try.prog 55 Sig := fun h => by
  obtain ⟨xs, n, _, _, hlen, _, hf⟩ := DataW.trod_struct Try.underlying55 h
  have hc : Try.prog.cellsOf 55 = 2 := by kernel_rfl
  rw [hc] at hlen
  have ci0 : Try.prog.cellsOf 3 = 1 := by kernel_rfl
  obtain ⟨c0, y0, e0, r0⟩ := opens_field (off := 0) (opens_int Try.underlying3) ci0 (hf 0 _ rfl) (by simp [*]) (by omega)
  obtain ⟨rfl⟩ : c0 = .int .i64 y0 := by injection r0
  have ci1 : Try.prog.cellsOf 3 = 1 := by kernel_rfl
  obtain ⟨c1, y1, e1, r1⟩ := opens_field (off := 1) (opens_int Try.underlying3) ci1 (hf 1 _ rfl) (by simp [*]) (by omega)
  obtain ⟨rfl⟩ : c1 = .int .i64 y1 := by injection r1
  exact ⟨⟨y0, y1⟩, list2 hlen e0 e1⟩

end Go.Proofs.Ytjdaikpkcafcdaa
