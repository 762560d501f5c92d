/-
  How incidents open. No conditions.
-/
import Derived.Test.YtjiokhgmoalnpaaDoorIncN
import Derived.Test.YtjiokhgmoalnpaaDoorRow
namespace Go.Proofs.YtjiokhgmoalnpaaDoor
open Go.RowKit

instance : Ok Incident := ⟨fun x => Ok.ok x.Number ∧ Ok.ok x.Node ∧ Ok.ok x.Closed ∧ Ok.ok x.Names⟩
theorem opens_incident : Opens Tryd.prog 32 Incident := fun {_ _ w _ _ _ _ _ _} h => by
  obtain ⟨xs, n, _, _, hlen, _, hf⟩ := DataW.trod_struct Tryd.underlying32 h
  have hc : Tryd.prog.cellsOf 32 = 4 := by kernel_rfl
  rw [hc] at hlen
  have ci0 : Tryd.prog.cellsOf 3 = 1 := by kernel_rfl
  obtain ⟨c0, y0, e0, r0, k0⟩ := opens_field (off := 0) (opens_int Tryd.underlying3) ci0 (hf 0 _ rfl) (by simp [*]) (by omega)
  obtain ⟨rfl⟩ : c0 = .int .i64 y0 := by injection r0
  have ci1 : Tryd.prog.cellsOf 3 = 1 := by kernel_rfl
  obtain ⟨c1, y1, e1, r1, k1⟩ := opens_field (off := 1) (opens_int Tryd.underlying3) ci1 (hf 1 _ rfl) (by simp [*]) (by omega)
  obtain ⟨rfl⟩ : c1 = .int .i64 y1 := by injection r1
  have ci2 : Tryd.prog.cellsOf 4 = 1 := by kernel_rfl
  obtain ⟨c2, y2, e2, r2, k2⟩ := opens_field (off := 2) (opens_bool Tryd.underlying4) ci2 (hf 2 _ rfl) (by simp [*]) (by omega)
  obtain ⟨rfl⟩ : c2 = .bool y2 := by injection r2
  have ci3 : Tryd.prog.cellsOf 30 = 1 := by kernel_rfl
  obtain ⟨c3, y3, e3, r3, k3⟩ := opens_field (α := List ByteArray) (off := 3) (opens_slice Tryd.underlying30 (by kernel_rfl) (opens_string Tryd.underlying9)) ci3 (hf 3 _ rfl) (by simp [*]) (by omega)
  obtain ⟨A, c, r, hs, hm⟩ := r3
  obtain ⟨rfl⟩ : c3 = .slice A y3.length c := by injection r
  exact ⟨⟨y0, y1, y2, y3⟩, ⟨A, c, list4 hlen e0 e1 e2 e3, hs, hm⟩, k0, k1, k2, k3⟩

end Go.Proofs.YtjiokhgmoalnpaaDoor
