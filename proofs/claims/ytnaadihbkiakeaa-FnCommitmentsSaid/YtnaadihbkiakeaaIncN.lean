/-
  Lists of incidents: their reading. No conditions.
-/
import Derived.Test.YtnaadihbkiakeaaIncZ
import Derived.Test.YtnaadihbkiakeaaNest
namespace Go.Proofs.Ytnaadihbkiakeaa
open Go.RowKit

instance : Deep Incident where
  sz := 4
  pos := by omega
  rep := fun w cs x => ∃ A c, cs = [.int .i64 (x.Number), .int .i64 (x.Node), .bool (x.Closed), .slice A x.Names.length c] ∧ Sl w A x.Names.length x.Names ∧ x.Names.length ≤ maxLen
  len := fun {_ _ _} h => by obtain ⟨A, c, rfl, _⟩ := h; rfl
  keep := fun {_ _ _ _} k h => by obtain ⟨A, c, e, hs, hl⟩ := h; exact ⟨A, c, e, hs.keep k, hl⟩
structure IncidentR where
  Number : Int
  Node : Int
  Closed : Bool
  A : Option Addr
  n : Nat
  c : Nat
instance : Inhabited IncidentR := ⟨⟨0, 0, false, none, 0, 0⟩⟩
instance : Flat IncidentR where
  sz := 4
  pos := by omega
  enc := fun x => [.int .i64 (x.Number), .int .i64 (x.Node), .bool (x.Closed), .slice x.A x.n x.c]
  len := fun _ => rfl
  one := fun _ u h => by simp at h; rcases h with rfl | rfl | rfl | rfl <;> rfl
def incidentN : Nest IncidentR ByteArray Incident where
  hdr := fun r => .slice r.A r.n r.c
  of := fun r l => ⟨r.Number, r.Node, r.Closed, l⟩
  szs := rfl
  rep := fun {w base E r l} h => by
    have hl := h.sl.1
    have hc := h.cap
    refine ⟨r.A, r.c, ?_, ?_, ?_⟩
    · show ([.int .i64 (r.Number), .int .i64 (r.Node), .bool (r.Closed), .slice r.A r.n r.c] : List Value) = [.int .i64 (r.Number), .int .i64 (r.Node), .bool (r.Closed), .slice r.A l.length r.c]
      rw [hl]
    · show Sl w r.A l.length l
      rw [hl]; exact h.sl
    · show l.length ≤ maxLen
      omega
theorem Sl.incident {w : World} {A : Option Addr} {n : Nat} {xs : List Incident} (h : Sl w A n xs) {k : Nat} (hk : k < n) :
    ∃ b o A' c', A = some ⟨b, o, none⟩ ∧ b < w.heap.size ∧ w.cell? ⟨b, o + k * 4, none⟩ = some (.int .i64 ((nth xs k).Number)) ∧ w.cell? ⟨b, o + k * 4 + 1, none⟩ = some (.int .i64 ((nth xs k).Node)) ∧ w.cell? ⟨b, o + k * 4 + 2, none⟩ = some (.bool ((nth xs k).Closed)) ∧ w.cell? ⟨b, o + k * 4 + 3, none⟩ = some (.slice A' (nth xs k).Names.length c') ∧ Sl w A' (nth xs k).Names.length (nth xs k).Names ∧ (nth xs k).Names.length ≤ maxLen := by
  obtain ⟨b, o, cs, rfl, ⟨A', c', rfl, hs, hl⟩, hc⟩ := h.at hk
  have h0 := hc 0 _ rfl
  exact ⟨b, o, A', c', rfl, World.block_lt_of_cell? w _ h0, hc 0 _ rfl, hc 1 _ rfl, hc 2 _ rfl, hc 3 _ rfl, hs, hl⟩
/-- how many there are inside, all told -/
def sumIncident (xs : List Incident) : Nat := (xs.map fun x => x.Names.length).sum
theorem sumIncident_succ {xs : List Incident} {k : Nat} (hk : k < xs.length) : sumIncident (xs.take (k + 1)) = sumIncident (xs.take k) + (nth xs k).Names.length := by
  unfold sumIncident; rw [take_succ hk, List.map_append, List.sum_append]; simp
theorem sumIncident_at {xs : List Incident} {x : Incident} (h : x ∈ xs) : x.Names.length ≤ sumIncident xs := by
  unfold sumIncident
  induction xs with
  | nil => cases h
  | cons y ys ih =>
    simp only [List.map_cons, List.sum_cons]
    rcases List.mem_cons.1 h with rfl | h
    · omega
    · have := ih h; omega

end Go.Proofs.Ytnaadihbkiakeaa
