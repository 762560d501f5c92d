/-
  What a reader of lines hands back; the parts of a line. No conditions.
-/
import Derived.Test.YtenlbeghjabpkaaGreatDoorJnE
import Derived.Test.YtenlbeghjabpkaaGreatDoorMem7
namespace Go.Proofs.YtenlbeghjabpkaaGreatDoor
open Go.RowKit

noncomputable def parseR (l : ByteArray) : Int × State × Bool := match parseB l with | some p => (p.1, p.2, true) | none => (0, ⟨ByteArray.empty, 0⟩, false)
def ParsePost (l : ByteArray) (w : World) (e : Ending) (w' : World) : Prop :=
  e = .returned (.tuple #[.int .i64 (parseR l).1, .agg #[.string (parseR l).2.1.Name, .int .i64 (parseR l).2.1.Value], .bool (parseR l).2.2]) ∧ Below w.heap.size w w'
theorem parsePost_no {l : ByteArray} {w w' : World} {e : Ending} (h : parseB l = none) (he : e = .returned (.tuple #[.int .i64 0, .agg #[.string ByteArray.empty, .int .i64 0], .bool false])) (hb : Below w.heap.size w w') : ParsePost l w e w' := by
  unfold ParsePost parseR; rw [h]; exact ⟨he, hb⟩
theorem parsePost_yes {l : ByteArray} {w w' : World} {e : Ending} {n : Int} {x : State} (h : parseB l = some (n, x)) (he : e = .returned (.tuple #[.int .i64 n, .agg #[.string x.Name, .int .i64 x.Value], .bool true])) (hb : Below w.heap.size w w') : ParsePost l w e w' := by
  unfold ParsePost parseR; rw [h]; exact ⟨he, hb⟩
theorem parsePost_yes2 {l : ByteArray} {w w' : World} {n v : Int} {a : ByteArray} (h : parseB l = some (n, ⟨a, v⟩)) (hb : Below w.heap.size w w') : ParsePost l w (.returned (.tuple #[.int .i64 n, .agg #[.string a, .int .i64 v], .bool true])) w' := parsePost_yes h rfl hb
theorem cell_ret0 {V : World} {b : Nat} {u0 u1 : Value} (h0 : V.cell? ⟨b, 0, none⟩ = some u0) (_h1 : V.cell? ⟨b, 1, none⟩ = some u1) (hb : b < V.heap.size) (v0 v1 : Value) (o : Obj) :
    (((V.setCell ⟨b, 0, none⟩ v0).setCell ⟨b, 1, none⟩ v1).alloc o).cell? ⟨b, 0, none⟩ = some v0 := by
  rw [World.cell?_alloc_old _ _ _ (by simp; exact Nat.ne_of_lt hb), World.cell?_setCell_other _ _ _ _ (by simp), World.cell?_setCell_same _ _ _ h0]
theorem cell_ret1 {V : World} {b : Nat} {u0 u1 : Value} (_h0 : V.cell? ⟨b, 0, none⟩ = some u0) (h1 : V.cell? ⟨b, 1, none⟩ = some u1) (hb : b < V.heap.size) (v0 v1 : Value) (o : Obj) :
    (((V.setCell ⟨b, 0, none⟩ v0).setCell ⟨b, 1, none⟩ v1).alloc o).cell? ⟨b, 1, none⟩ = some v1 := by
  rw [World.cell?_alloc_old _ _ _ (by simp; exact Nat.ne_of_lt hb)]
  exact World.cell?_setCell_same _ _ _ ((World.cell?_setCell_other _ _ _ _ (by simp)).trans h1)
theorem Own.str3 {w : World} {base : Nat} {E : TypeId} {A : Option Addr} {n c : Nat} {p0 p1 p2 p3 : ByteArray} (h : Own w base E (.slice A n c) [p0, p1, p2, p3]) :
    ∃ g, A = some ⟨g, 0, none⟩ ∧ g < w.heap.size ∧ w.cell? ⟨g, 0, none⟩ = some (.string p0) ∧ w.cell? ⟨g, 1, none⟩ = some (.string p1) ∧ w.cell? ⟨g, 2, none⟩ = some (.string p2) := by
  obtain ⟨g, cap, hv, _, _⟩ := World.ownsRow.form h (by simp)
  injection hv with hA hn hc
  subst hA
  have hs := h.sl
  have hn4 := hs.1
  simp at hn4
  subst hn4
  have k0 := hs.flat2 (k := 0) (by omega) 0 (.string p0) rfl
  have k1 := hs.flat2 (k := 1) (by omega) 0 (.string p1) rfl
  have k2 := hs.flat2 (k := 2) (by omega) 0 (.string p2) rfl
  exact ⟨g, rfl, World.block_lt_of_cell? _ _ k0, k0, k1, k2⟩
theorem Sl.str3 {w : World} {g : Nat} {n : Nat} {p0 p1 p2 p3 : ByteArray} (hs : Sl w (some ⟨g, 0, none⟩) n [p0, p1, p2, p3]) :
    n = 4 ∧ g < w.heap.size ∧ w.cell? ⟨g, 0, none⟩ = some (.string p0) ∧ w.cell? ⟨g, 1, none⟩ = some (.string p1) ∧ w.cell? ⟨g, 2, none⟩ = some (.string p2) := by
  have hn4 := hs.1
  simp at hn4
  subst hn4
  have k0 := hs.flat2 (k := 0) (by omega) 0 (.string p0) rfl
  have k1 := hs.flat2 (k := 1) (by omega) 0 (.string p1) rfl
  have k2 := hs.flat2 (k := 2) (by omega) 0 (.string p2) rfl
  exact ⟨rfl, World.block_lt_of_cell? _ _ k0, k0, k1, k2⟩
theorem parts4 {L : List ByteArray} (h : L.length = 4) : ∃ p0 p1 p2 p3, L = [p0, p1, p2, p3] := by
  match L, h with
  | [a, b, c, d], _ => exact ⟨a, b, c, d, rfl⟩
theorem parse_parts {l p0 p1 p2 p3 : ByteArray} (hc : cutB 61 l = [p0, p1, p2, p3]) {n : Int} {x : State} (hk : okL n x = true) (e : l = lineB n x) : p0 = itB n ∧ p1 = x.Name ∧ p2 = itB x.Value := by
  rw [e, line_cut hk] at hc
  injection hc with h0 hc
  injection hc with h1 hc
  injection hc with h2 hc
  exact ⟨h0.symm, h1.symm, h2.symm⟩
theorem parse_none4 {l : ByteArray} (h : (cutB 61 l).length ≠ 4) : parseB l = none := parseB_none fun n x hk e => h (by rw [e, line_cut hk]; rfl)
theorem parse_rd {l p0 p1 p2 p3 : ByteArray} (hc : cutB 61 l = [p0, p1, p2, p3]) {n : Int} {x : State} (hk : okL n x = true) (e : l = lineB n x) : rdV p0 = n ∧ p1 = x.Name ∧ rdV p2 = x.Value := by
  obtain ⟨h0, h1, h2⟩ := parse_parts hc hk e
  obtain ⟨⟨a0, a1⟩, _, b0, b1⟩ := okL_bd hk
  obtain ⟨u, hu⟩ := Int.eq_ofNat_of_zero_le a0
  obtain ⟨v, hv⟩ := Int.eq_ofNat_of_zero_le b0
  refine ⟨?_, h1, ?_⟩
  · rw [hu]; exact rdV_it (by omega) (by rw [h0, hu])
  · rw [hv]; exact rdV_it (by omega) (by rw [h2, hv])
theorem l1Split_61 (s : ByteArray) (w : World) (hs : s.size ≤ 1048576) : Calls Tryz.prog 58 #[.string s, .int .u8 61] w (RetOwn w 9 (cutB 61 s)) := l1Split_any s 61 w hs
theorem l1Read_still (s : ByteArray) (w : World) (hs : s.size ≤ 1048576) : Calls Tryz.prog 59 #[.string s] w fun e w' => e = .returned (.int .i64 (rdV s)) ∧ w' = w := (l1Read_any s w hs).mono fun _ _ h => ⟨h.1, h.2.symm⟩
theorem jnNumber_any (n : Int) (w : World) : Calls Tryz.prog 31 #[.int .i64 n] w fun e w' => e = .returned (.bool (inB n 0 39)) ∧ w = w' := by
  go_enter Tryz.func31, Tryz.ntmps31
  go_wp2_with fail
  refine (l1In_any n 0 39 _).mono ?_
  rintro e V ⟨rfl, rfl⟩
  go_wp2
  go_ret
  exact ⟨rfl, rfl⟩
theorem jnState_f (a : ByteArray) (v : Int) (w : World) (h : a.size ≤ maxLen) : Calls Tryz.prog 29 #[.agg #[.string a, .int .i64 v]] w fun e w' => e = .returned (.bool (stateB ⟨a, v⟩)) ∧ Below w.heap.size w w' := jnState_any ⟨a, v⟩ w h
theorem isDiaryState_f (a : ByteArray) (v : Int) (w : World) (h : a.size ≤ maxLen) : Calls Tryz.prog 26 #[.agg #[.string a, .int .i64 v]] w fun e w' => e = .returned (.bool (stateB ⟨a, v⟩)) ∧ Below w.heap.size w w' := isDiaryState_any ⟨a, v⟩ w h
theorem jnLine_f (n : Int) (a : ByteArray) (v : Int) (w : World) (h : okL n ⟨a, v⟩ = true) : Calls Tryz.prog 32 #[.int .i64 n, .agg #[.string a, .int .i64 v]] w fun e w' => e = .returned (.string (lineB n ⟨a, v⟩)) ∧ Below w.heap.size w w' := jnLine_any n ⟨a, v⟩ w h
theorem stateLine_f (n : Int) (a : ByteArray) (v : Int) (w : World) (h : okL n ⟨a, v⟩ = true) (ht : Tab w) : Calls Tryz.prog 27 #[.int .i64 n, .agg #[.string a, .int .i64 v]] w fun e w' => e = .returned (.string (lineB n ⟨a, v⟩)) ∧ Below w.heap.size w w' := stateLine_any n ⟨a, v⟩ w h ht
theorem cut_sizes {s : ByteArray} {c : UInt8} : ∀ p, p ∈ cutB c s → p.size ≤ s.size := by
  have key : ∀ (l : List UInt8) (q : List UInt8), q ∈ cutL c l → q.length ≤ l.length := by
    intro l
    induction l with
    | nil => intro q hq; simp [cutL] at hq; subst hq; simp
    | cons b l ih =>
      intro q hq
      unfold cutL at hq
      split at hq
      · rcases List.mem_cons.1 hq with rfl | hq
        · simp
        · have := ih q hq; simp; omega
      · split at hq
        · rename_i e; exact absurd e (cutL_ne c l)
        · rename_i p ps e
          rcases List.mem_cons.1 hq with rfl | hq
          · have := ih p (by rw [e]; simp); simp; omega
          · have := ih q (by rw [e]; simp [hq]); simp; omega
  intro p hp
  unfold cutB at hp
  obtain ⟨q, hq, rfl⟩ := List.mem_map.1 hp
  have := key _ _ hq
  rw [← ba_len, ba_mk, ← ba_len s]; exact this

end Go.Proofs.YtenlbeghjabpkaaGreatDoor
