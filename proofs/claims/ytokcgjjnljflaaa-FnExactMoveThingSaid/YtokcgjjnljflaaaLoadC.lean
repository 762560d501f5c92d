/-
  Loads: copies of one. No conditions.
-/
import Derived.Test.YtokcgjjnljflaaaLoadA
import Derived.Test.YtokcgjjnljflaaaThingG
import Derived.Test.YtokcgjjnljflaaaMem8
namespace Go.Proofs.Ytokcgjjnljflaaa
open Go.RowKit

def FindPost2 (w : World) (xs : List Thing) (nm : ByteArray) (e : Ending) (w' : World) : Prop :=
  ∃ (k : Nat) (b : Bool), e = .returned (.tuple #[.int .i64 k, .bool b]) ∧ Below w.heap.size w w' ∧ (Rises Thing.Name xs → (b = true ∧ indexF (nmT nm) xs = k) ∨ (b = false ∧ indexF (nmT nm) xs = -1))
set_option maxHeartbeats 1000000 in
theorem eqFind_all (xs : List Thing) (A : Option Addr) (n c : Nat) (nm : ByteArray) (w : World) (hn : (n : Int) ≤ 9223372036854775807) (hs : Sl w A n xs) :
    Calls Try.prog 50 #[.slice A n c, .string nm] w (FindPost2 w xs nm) := by
  have HL := Lib.hid hs.1
  go_enter Try.func50, Try.ntmps50
  go_wp2
  go_loopw [6] (fun i wr => ∃ k : Nat, k ≤ n ∧ i = .int .i64 k ∧ Below w.heap.size w wr ∧ Hid (∀ j, j < k → Op.bytesLess (nth xs j).Name.toList nm.toList = true)) (fun i _ => n - (intOf i).toNat)
  case atStart => exact ⟨0, Nat.zero_le _, rfl, bl_refl _, fun j hj => absurd hj (by omega)⟩
  case round =>
    obtain ⟨k, hk, rfl, hb, hg⟩ := hrel
    by_cases hlt : k < n
    · obtain ⟨b, o, rfl, hbz, c0, c1, c2⟩ := (hs.below hb).thing hlt
      clear hs c1 c2
      cases hl : Op.bytesLess (nth xs k).Name.toList nm.toList
      · have hl' := Lib.hid hl
        cases he : (nth xs k).Name.toList == nm.toList
        · have he' := Lib.hid he
          go_wp2_with fail
          go_quiet (fail)
          go_wp2
          go_ret2
          exact ⟨k, false, rfl, bl_drewN hb _, fun HR => .inr ⟨rfl, low_miss HR hg.out fun _ => ⟨hl'.out, he'.out⟩⟩⟩
        · have he' := Lib.hid he
          go_wp2_with fail
          go_quiet (fail)
          go_wp2
          go_ret2
          exact ⟨k, true, rfl, bl_drewN hb _, fun _ => .inl ⟨rfl, low_hit hg.out (by rw [HL.out]; exact hlt) he'.out⟩⟩
      · have hl' := Lib.hid hl
        go_wp2
        go_roundw
        case rel => exact ⟨k + 1, by omega, by go_num, hb, fun j hj => by
          by_cases e : j = k
          · subst e; exact hl'.out
          · exact hg.out j (by omega)⟩
        case measure => simp [intOf]; omega
    · obtain rfl : k = n := by omega
      clear hs
      go_wp2_with fail
      go_quiet (fail)
      go_wp2
      go_ret2
      exact ⟨k, false, rfl, bl_drewN hb _, fun HR => .inr ⟨rfl, low_miss HR hg.out fun h => absurd h (by rw [HL.out]; omega)⟩⟩
set_option maxHeartbeats 2000000 in
theorem copyLoad_any (s : ByteArray) (xs : List Thing) (A : Option Addr) (n c : Nat) (w : World) (hn : n ≤ 1048576) (hs : Sl w A n xs) :
    Calls Try.prog 56 #[.agg #[.string s, .slice A n c]] w (RetLoad w 59 ⟨s, xs⟩) := by
  have HL := Lib.hid hs.1
  go_enter Try.func56, Try.ntmps56
  go_wp2_with fail
  obtain ⟨W, hW⟩ : ∃ W, W = (w.alloc (.cells #[.string s, .slice A n c] 28)).alloc (.cells #[.string ⟨#[]⟩, .slice none 0 0] 28) := ⟨_, rfl⟩
  rw [← hW]
  have hk : Below w.heap.size w W := by rw [hW]; exact bl_alloc (bl_alloc (bl_refl _) _) _
  have x0 : W.cell? ⟨w.heap.size, 0, none⟩ = some (.string s) := by rw [hW]; go_simp
  have x1 : W.cell? ⟨w.heap.size, 1, none⟩ = some (.slice A n c) := by rw [hW]; go_simp
  have y0 : W.cell? ⟨w.heap.size + 1, 0, none⟩ = some (.string ⟨#[]⟩) := by rw [hW]; go_simp
  have y1 : W.cell? ⟨w.heap.size + 1, 1, none⟩ = some (.slice none 0 0) := by rw [hW]; go_simp
  have f0 : W.frozen? ⟨w.heap.size + 1, 0, none⟩ = false := by rw [hW]; go_simp
  have f1 : W.frozen? ⟨w.heap.size + 1, 1, none⟩ = false := by rw [hW]; go_simp
  have hz : w.heap.size + 1 + 1 = W.heap.size := by rw [hW]; simp
  have HZ := Lib.hid hz
  clear hz
  have HW := Lib.hid hW
  clear hW
  go_region_held3 (fun w' => w'.cell? ⟨w.heap.size, 0, none⟩ = some (.string s) ∧ w'.cell? ⟨w.heap.size, 1, none⟩ = some (.slice A n c)) (first | exact ⟨cell_later hE x0, cell_later hE x1⟩ | go_keep)
    (first | (go_at_call 68; refine (clone_thing xs _ _ _ _ hn (hs.below (bl_trans hk (bl_drew (bl_refl _))))).mono ?_; rintro e V ⟨A1, c1, rfl, ho1, hb⟩; have hE := bl_trans (bl_drew (bl_refl W)) hb; have ho : Own V W.heap.size 59 (.slice A1 xs.length c1) xs := ho1; have r0 := cell_later hE y0; have r1 := cell_later hE y1; have q0 := frozen_later hE (World.block_lt_of_cell? _ _ y0) f0; have q1 := frozen_later hE (World.block_lt_of_cell? _ _ y1) f1; have z0 := cell_later hE x0; have z1 := cell_later hE x1))
  go_wp2
  refine bodyPost_ret (by simp [results, Try.results56, go_sem, r0, r1]; try rfl) rfl ?_
  refine retLoad_mk rfl rfl (Own.mono (base := W.heap.size) ?_ hk.size) ?_
  · repeat' (first | exact ho | refine Own.set ?_ (by rw [← HZ.out]; omega) _)
  · repeat' (first | exact bl_trans hk hE | refine bl_set ?_ (by simp only []; omega) _)
set_option maxHeartbeats 2000000 in
theorem eqOwn_any (s : ByteArray) (xs : List Thing) (A : Option Addr) (n c : Nat) (w : World) (hn : n ≤ 1048576) (hs : Sl w A n xs) :
    Calls Try.prog 43 #[.agg #[.string s, .slice A n c]] w (RetLoad w 59 ⟨s, xs⟩) := by
  have HL := Lib.hid hs.1
  go_enter Try.func43, Try.ntmps43
  go_wp2_with fail
  obtain ⟨W, hW⟩ : ∃ W, W = (w.alloc (.cells #[.string s, .slice A n c] 28)).alloc (.cells #[.string ⟨#[]⟩, .slice none 0 0] 28) := ⟨_, rfl⟩
  rw [← hW]
  have hk : Below w.heap.size w W := by rw [hW]; exact bl_alloc (bl_alloc (bl_refl _) _) _
  have x0 : W.cell? ⟨w.heap.size, 0, none⟩ = some (.string s) := by rw [hW]; go_simp
  have x1 : W.cell? ⟨w.heap.size, 1, none⟩ = some (.slice A n c) := by rw [hW]; go_simp
  have y0 : W.cell? ⟨w.heap.size + 1, 0, none⟩ = some (.string ⟨#[]⟩) := by rw [hW]; go_simp
  have y1 : W.cell? ⟨w.heap.size + 1, 1, none⟩ = some (.slice none 0 0) := by rw [hW]; go_simp
  have f0 : W.frozen? ⟨w.heap.size + 1, 0, none⟩ = false := by rw [hW]; go_simp
  have f1 : W.frozen? ⟨w.heap.size + 1, 1, none⟩ = false := by rw [hW]; go_simp
  have hz : w.heap.size + 1 + 1 = W.heap.size := by rw [hW]; simp
  have HZ := Lib.hid hz
  clear hz
  have HW := Lib.hid hW
  clear hW
  go_region_held3 (fun w' => w'.cell? ⟨w.heap.size, 0, none⟩ = some (.string s) ∧ w'.cell? ⟨w.heap.size, 1, none⟩ = some (.slice A n c)) (first | exact ⟨cell_later hE x0, cell_later hE x1⟩ | go_keep)
    (first | (refine step_appN rfl (.tmp 5) (.tmp 7) _ _ rfl el_thing rfl rfl (Own.built W.drew _ (Nat.le_refl _)) (by simp) (hs.below (bl_trans hk (bl_alloc (bl_drew (bl_refl _)) _))) (by omega) ?_; intro A1 c1 V ho1 hg; have hE : Below W.heap.size W V := (bl_alloc (bl_drew (bl_refl W)) _).trans (Below.of_gb hg (by simp) (fun k hk => by injection hk with hk; subst hk; exact Nat.le_refl _)); have ho : Own V W.heap.size 59 (.slice A1 n c1) xs := (by simpa using ho1); have r0 := cell_later hE y0; have r1 := cell_later hE y1; have q0 := frozen_later hE (World.block_lt_of_cell? _ _ y0) f0; have q1 := frozen_later hE (World.block_lt_of_cell? _ _ y1) f1; have z0 := cell_later hE x0; have z1 := cell_later hE x1))
  go_wp2
  refine bodyPost_ret (by simp [results, Try.results43, go_sem, r0, r1]; try rfl) rfl ?_
  refine retLoad_mk rfl HL.out (Own.mono (base := W.heap.size) ?_ hk.size) ?_
  · repeat' (first | exact ho | refine Own.set ?_ (by rw [← HZ.out]; omega) _)
  · repeat' (first | exact bl_trans hk hE | refine bl_set ?_ (by simp only []; omega) _)

end Go.Proofs.Ytokcgjjnljflaaa
