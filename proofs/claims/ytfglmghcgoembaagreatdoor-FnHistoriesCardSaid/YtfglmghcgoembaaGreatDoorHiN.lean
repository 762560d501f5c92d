/-
  The library's Grow and Concat at entries. No conditions.
-/
import Derived.Test.YtfglmghcgoembaaGreatDoorHx21
import Derived.Test.YtfglmghcgoembaaGreatDoorHx18
import Derived.Test.YtfglmghcgoembaaGreatDoorHx14
namespace Go.Proofs.YtfglmghcgoembaaGreatDoor
open Go.RowKit

theorem growNil_any (k : Nat) (w : World) (h0 : 0 < k) (hk : k ≤ 1048576) :
    Calls Tryz.prog 73 #[.slice none 0 0, .int .i64 k] w fun e w' => ∃ A c, e = .returned (.slice A 0 c) ∧ Own w' w.heap.size 40 (.slice A 0 c) ([] : List Entry) ∧ Below w.heap.size w w' := by
  obtain ⟨ti, z, h1, h2, h3, h4, h5, h6⟩ := el_entry
  have hsz : Flat.sz Entry = 4 := rfl
  obtain ⟨G, hG⟩ : ∃ G, G = grownCap w k 0 40 := ⟨_, rfl⟩
  have hGn : k ≤ G := by rw [hG]; exact grownCap_ge w _ _ _
  have hGM : G ≤ maxLen := by rw [hG]; exact grownCap_le_maxLen w k 0 _ (by unfold maxLen; omega)
  obtain ⟨ROW, hROW⟩ : ∃ ROW : Array Value, ROW = Builtin.zeroCells z.cells k ++ Builtin.zeroCells z.cells (G - k) := ⟨_, rfl⟩
  have hRs : ROW.size = G * Flat.sz Entry := by
    rw [hROW, Array.size_append, size_zeroCells, size_zeroCells, h6, hsz]; omega
  have hr : ∀ ty, (Builtin.append_ #[24, 3] ty #[.slice none 0 0, .int .i64 k]).run Tryz.prog w = .ok (.slice (some ⟨w.heap.size, 0, none⟩) k G) (w.drew.alloc (.cells ROW 40)) := fun ty => by
    have hb : k * ti.bytes ≤ k * 256 := Nat.mul_le_mul_left _ h5
    have h := Lib.run_append_nil_zeros (P := Tryz.prog) w 24 3 ty 40 ti z .i64 .i64 h1 Tryz.underlying3 h2 h3 k h0 (by rw [h4, hsz]; omega) (by omega) (by omega)
    rw [← hG, ← hROW] at h
    exact h
  have ho : Own (w.drew.alloc (.cells ROW 40)) w.heap.size 40 (.slice (some ⟨w.heap.size, 0, none⟩) 0 G) ([] : List Entry) := by
    refine ⟨rfl, .inr ⟨w.heap.size, G, ROW, rfl, Nat.le_refl _, ?_, Nat.zero_le _, hGM, hRs, by simp [cellsOf]⟩⟩
    show (w.heap.push _)[w.heap.size]? = _
    simp
  have HO := Lib.hid ho
  have hw1 : IntKind.i64.wrap (k : Int) = (k : Int) := IntWalk.i64_in _ (by omega)
  have hd1 : ¬ (k : Int) < 0 := by omega
  have hd2 : (0 : Int) < k := by omega
  have hGM' : G ≤ maxLen := hGM
  unfold maxLen at hGM'
  clear ho hROW hRs hG h1 h2 h3 h4 h5 h6
  go_enter Tryz.func73, Tryz.ntmps73
  go_wp2_with ((at_builtin; refine Lib.wpList_append_run _ rfl _ _ _ _ rfl _ _ rfl rfl _ _ (hr _) ?_))
  go_ret
  exact ⟨_, _, rfl, HO.out, bl_alloc (bl_drew (bl_refl _)) _⟩
theorem growNil_zero (w : World) :
    Calls Tryz.prog 73 #[.slice none 0 0, .int .i64 0] w fun e w' => e = .returned (.slice none 0 0) ∧ w' = w := by
  go_enter Tryz.func73, Tryz.ntmps73
  go_wp2
  go_ret
  exact ⟨rfl, rfl⟩
theorem growNil_both (k : Nat) (w : World) (hk : k ≤ 1048576) :
    Calls Tryz.prog 73 #[.slice none 0 0, .int .i64 k] w fun e w' => ∃ A c, e = .returned (.slice A 0 c) ∧ Own w' w.heap.size 40 (.slice A 0 c) ([] : List Entry) ∧ Below w.heap.size w w' := by
  by_cases h0 : 0 < k
  · exact growNil_any k w h0 hk
  · obtain rfl : k = 0 := by omega
    exact (growNil_zero w).mono fun e w' h => ⟨none, 0, h.1, Own.nil _ _ _, by rw [h.2]; exact bl_refl _⟩
set_option maxHeartbeats 8000000 in
theorem concat_any (f s : List Entry) (A B : Option Addr) (n m c d g : Nat) (w : World) (hn : n ≤ 524288) (hm : m ≤ 524288) (hs : Sl w A n f) (ht : Sl w B m s) (g0 : w.cell? ⟨g, 0, none⟩ = some (.slice A n c)) (g1 : w.cell? ⟨g, 1, none⟩ = some (.slice B m d)) :
    Calls Tryz.prog 58 #[.slice (some ⟨g, 0, none⟩) 2 2] w (RetOwn w 40 (f ++ s)) := by
  have hgz := World.block_lt_of_cell? _ _ g0
  have hw1 : IntKind.i64.wrap (n : Int) = (n : Int) := IntWalk.i64_in _ (by omega)
  have hw2 : IntKind.i64.wrap ((n : Int) + (m : Int)) = ((n + m : Nat) : Int) := by rw [IntWalk.i64_in _ (by omega)]; omega
  obtain ⟨q, hq⟩ : ∃ q, n + m = q := ⟨_, rfl⟩
  rw [hq] at hw2
  have hq2 : q ≤ 1048576 := by omega
  have HQ := Lib.hid hq
  clear hq
  have hd1 : ¬ (n : Int) < 0 := by omega
  have hd2 : ¬ (q : Int) < 0 := by omega
  have kg := Lib.hid (show ∀ W : World, Calls Tryz.prog 73 #[.slice none 0 0, .int .i64 q] W fun e w' => ∃ A c, e = .returned (.slice A 0 c) ∧ Own w' W.heap.size 40 (.slice A 0 c) ([] : List Entry) ∧ Below W.heap.size W w' from fun W => growNil_both q W hq2)
  go_enter Tryz.func58, Tryz.ntmps58
  go_wp2
  go_loopw [3, 11] (fun sv iv wr => ∃ i : Nat, wr = w ∧ iv = .int .i64 i ∧ ((i = 0 ∧ sv = .int .i64 0) ∨ (i = 1 ∧ sv = .int .i64 n) ∨ (i = 2 ∧ sv = .int .i64 q))) (fun _ iv _ => 2 - (intOf iv).toNat)
  case atStart => exact ⟨0, rfl, rfl, .inl ⟨rfl, rfl⟩⟩
  case round =>
    obtain ⟨i, rfl, rfl, h⟩ := hrel
    rcases h with ⟨rfl, rfl⟩ | ⟨rfl, rfl⟩ | ⟨rfl, rfl⟩
    · go_wp2
      go_roundw
      case rel => exact ⟨1, by simp⟩
      case measure => simp [intOf]
    · go_wp2
      go_roundw
      case rel => exact ⟨2, by simp⟩
      case measure => simp [intOf]
    · have G0 := Lib.hid g0
      have G1 := Lib.hid g1
      have HSf := Lib.hid hs
      have HTs := Lib.hid ht
      skip
      go_wp2_with fail
      refine (kg.out _).mono ?_
      rintro e V1 ⟨A1, c1, rfl, ho1, hb1⟩
      clear g0 g1 hs ht kg hw1 hw2 hd1 hd2
      go_wp2
      go_loopw [6, 27] (fun ov iv wq => ∃ (i : Nat) (C : Option Addr) (p cc : Nat) (out : List Entry), iv = .int .i64 i ∧ ov = .slice C p cc ∧ Hid (out.length = p) ∧ Own wq wr.heap.size 40 (.slice C p cc) out ∧ Below wr.heap.size wr wq ∧ p ≤ 1048576 ∧ i ≤ 2 ∧ Hid (i = 0 ∧ out = [] ∨ i = 1 ∧ out = f ∨ i = 2 ∧ out = f ++ s)) (fun _ iv _ => 2 - (intOf iv).toNat)
      case atStart => exact ⟨0, A1, 0, c1, [], rfl, rfl, rfl, ho1, hb1, by omega, by omega, .inl ⟨rfl, rfl⟩⟩
      case round =>
        skip
        obtain ⟨i, C, p, cc, out, rfl, rfl, hol, ho, hb, hp, hi2, hh⟩ := hrel
        have k0 := cell_later hb G0.out
        have k1 := cell_later hb G1.out
        have hs2 := HSf.out.below hb
        have ht2 := HTs.out.below hb
        have hgv := World.block_lt_of_cell? _ _ k0
        have h := hh.out
        rcases h with ⟨rfl, he⟩ | ⟨rfl, he⟩ | ⟨rfl, he⟩
        · obtain rfl : p = 0 := by rw [← hol.out, he]; rfl
          rw [he] at ho
          have HE := Lib.hid he
          clear he
          go_wp2_with ((at_builtin; refine wpList_appN rfl (.tmp 31) (.tmp 32) _ _ rfl el_ent (xs := ([] : List Entry)) (ys := f) rfl ho hb rfl hs2 (by (try simp only [List.length_nil]); omega) ?_; intro A2 c2 w2 ho2 hb2 hg2))
          go_roundw
          case rel => exact ⟨1, A2, _, c2, ([] : List Entry) ++ f, by simp, by simp, by rw [Hid, List.length_append, hs2.1]; (first | rfl | rw [← HE.out, hol.out]), ho2, hb2, by (try simp only [List.length_nil]); omega, by omega, .inr (.inl ⟨rfl, rfl⟩)⟩
          case measure => simp [intOf]
        · have hpn : p = n := by rw [← hol.out, he]; exact hs2.1
          subst hpn
          rw [he] at ho
          have HE := Lib.hid he
          clear he
          go_wp2_with ((at_builtin; refine wpList_appN rfl (.tmp 31) (.tmp 32) _ _ rfl el_ent (xs := f) (ys := s) rfl ho hb rfl ht2 (by (try simp only [List.length_nil]); omega) ?_; intro A2 c2 w2 ho2 hb2 hg2))
          go_roundw
          case rel => exact ⟨2, A2, _, c2, f ++ s, by simp, by simp, by rw [Hid, List.length_append, ht2.1]; (first | rfl | rw [← HE.out, hol.out]), ho2, hb2, by (try simp only [List.length_nil]); omega, by omega, .inr (.inr ⟨rfl, rfl⟩)⟩
          case measure => simp [intOf]
        · rw [he] at ho hol
          have HO := Lib.hid ho
          clear he ho
          go_wp2
          go_ret
          exact retOwn_mk hol.out HO.out hb
end Go.Proofs.YtfglmghcgoembaaGreatDoor
