/-
  slices.BinarySearchFunc over skills. No conditions.
-/
import Derived.Test.YticgenojelblnaaLibKc
namespace Go.Proofs.Yticgenojelblnaa
open Go.RowKit

/-- Where the search ends: i things lie ahead of the target, the others do not. -/
def RetSearch (w : World) (n : Nat) (f : Nat → Int) (e : Ending) (w' : World) : Prop :=
  ∃ i : Nat, e = .returned (.tuple #[.int .i64 i, .bool (decide (i < n) && decide (f i = 0))]) ∧ i ≤ n ∧ Hid ((∀ j, j < i → f j < 0) ∧ (∀ j, i ≤ j → j < n → 0 ≤ f j)) ∧ Below w.heap.size w w'
set_option maxHeartbeats 2000000 in
theorem searchFunc_skill (xs : List Skill) (A : Option Addr) (n c : Nat) (t : Skill) (g : FuncId) (caps : Array Value) (cf : Skill → Int) (w : World) (hn : n ≤ 1048576) (hs : Sl w A n xs) (hen : Enters Try.prog g)
    (hm : ∀ a b, a ≤ b → b < n → cf (nth xs b) < 0 → cf (nth xs a) < 0)
    (hp : ∀ x, x ∈ xs → ∀ W : World, Calls Try.prog g (#[SkillVal x, SkillVal t] ++ caps) W fun e V => e = .returned (.int .i64 (cf x)) ∧ Below W.heap.size W V) :
    Calls Try.prog 18 #[.slice A n c, SkillVal t, .func (.func g) #[] caps] w (RetSearch w n (fun j => cf (nth xs j))) := by
  have HL := Lib.hid hs.1
  have HP := Lib.hid hp
  have HM := Lib.hid hm
  clear hp hm
  have hcf : ∀ (args : Array Value) (W : World), (callFunc g args).run Try.prog W = .ok (.enter g args) W := hen
  clear hen
  unfold SkillVal
  go_enter Try.func18, Try.ntmps18
  go_wp2
  go_loopw [9, 10] (fun u v wr => ∃ lo hi : Nat, lo ≤ hi ∧ hi ≤ n ∧ u = .int .i64 lo ∧ v = .int .i64 hi ∧ Below w.heap.size w wr ∧ Hid ((∀ j, j < lo → cf (nth xs j) < 0) ∧ (∀ j, hi ≤ j → j < n → 0 ≤ cf (nth xs j)))
    ∧ wr.cell? ⟨w.heap.size, 0, none⟩ = some (.string t.Person) ∧ wr.cell? ⟨w.heap.size, 1, none⟩ = some (.int .i64 t.Kind) ∧ wr.cell? ⟨w.heap.size, 2, none⟩ = some (.int .i64 t.Until)) (fun u v _ => (intOf v).toNat - (intOf u).toNat)
  case atStart => exact ⟨0, n, Nat.zero_le _, Nat.le_refl _, rfl, rfl, bl_alloc (bl_refl _) _, ⟨fun j hj => absurd hj (by omega), fun j h1 h2 => absurd h1 (by omega)⟩, by go_simp, by go_simp, by go_simp⟩
  case round =>
    obtain ⟨lo, hi, hlh, hin, rfl, rfl, hb, hg, t0, t1, t2⟩ := hrel
    have htz : w.heap.size < wr.heap.size := World.block_lt_of_cell? _ _ t0
    by_cases hlt : lo < hi
    · have hmn : (lo + hi) / 2 < n := by omega
      obtain ⟨b, o, rfl, hbz, c0, c1, c2⟩ := (hs.below hb).skill hmn
      clear hs
      generalize hmid : (lo + hi) / 2 = mid at *
      have hmem : Hid (nth xs mid ∈ xs) := nth_mem (by rw [HL.out]; exact hmn)
      have hmi : ((lo : Int) + (hi : Int)) / 2 = (mid : Int) := by omega
      have hml : lo ≤ mid := by omega
      have hmh : mid < hi := by omega
      by_cases hc : cf (nth xs mid) < 0
      · have HC := Lib.hid hc
        have hc' : decide (cf (nth xs mid) < 0) = true := by simpa using hc
        go_wp2_with fail
        refine wp_region_grow (by kernel_rfl) (by kernel_rfl) (fun X hX => ?_)
        have hbX : Below wr.heap.size wr X := by rw [hX]; exact bl_refl _
        have q0 := Gw.cell (cell_later hbX c0)
        have q1 := Gw.cell (cell_later hbX c1)
        have q2 := Gw.cell (cell_later hbX c2)
        have s0 := Gw.cell (cell_later hbX t0)
        have s1 := Gw.cell (cell_later hbX t1)
        have s2 := Gw.cell (cell_later hbX t2)
        have HX := Lib.hid hX
        clear hX c0 c1 c2
        repeat (go_big_quiet_step (exact Calls.grow_of (HP.out (nth xs mid) hmem.out _)))
        refine wpGrow_nil (fun V hV => ?_)
        have hV := bl_trans hbX hV
        have hbV := bl_trans hb hV
        clear q0 q1 q2 s0 s1 s2
        go_wp2
        go_roundw
        case rel => exact ⟨mid + 1, hi, by omega, hin, by go_num, rfl, hbV, ⟨fun j hj => HM.out j mid (by omega) hmn HC.out, hg.2⟩, cell_later hV t0, cell_later hV t1, cell_later hV t2⟩
        case measure => simp [intOf]; omega
      · have HC := Lib.hid hc
        have hc' : decide (cf (nth xs mid) < 0) = false := by simpa using hc
        go_wp2_with fail
        refine wp_region_grow (by kernel_rfl) (by kernel_rfl) (fun X hX => ?_)
        have hbX : Below wr.heap.size wr X := by rw [hX]; exact bl_refl _
        have q0 := Gw.cell (cell_later hbX c0)
        have q1 := Gw.cell (cell_later hbX c1)
        have q2 := Gw.cell (cell_later hbX c2)
        have s0 := Gw.cell (cell_later hbX t0)
        have s1 := Gw.cell (cell_later hbX t1)
        have s2 := Gw.cell (cell_later hbX t2)
        have HX := Lib.hid hX
        clear hX c0 c1 c2
        repeat (go_big_quiet_step (exact Calls.grow_of (HP.out (nth xs mid) hmem.out _)))
        refine wpGrow_nil (fun V hV => ?_)
        have hV := bl_trans hbX hV
        have hbV := bl_trans hb hV
        clear q0 q1 q2 s0 s1 s2
        go_wp2
        go_roundw
        case rel => exact ⟨lo, mid, by omega, by omega, rfl, by go_num, hbV, ⟨hg.1, fun j h1 h2 => Int.not_lt.1 (fun h => absurd (HM.out mid j h1 h2 h) (by have := HC.out; omega))⟩, cell_later hV t0, cell_later hV t1, cell_later hV t2⟩
        case measure => simp [intOf]; omega
    · obtain rfl : lo = hi := by omega
      by_cases hl : lo < n
      · obtain ⟨b, o, rfl, hbz, c0, c1, c2⟩ := (hs.below hb).skill hl
        clear hs
        have hd : decide ((lo : Int) < n) = true := by simpa using hl
        have hmem : Hid (nth xs lo ∈ xs) := nth_mem (by rw [HL.out]; exact hl)
        go_wp2_with fail
        refine wp_region_grow (by kernel_rfl) (by kernel_rfl) (fun X hX => ?_)
        have hbX : Below wr.heap.size wr X := by rw [hX]; exact bl_refl _
        have q0 := Gw.cell (cell_later hbX c0)
        have q1 := Gw.cell (cell_later hbX c1)
        have q2 := Gw.cell (cell_later hbX c2)
        have s0 := Gw.cell (cell_later hbX t0)
        have s1 := Gw.cell (cell_later hbX t1)
        have s2 := Gw.cell (cell_later hbX t2)
        have HX := Lib.hid hX
        clear hX c0 c1 c2
        repeat (go_big_quiet_step (exact Calls.grow_of (HP.out (nth xs lo) hmem.out _)))
        refine wpGrow_nil (fun V hV => ?_)
        have hV := bl_trans hbX hV
        have hbV := bl_trans hb hV
        clear q0 q1 q2 s0 s1 s2
        go_wp2
        go_ret2
        refine ⟨lo, ?_, hin, hg, hbV⟩
        simp [hl]
        try rfl
      · have hd : decide ((lo : Int) < n) = false := by simp; omega
        go_wp2_with fail
        refine wp_region_grow (by kernel_rfl) (by kernel_rfl) (fun X hX => ?_)
        have hbX : Below wr.heap.size wr X := by rw [hX]; exact bl_refl _
        have HX := Lib.hid hX
        clear hX hs t0 t1 t2
        repeat (go_big_quiet_step (fail))
        refine wpGrow_nil (fun V hV => ?_)
        have hbV := bl_trans hb (bl_trans hbX hV)
        go_wp2
        go_ret2
        refine ⟨lo, ?_, hin, hg, hbV⟩
        simp [hl]

end Go.Proofs.Yticgenojelblnaa
