/-
  slices.BinarySearchFunc over things. No conditions.
-/
import Derived.Test.YtokcgjjnljflaaaLibTI
import Derived.Shelf.Small.Strs
import Derived.Test.YtokcgjjnljflaaaLays
namespace Go.Proofs.Ytokcgjjnljflaaa
open Go.RowKit

/-- Where the search ends: i things lie ahead of the target, the others do not. -/
def RetSearch (w : World) (n : Nat) (f : Nat → Int) (e : Ending) (w' : World) : Prop :=
  ∃ i : Nat, e = .returned (.tuple #[.int .i64 i, .bool (decide (i < n) && decide (f i = 0))]) ∧ i ≤ n ∧ Hid ((∀ j, j < i → f j < 0) ∧ (∀ j, i ≤ j → j < n → 0 ≤ f j)) ∧ Below w.heap.size w w'
set_option maxHeartbeats 2000000 in
theorem searchFunc_thing (xs : List Thing) (A : Option Addr) (n c : Nat) (t : Thing) (g : FuncId) (caps : Array Value) (cf : Thing → Int) (w : World) (hn : n ≤ 1048576) (hs : Sl w A n xs) (hen : Enters Try.prog g)
    (hm : ∀ a b, a ≤ b → b < n → cf (nth xs b) < 0 → cf (nth xs a) < 0)
    (hp : ∀ x, x ∈ xs → ∀ W : World, Calls Try.prog g (#[ThingVal x, ThingVal t] ++ caps) W fun e V => e = .returned (.int .i64 (cf x)) ∧ Below W.heap.size W V) :
    Calls Try.prog 59 #[.slice A n c, ThingVal t, .func (.func g) #[] caps] w (RetSearch w n (fun j => cf (nth xs j))) := by
  have HL := Lib.hid hs.1
  have HP := Lib.hid hp
  have HM := Lib.hid hm
  clear hp hm
  have hcf : ∀ (args : Array Value) (W : World), (callFunc g args).run Try.prog W = .ok (.enter g args) W := hen
  clear hen
  unfold ThingVal
  go_enter Try.func59, Try.ntmps59
  go_wp2
  go_loopw [9, 10] (fun u v wr => ∃ lo hi : Nat, lo ≤ hi ∧ hi ≤ n ∧ u = .int .i64 lo ∧ v = .int .i64 hi ∧ Below w.heap.size w wr ∧ Hid ((∀ j, j < lo → cf (nth xs j) < 0) ∧ (∀ j, hi ≤ j → j < n → 0 ≤ cf (nth xs j)))
    ∧ wr.cell? ⟨w.heap.size, 0, none⟩ = some (.string t.Name) ∧ wr.cell? ⟨w.heap.size, 1, none⟩ = some (.int .i64 t.Count) ∧ wr.cell? ⟨w.heap.size, 2, none⟩ = some (.int .i64 t.Day)) (fun u v _ => (intOf v).toNat - (intOf u).toNat)
  case atStart => exact ⟨0, n, Nat.zero_le _, Nat.le_refl _, rfl, rfl, bl_alloc (bl_refl _) _, ⟨fun j hj => absurd hj (by omega), fun j h1 h2 => absurd h1 (by omega)⟩, by go_simp, by go_simp, by go_simp⟩
  case round =>
    obtain ⟨lo, hi, hlh, hin, rfl, rfl, hb, hg, t0, t1, t2⟩ := hrel
    have htz : w.heap.size < wr.heap.size := World.block_lt_of_cell? _ _ t0
    by_cases hlt : lo < hi
    · have hmn : (lo + hi) / 2 < n := by omega
      obtain ⟨b, o, rfl, hbz, c0, c1, c2⟩ := (hs.below hb).thing hmn
      clear hs
      generalize hmid : (lo + hi) / 2 = mid at *
      have hmem : Hid (nth xs mid ∈ xs) := nth_mem (by rw [HL.out]; exact hmn)
      have hmi : ((lo : Int) + (hi : Int)) / 2 = (mid : Int) := by omega
      have hml : lo ≤ mid := by omega
      have hmh : mid < hi := by omega
      by_cases hc : cf (nth xs mid) < 0
      · have HC := Lib.hid hc
        have hc' : decide (cf (nth xs mid) < 0) = true := by simpa using hc
        go_wp2_with fail
        refine wp_region_grow (by kernel_rfl) (by kernel_rfl) (fun X hX => ?_)
        have hbX : Below wr.heap.size wr X := by rw [hX]; exact bl_refl _
        have q0 := Gw.cell (cell_later hbX c0)
        have q1 := Gw.cell (cell_later hbX c1)
        have q2 := Gw.cell (cell_later hbX c2)
        have s0 := Gw.cell (cell_later hbX t0)
        have s1 := Gw.cell (cell_later hbX t1)
        have s2 := Gw.cell (cell_later hbX t2)
        have HX := Lib.hid hX
        clear hX c0 c1 c2
        repeat (go_big_quiet_step (exact Calls.grow_of (HP.out (nth xs mid) hmem.out _)))
        refine wpGrow_nil (fun V hV => ?_)
        have hV := bl_trans hbX hV
        have hbV := bl_trans hb hV
        clear q0 q1 q2 s0 s1 s2
        go_wp2
        go_roundw
        case rel => exact ⟨mid + 1, hi, by omega, hin, by go_num, rfl, hbV, ⟨fun j hj => HM.out j mid (by omega) hmn HC.out, hg.2⟩, cell_later hV t0, cell_later hV t1, cell_later hV t2⟩
        case measure => simp [intOf]; omega
      · have HC := Lib.hid hc
        have hc' : decide (cf (nth xs mid) < 0) = false := by simpa using hc
        go_wp2_with fail
        refine wp_region_grow (by kernel_rfl) (by kernel_rfl) (fun X hX => ?_)
        have hbX : Below wr.heap.size wr X := by rw [hX]; exact bl_refl _
        have q0 := Gw.cell (cell_later hbX c0)
        have q1 := Gw.cell (cell_later hbX c1)
        have q2 := Gw.cell (cell_later hbX c2)
        have s0 := Gw.cell (cell_later hbX t0)
        have s1 := Gw.cell (cell_later hbX t1)
        have s2 := Gw.cell (cell_later hbX t2)
        have HX := Lib.hid hX
        clear hX c0 c1 c2
        repeat (go_big_quiet_step (exact Calls.grow_of (HP.out (nth xs mid) hmem.out _)))
        refine wpGrow_nil (fun V hV => ?_)
        have hV := bl_trans hbX hV
        have hbV := bl_trans hb hV
        clear q0 q1 q2 s0 s1 s2
        go_wp2
        go_roundw
        case rel => exact ⟨lo, mid, by omega, by omega, rfl, by go_num, hbV, ⟨hg.1, fun j h1 h2 => Int.not_lt.1 (fun h => absurd (HM.out mid j h1 h2 h) (by have := HC.out; omega))⟩, cell_later hV t0, cell_later hV t1, cell_later hV t2⟩
        case measure => simp [intOf]; omega
    · obtain rfl : lo = hi := by omega
      by_cases hl : lo < n
      · obtain ⟨b, o, rfl, hbz, c0, c1, c2⟩ := (hs.below hb).thing hl
        clear hs
        have hd : decide ((lo : Int) < n) = true := by simpa using hl
        have hmem : Hid (nth xs lo ∈ xs) := nth_mem (by rw [HL.out]; exact hl)
        go_wp2_with fail
        refine wp_region_grow (by kernel_rfl) (by kernel_rfl) (fun X hX => ?_)
        have hbX : Below wr.heap.size wr X := by rw [hX]; exact bl_refl _
        have q0 := Gw.cell (cell_later hbX c0)
        have q1 := Gw.cell (cell_later hbX c1)
        have q2 := Gw.cell (cell_later hbX c2)
        have s0 := Gw.cell (cell_later hbX t0)
        have s1 := Gw.cell (cell_later hbX t1)
        have s2 := Gw.cell (cell_later hbX t2)
        have HX := Lib.hid hX
        clear hX c0 c1 c2
        repeat (go_big_quiet_step (exact Calls.grow_of (HP.out (nth xs lo) hmem.out _)))
        refine wpGrow_nil (fun V hV => ?_)
        have hV := bl_trans hbX hV
        have hbV := bl_trans hb hV
        clear q0 q1 q2 s0 s1 s2
        go_wp2
        go_ret2
        refine ⟨lo, ?_, hin, hg, hbV⟩
        simp [hl]
        try rfl
      · have hd : decide ((lo : Int) < n) = false := by simp; omega
        go_wp2_with fail
        refine wp_region_grow (by kernel_rfl) (by kernel_rfl) (fun X hX => ?_)
        have hbX : Below wr.heap.size wr X := by rw [hX]; exact bl_refl _
        have HX := Lib.hid hX
        clear hX hs t0 t1 t2
        repeat (go_big_quiet_step (fail))
        refine wpGrow_nil (fun V hV => ?_)
        have hbV := bl_trans hb (bl_trans hbX hV)
        go_wp2
        go_ret2
        refine ⟨lo, ?_, hin, hg, hbV⟩
        simp [hl]

theorem enters_mv : Enters Try.prog 60 := enters_of Try.func60 (by kernel_rfl) (by kernel_rfl)
theorem compareT_any (a b : ByteArray) (w : World) : Calls Try.prog 61 #[.string a, .string b] w fun e w' => e = .returned (.int .i64 (Lib.compareBytes a.data.toList b.data.toList)) ∧ w' = w := Any.strings_Compare Try.laysCompare a b w
def cmpT (x t : Thing) : Int := Lib.compareBytes x.Name.data.toList t.Name.data.toList
theorem mvCmp_any (x t : Thing) (w : World) : Calls Try.prog 60 #[ThingVal x, ThingVal t] w fun e V => e = .returned (.int .i64 (cmpT x t)) ∧ Below w.heap.size w V := by
  unfold ThingVal cmpT
  go_enter Try.func60, Try.ntmps60
  go_wp2_with fail
  refine (compareT_any x.Name t.Name _).mono ?_
  rintro _ V1 ⟨rfl, rfl⟩
  go_wp2
  go_ret
  exact ⟨rfl, bl_alloc (bl_alloc (bl_refl _) _) _⟩

end Go.Proofs.Ytokcgjjnljflaaa
