/-
  Several texts in one. No conditions.
-/
import Derived.Test.YtfglmghcgoembaaGreatDoorLibE
import Derived.Test.YtfglmghcgoembaaGreatDoorHx11
import Derived.Test.YtfglmghcgoembaaGreatDoorHx19
namespace Go.Proofs.YtfglmghcgoembaaGreatDoor
open Go.RowKit

theorem enters_eo : Enters Tryz.prog 57 := enters_of Tryz.func57 (by kernel_rfl) (by kernel_rfl)
/-- of another room -/
def notR (r : Int) (e : Entry) : Bool := !(e.Room == r)
theorem pred_eo (w0 w : World) (F : List Nat) (B : Nat) (r : Int) (hb0 : Below w0.heap.size w0 w) (hF : ∀ k, k ∈ F → w0.heap.size ≤ k) (ha : w0.cell? ⟨B, 0, none⟩ = some (.int .i64 r)) (xs : List Entry) :
    Pred Tryz.prog w F xs 57 EntryVal #[.pointer (some ⟨B, 0, none⟩)] (notR r) := by
  intro W x _ hof
  have hb : Below w0.heap.size w0 W := hb0.trans ⟨hof.os, hof.tape, hof.output, hof.size, fun k hk => hof.block k (Nat.lt_of_lt_of_le hk hb0.size) (fun hm => by have := hF k hm; omega)⟩
  have ha' := cell_later hb ha
  have hz : B < W.heap.size := World.block_lt_of_cell? W _ ha'
  clear ha hb0 hF hof hb
  show Calls _ _ #[EntryVal x, .pointer (some ⟨B, 0, none⟩)] W _
  unfold EntryVal notR
  go_enter Tryz.func57, Tryz.ntmps57
  go_wp2
  go_ret
  exact ⟨rfl, bl_alloc (bl_refl _) _⟩
theorem fil_not (r : Int) (l : List Entry) : l.filter (fun x => !notR r x) = fil r l := by
  unfold fil
  refine List.filter_congr fun e _ => ?_
  unfold notR; rw [Bool.not_not]
set_option maxHeartbeats 4000000 in
theorem entriesOf_any (l : List Entry) (r : Int) (A : Option Addr) (n c : Nat) (w : World) (hn : n ≤ 1048576) (hs : Sl w A n l) :
    Calls Tryz.prog 29 #[.slice A n c, .int .i64 r] w (RetOwn w 40 (fil r l)) := by
  have HL := Lib.hid hs.1
  go_enter Tryz.func29, Tryz.ntmps29
  go_wp2_with fail
  refine (clone_entry l A n c _ hn (hs.below (bl_alloc (bl_refl _) _))).mono ?_
  rintro e V1 ⟨A1, c1, rfl, ho1, hb1⟩
  have ha : V1.cell? ⟨w.heap.size, 0, none⟩ = some (.int .i64 r) := cell_later hb1 (by go_simp)
  have hbw : Below w.heap.size w V1 := bl_trans (bl_alloc (bl_refl _) _) hb1
  have ho1' : Own V1 (w.heap.size + 1) 40 (.slice A1 l.length c1) l := ho1.mono (by simp)
  have hp := pred_eo (w.alloc (.cells #[.int .i64 r] 3)) V1 (Value.ownBlock (.slice A1 l.length c1)).toList w.heap.size r hb1 (fun k hk => by have := (ho1'.lies k hk).1; simp; omega) (by go_simp) l
  have HP := Lib.hid hp
  clear hp ho1
  go_wp2_with fail
  refine (deleteFunc_entry l A1 _ c1 _ _ _ (notR r) _ (by have := HL.out; omega) ho1' enters_eo HP.out).mono ?_
  rintro e V2 ⟨m, rfl, ho2, hm, hf2⟩
  rw [fil_not] at ho2
  go_wp2
  go_ret
  exact retOwn_mk ho2.sl.1 (ho2.mono (by omega)) (below_only hbw hf2 ho1'.lies (by omega))
set_option maxHeartbeats 8000000 in
theorem equal_any (a b : List Entry) (A B : Option Addr) (n c d : Nat) (w : World) (hn : n ≤ 1048576) (hs : Sl w A n a) (ht : Sl w B n b) :
    Calls Tryz.prog 72 #[.slice A n c, .slice B n d] w fun e w' => e = .returned (.bool (decide (a = b))) ∧ Below w.heap.size w w' := by
  have HA := Lib.hid hs.1
  have HB := Lib.hid ht.1
  go_enter Tryz.func72, Tryz.ntmps72
  go_wp2
  go_loopw [13] (fun iv wr => ∃ i : Nat, i ≤ n ∧ iv = .int .i64 i ∧ Below w.heap.size w wr ∧ Hid (∀ j, j < i → nth a j = nth b j)) (fun iv _ => n - (intOf iv).toNat)
  case atStart => exact ⟨0, Nat.zero_le _, rfl, bl_refl _, fun j hj => absurd hj (by omega)⟩
  case round =>
    obtain ⟨i, hi, rfl, hb, hg⟩ := hrel
    by_cases hlt : i < n
    · obtain ⟨ba, oa, rfl, hba, c0, c1, c2, c3⟩ := (hs.below hb).entry hlt
      obtain ⟨bb, ob, rfl, hbb, d0, d1, d2, d3⟩ := (ht.below hb).entry hlt
      clear hs ht
      have h1 : (i : Int) < n := by omega
      obtain ⟨x, hx⟩ : ∃ x, x = nth a i := ⟨_, rfl⟩
      obtain ⟨y, hy⟩ : ∃ y, y = nth b i := ⟨_, rfl⟩
      rw [← hx] at c0 c1 c2 c3
      rw [← hy] at d0 d1 d2 d3
      have HX := Lib.hid hx
      have HY := Lib.hid hy
      clear hx hy
      by_cases he : y = x
      · have G : Hid (nth a i = nth b i) := by rw [Hid, ← HX.out, ← HY.out]; exact he.symm
        subst he
        go_wp2_with fail
        refine wp_region_grow (by kernel_rfl) (by kernel_rfl) (fun X hX => ?_)
        have hbX : Below wr.heap.size wr X := by rw [hX]; exact bl_refl _
        have r0 := Gw.cell (cell_later hbX c0)
        have r1 := Gw.cell (cell_later hbX c1)
        have r2 := Gw.cell (cell_later hbX c2)
        have r3 := Gw.cell (cell_later hbX c3)
        have q0 := Gw.cell (cell_later hbX d0)
        have q1 := Gw.cell (cell_later hbX d1)
        have q2 := Gw.cell (cell_later hbX d2)
        have q3 := Gw.cell (cell_later hbX d3)
        have HX1 := Lib.hid hX
        clear hX
        repeat (go_big_quiet_step (fail))
        refine wpGrow_nil (fun V hV => ?_)
        have hbV := bl_trans hb (bl_trans hbX hV)
        clear hV hbX HX1 c0 c1 c2 c3 d0 d1 d2 d3 r0 r1 r2 r3 q0 q1 q2 q3
        go_wp2
        go_roundw
        case rel => exact ⟨i + 1, by omega, by go_num, hbV, upto_succ hg G.out⟩
        case measure => simp [intOf]; omega
      · have G : Hid (nth a i ≠ nth b i) := by rw [Hid, ← HX.out, ← HY.out]; exact fun e => he e.symm
        by_cases h0 : x.Room = y.Room
        · by_cases h1 : x.Number = y.Number
          · by_cases h2 : x.Minute = y.Minute
            · have e3 := ent_text_ne he h0 h1 h2
              have e0 : (x.Room == y.Room) = true := by simpa using h0
              have e1 : (x.Number == y.Number) = true := by simpa using h1
              have e2 : (x.Minute == y.Minute) = true := by simpa using h2
              clear he
              go_wp2_with fail
              refine wp_region_grow (by kernel_rfl) (by kernel_rfl) (fun X hX => ?_)
              have hbX : Below wr.heap.size wr X := by rw [hX]; exact bl_refl _
              have r0 := Gw.cell (cell_later hbX c0)
              have r1 := Gw.cell (cell_later hbX c1)
              have r2 := Gw.cell (cell_later hbX c2)
              have r3 := Gw.cell (cell_later hbX c3)
              have q0 := Gw.cell (cell_later hbX d0)
              have q1 := Gw.cell (cell_later hbX d1)
              have q2 := Gw.cell (cell_later hbX d2)
              have q3 := Gw.cell (cell_later hbX d3)
              have HX1 := Lib.hid hX
              clear hX
              repeat (go_big_quiet_step (fail))
              refine wpGrow_nil (fun V hV => ?_)
              have hbV := bl_trans hb (bl_trans hbX hV)
              clear hV hbX HX1 c0 c1 c2 c3 d0 d1 d2 d3 r0 r1 r2 r3 q0 q1 q2 q3
              go_wp2
              go_ret
              exact ⟨ret_bool (decide_eq_false (fun e => G.out (by rw [e]))).symm, hbV⟩
            · have e2 : (x.Minute == y.Minute) = false := by simpa using h2
              have e0 : (x.Room == y.Room) = true := by simpa using h0
              have e1 : (x.Number == y.Number) = true := by simpa using h1
              clear he
              go_wp2_with fail
              refine wp_region_grow (by kernel_rfl) (by kernel_rfl) (fun X hX => ?_)
              have hbX : Below wr.heap.size wr X := by rw [hX]; exact bl_refl _
              have r0 := Gw.cell (cell_later hbX c0)
              have r1 := Gw.cell (cell_later hbX c1)
              have r2 := Gw.cell (cell_later hbX c2)
              have r3 := Gw.cell (cell_later hbX c3)
              have q0 := Gw.cell (cell_later hbX d0)
              have q1 := Gw.cell (cell_later hbX d1)
              have q2 := Gw.cell (cell_later hbX d2)
              have q3 := Gw.cell (cell_later hbX d3)
              have HX1 := Lib.hid hX
              clear hX
              repeat (go_big_quiet_step (fail))
              refine wpGrow_nil (fun V hV => ?_)
              have hbV := bl_trans hb (bl_trans hbX hV)
              clear hV hbX HX1 c0 c1 c2 c3 d0 d1 d2 d3 r0 r1 r2 r3 q0 q1 q2 q3
              go_wp2
              go_ret
              exact ⟨ret_bool (decide_eq_false (fun e => G.out (by rw [e]))).symm, hbV⟩
          · have e1 : (x.Number == y.Number) = false := by simpa using h1
            have e0 : (x.Room == y.Room) = true := by simpa using h0
            clear he
            go_wp2_with fail
            refine wp_region_grow (by kernel_rfl) (by kernel_rfl) (fun X hX => ?_)
            have hbX : Below wr.heap.size wr X := by rw [hX]; exact bl_refl _
            have r0 := Gw.cell (cell_later hbX c0)
            have r1 := Gw.cell (cell_later hbX c1)
            have r2 := Gw.cell (cell_later hbX c2)
            have r3 := Gw.cell (cell_later hbX c3)
            have q0 := Gw.cell (cell_later hbX d0)
            have q1 := Gw.cell (cell_later hbX d1)
            have q2 := Gw.cell (cell_later hbX d2)
            have q3 := Gw.cell (cell_later hbX d3)
            have HX1 := Lib.hid hX
            clear hX
            repeat (go_big_quiet_step (fail))
            refine wpGrow_nil (fun V hV => ?_)
            have hbV := bl_trans hb (bl_trans hbX hV)
            clear hV hbX HX1 c0 c1 c2 c3 d0 d1 d2 d3 r0 r1 r2 r3 q0 q1 q2 q3
            go_wp2
            go_ret
            exact ⟨ret_bool (decide_eq_false (fun e => G.out (by rw [e]))).symm, hbV⟩
        · have e0 : (x.Room == y.Room) = false := by simpa using h0
          clear he
          go_wp2_with fail
          refine wp_region_grow (by kernel_rfl) (by kernel_rfl) (fun X hX => ?_)
          have hbX : Below wr.heap.size wr X := by rw [hX]; exact bl_refl _
          have r0 := Gw.cell (cell_later hbX c0)
          have r1 := Gw.cell (cell_later hbX c1)
          have r2 := Gw.cell (cell_later hbX c2)
          have r3 := Gw.cell (cell_later hbX c3)
          have q0 := Gw.cell (cell_later hbX d0)
          have q1 := Gw.cell (cell_later hbX d1)
          have q2 := Gw.cell (cell_later hbX d2)
          have q3 := Gw.cell (cell_later hbX d3)
          have HX1 := Lib.hid hX
          clear hX
          repeat (go_big_quiet_step (fail))
          refine wpGrow_nil (fun V hV => ?_)
          have hbV := bl_trans hb (bl_trans hbX hV)
          clear hV hbX HX1 c0 c1 c2 c3 d0 d1 d2 d3 r0 r1 r2 r3 q0 q1 q2 q3
          go_wp2
          go_ret
          exact ⟨ret_bool (decide_eq_false (fun e => G.out (by rw [e]))).symm, hbV⟩
    · have hni : ¬ (i : Int) < n := by omega
      have q : Hid (decide (a = b) = true) := decide_eq_true (List.ext_getElem (by rw [HA.out, HB.out]) (fun j h1 h2 => by rw [nth_ge h1, nth_ge h2]; exact hg.out j (by rw [HA.out] at h1; omega)))
      go_wp2
      go_ret
      exact ⟨ret_bool q.out.symm, hb⟩
set_option maxHeartbeats 4000000 in
theorem isBeginning_any (a b : List Entry) (A B : Option Addr) (n m c d : Nat) (w : World) (hn : n ≤ 1048576) (_hm : m ≤ 1048576) (hmd : m ≤ d) (hs : Sl w A n a) (ht : Sl w B m b) :
    Calls Tryz.prog 56 #[.slice A n c, .slice B m d] w fun e w' => e = .returned (.bool (begB a b)) ∧ Below w.heap.size w w' := by
  have HA := Lib.hid hs.1
  have HB := Lib.hid ht.1
  by_cases hnm : n ≤ m
  · have hd : (n : Int) ≤ m := by omega
    have hd2 : decide (n ≤ m) = true := decide_eq_true hnm
    have hd3 : n ≤ d := by omega
    have hd4 : (n : Int) ≤ d := by omega
    obtain ⟨v, ev⟩ : ∃ v, decide (a = b.take n) = v := ⟨_, rfl⟩
    have q : Hid (begB a b = v) := by rw [Hid, ← ev]; unfold begB; rw [HA.out, HB.out, decide_eq_true hnm, Bool.true_and]
    have ke := Lib.hid (show ∀ (W : World), Sl W A n a → Sl W B m b → ∀ d', Calls Tryz.prog 72 #[.slice A n c, .slice B n d'] W fun e w' => e = .returned (.bool v) ∧ Below W.heap.size W w' from fun W hs ht d' => by have h := equal_any a (b.take n) A B n c d' W hn hs (ht.take hnm); rw [ev] at h; exact h)
    clear ev
    cases B with
    | none =>
      have hm0 := ht.none_len
      obtain rfl : n = 0 := by have := ht.none_len; omega
      go_enter Tryz.func56, Tryz.ntmps56
      go_wp2_with fail
      refine (ke.out _ hs ht _).mono ?_
      rintro e V1 ⟨rfl, hb1⟩
      go_wp2
      go_ret
      exact ⟨ret_bool q.out.symm, hb1⟩
    | some p =>
      go_enter Tryz.func56, Tryz.ntmps56
      go_wp2_with fail
      refine (ke.out _ hs ht _).mono ?_
      rintro e V1 ⟨rfl, hb1⟩
      go_wp2
      go_ret
      exact ⟨ret_bool q.out.symm, hb1⟩
  · have hd : ¬ (n : Int) ≤ m := by omega
    have hd2 : decide (n ≤ m) = false := decide_eq_false hnm
    have q : Hid (begB a b = false) := begB_no (by rw [HA.out, HB.out]; exact hnm)
    go_enter Tryz.func56, Tryz.ntmps56
    go_wp2
    go_ret
    exact ⟨ret_bool q.out.symm, bl_refl _⟩
set_option maxHeartbeats 4000000 in
theorem joinCopies_any (a b : List Entry) (A B : Option Addr) (n m c d : Nat) (w : World) (hn : n ≤ 1048576) (hm : m ≤ 1048576) (hnc : n ≤ c) (hmd : m ≤ d) (hs : Sl w A n a) (ht : Sl w B m b) :
    Calls Tryz.prog 28 #[.slice A n c, .slice B m d] w (RetOwn2 w 40 (joF a b)) := by
  obtain ⟨v1, e1⟩ : ∃ v, begB b a = v := ⟨_, rfl⟩
  obtain ⟨v2, e2⟩ : ∃ v, begB a b = v := ⟨_, rfl⟩
  have k1 := Lib.hid (show ∀ (W : World), Sl W A n a → Sl W B m b → Calls Tryz.prog 56 #[.slice B m d, .slice A n c] W fun e w' => e = .returned (.bool v1) ∧ Below W.heap.size W w' from fun W hs ht => by have h := isBeginning_any b a B A m n d c W hm hn hnc ht hs; rw [e1] at h; exact h)
  have k2 := Lib.hid (show ∀ (W : World), Sl W A n a → Sl W B m b → Calls Tryz.prog 56 #[.slice A n c, .slice B m d] W fun e w' => e = .returned (.bool v2) ∧ Below W.heap.size W w' from fun W hs ht => by have h := isBeginning_any a b A B n m c d W hn hm hmd hs ht; rw [e2] at h; exact h)
  have E1 := Lib.hid e1
  have E2 := Lib.hid e2
  clear e1 e2
  go_enter Tryz.func28, Tryz.ntmps28
  go_wp2_with fail
  refine (k1.out _ hs ht).mono ?_
  rintro e V1 ⟨rfl, hb1⟩
  have hs1 := hs.below hb1
  have ht1 := ht.below hb1
  cases v1
  · go_wp2_with fail
    refine (k2.out _ hs1 ht1).mono ?_
    rintro e V2 ⟨rfl, hb2'⟩
    have hb12 := bl_trans hb1 hb2'
    have ht2 := ht1.below hb2'
    cases v2
    · go_wp2
      go_ret2
      exact retOwn2_mk (joF_3 E1.out E2.out) (Own.nil _ _ _) hb12
    · go_wp2_with fail
      refine (clone_entry b B m d _ hm ht2).mono ?_
      rintro e V5 ⟨A5, c5, rfl, ho5, hb5⟩
      go_wp2
      go_ret2
      exact retOwn2_mk (joF_2 E1.out E2.out) (ho5.mono hb12.size) (bl_trans hb12 hb5)
  · go_wp2_with fail
    refine (clone_entry a A n c _ hn hs1).mono ?_
    rintro e V5 ⟨A5, c5, rfl, ho5, hb5⟩
    go_wp2
    go_ret2
    exact retOwn2_mk (joF_1 E1.out) (ho5.mono hb1.size) (bl_trans hb1 hb5)
end Go.Proofs.YtfglmghcgoembaaGreatDoor

namespace Go.Proofs.YtfglmghcgoembaaGreatDoor
open Go.RowKit

set_option maxHeartbeats 8000000 in
theorem isSorted_any (h : List Entry) (A : Option Addr) (n c : Nat) (w : World) (hn : n ≤ 1048576) (hs : Sl w A n h) :
    Calls Tryz.prog 54 #[.slice A n c, .func (.func 55) #[] #[]] w fun e w' => e = .returned (.bool (stepB h)) ∧ Below w.heap.size w w' := by
  have HL := Lib.hid hs.1
  have hcf : ∀ (args : Array Value) (W : World), (callFunc 55 args).run Tryz.prog W = .ok (.enter 55 args) W := enters_of Tryz.func55 (by kernel_rfl) (by kernel_rfl)
  have hw0 : IntKind.i64.wrap ((n : Int) - 1) = (n : Int) - 1 := IntWalk.i64_in _ (by omega)
  go_enter Tryz.func54, Tryz.ntmps54
  go_wp2
  go_loopw [5] (fun iv wr => ∃ i : Int, -1 ≤ i ∧ i ≤ (n : Int) - 1 ∧ iv = .int .i64 i ∧ Below w.heap.size w wr ∧ Hid (∀ j : Nat, i < (j : Int) + 1 → j + 1 < n → befB (nth h (j + 1)) (nth h j) = false)) (fun iv _ => (intOf iv + 1).toNat)
  case atStart => exact ⟨(n : Int) - 1, by omega, by omega, rfl, bl_refl _, fun j h1 h2 => absurd h2 (by omega)⟩
  case round =>
    obtain ⟨i, hi0, hi, rfl, hb, hg⟩ := hrel
    by_cases hlt : 0 < i
    · obtain ⟨q, rfl⟩ : ∃ q : Nat, i = (q : Int) := ⟨i.toNat, by omega⟩
      obtain ⟨k, hk⟩ : ∃ k : Nat, q = k + 1 := ⟨q - 1, by omega⟩
      have hkn : q < n := by omega
      obtain ⟨ba, oa, rfl, hba, c0, c1, c2, c3⟩ := (hs.below hb).entry hkn
      have hs2 := (hs.below hb).flat2 (k := k) (by omega)
      have d0 : wr.cell? ⟨ba, oa + k * 4, none⟩ = some (.int .i64 (nth h k).Room) := hs2 0 _ rfl
      have d1 : wr.cell? ⟨ba, oa + k * 4 + 1, none⟩ = some (.int .i64 (nth h k).Number) := hs2 1 _ rfl
      have d2 : wr.cell? ⟨ba, oa + k * 4 + 2, none⟩ = some (.int .i64 (nth h k).Minute) := hs2 2 _ rfl
      have d3 : wr.cell? ⟨ba, oa + k * 4 + 3, none⟩ = some (.string (nth h k).Text) := hs2 3 _ rfl
      clear hs hs2
      have hd := decide_eq_true hlt
      have hd2 : decide (0 < q) = true := decide_eq_true (by omega)
      have hw1 : IntKind.i64.wrap ((q : Int) - 1) = (k : Int) := by rw [IntWalk.i64_in _ (by omega)]; omega
      have b2 : (q : Int) < n := by omega
      have b3 : (k : Int) < n := by omega
      have b4 : k < n := by omega
      obtain ⟨x, hx⟩ : ∃ x, x = nth h q := ⟨_, rfl⟩
      obtain ⟨y, hy⟩ : ∃ y, y = nth h k := ⟨_, rfl⟩
      rw [← hx] at c0 c1 c2 c3
      rw [← hy] at d0 d1 d2 d3
      have HX := Lib.hid hx
      have HY := Lib.hid hy
      clear hx hy
      obtain ⟨v, hv⟩ : ∃ v, befB x y = v := ⟨_, rfl⟩
      have hz : decide (cmpE x y < 0) = v := by rw [← hv]; exact congrFun (congrFun lt_cmpE x) y
      have HV : Hid (befB (nth h (k + 1)) (nth h k) = v) := by rw [Hid, ← hk, ← HX.out, ← HY.out]; exact hv
      have HK := Lib.hid hk
      have hqk : k + 1 ≤ q := by omega
      clear hv hk
      cases v
      · go_wp2_with fail
        refine wp_region_grow (by kernel_rfl) (by kernel_rfl) (fun X hX => ?_)
        have hbX : Below wr.heap.size wr X := by rw [hX]; exact bl_refl _
        have r0 := Gw.cell (cell_later hbX c0)
        have r1 := Gw.cell (cell_later hbX c1)
        have r2 := Gw.cell (cell_later hbX c2)
        have r3 := Gw.cell (cell_later hbX c3)
        have q0 := Gw.cell (cell_later hbX d0)
        have q1 := Gw.cell (cell_later hbX d1)
        have q2 := Gw.cell (cell_later hbX d2)
        have q3 := Gw.cell (cell_later hbX d3)
        have HX1 := Lib.hid hX
        clear hX
        repeat (go_big_quiet_step ((go_at_call 55; exact Calls.grow_of ((compareEntries_any x y _).mono fun e w' h => ⟨h.1, h.2.below⟩))))
        refine wpGrow_nil (fun V hV => ?_)
        have hbV := bl_trans hb (bl_trans hbX hV)
        clear hV hbX HX1 c0 c1 c2 c3 d0 d1 d2 d3 r0 r1 r2 r3 q0 q1 q2 q3
        go_wp2
        go_roundw
        case rel => exact ⟨(k : Int), by omega, by omega, by go_num, hbV, fun j h1 h2 => by by_cases e : j = k; subst e; exact HV.out; exact hg.out j (by have := HK.out; omega) h2⟩
        case measure => simp [intOf]; omega
      · go_wp2_with fail
        refine wp_region_grow (by kernel_rfl) (by kernel_rfl) (fun X hX => ?_)
        have hbX : Below wr.heap.size wr X := by rw [hX]; exact bl_refl _
        have r0 := Gw.cell (cell_later hbX c0)
        have r1 := Gw.cell (cell_later hbX c1)
        have r2 := Gw.cell (cell_later hbX c2)
        have r3 := Gw.cell (cell_later hbX c3)
        have q0 := Gw.cell (cell_later hbX d0)
        have q1 := Gw.cell (cell_later hbX d1)
        have q2 := Gw.cell (cell_later hbX d2)
        have q3 := Gw.cell (cell_later hbX d3)
        have HX1 := Lib.hid hX
        clear hX
        repeat (go_big_quiet_step ((go_at_call 55; exact Calls.grow_of ((compareEntries_any x y _).mono fun e w' h => ⟨h.1, h.2.below⟩))))
        refine wpGrow_nil (fun V hV => ?_)
        have hbV := bl_trans hb (bl_trans hbX hV)
        clear hV hbX HX1 c0 c1 c2 c3 d0 d1 d2 d3 r0 r1 r2 r3 q0 q1 q2 q3
        go_wp2
        go_ret
        exact ⟨ret_bool (stepB_no (by rw [HL.out]; have := HK.out; omega) HV.out).symm, hbV⟩
    · have hd : decide (i > 0) = false := decide_eq_false (by omega)
      have q : Hid (stepB h = true) := stepB_yes (fun j hj => hg.out j (by omega) (by rw [HL.out] at hj; exact hj))
      go_wp2
      go_ret
      exact ⟨ret_bool q.out.symm, hb⟩
end Go.Proofs.YtfglmghcgoembaaGreatDoor
