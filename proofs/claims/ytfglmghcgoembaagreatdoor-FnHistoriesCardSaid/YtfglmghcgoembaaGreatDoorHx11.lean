/-
  Several texts in one. No conditions.
-/
import Derived.Test.YtfglmghcgoembaaGreatDoorHx10
import Derived.Test.YtfglmghcgoembaaGreatDoorHx2
import Derived.Test.YtfglmghcgoembaaGreatDoorMem7
import Derived.Test.YtfglmghcgoembaaGreatDoorHx3
namespace Go.Proofs.YtfglmghcgoembaaGreatDoor
open Go.RowKit

theorem ent_text_ne {x y : Entry} (he : ¬ x = y) (h0 : y.Room = x.Room) (h1 : y.Number = x.Number) (h2 : y.Minute = x.Minute) : (y.Text.toList == x.Text.toList) = false := by
  rw [beq_eq_false_iff_ne]
  intro e
  apply he
  have := bytes_inj e
  cases x; cases y
  simp_all
set_option maxHeartbeats 8000000 in
theorem mgBegins_any (a b : List Entry) (A B : Option Addr) (n m c d : Nat) (w : World) (_hn : n ≤ 1048576) (hm : m ≤ 1048576) (hs : Sl w A n a) (ht : Sl w B m b) :
    Calls Tryz.prog 62 #[.slice A n c, .slice B m d] w fun e w' => e = .returned (.bool (begB a b)) ∧ Below w.heap.size w w' := by
  have HA := Lib.hid hs.1
  have HB := Lib.hid ht.1
  by_cases hnm : m < n
  · have hd : (m : Int) < n := by omega
    have hd2 : decide (n > m) = true := decide_eq_true hnm
    have q : Hid (begB a b = false) := begB_no (by rw [HA.out, HB.out]; omega)
    go_enter Tryz.func62, Tryz.ntmps62
    go_wp2
    go_ret
    exact ⟨ret_bool q.out.symm, bl_refl _⟩
  · have hd : ¬ (m : Int) < n := by omega
    have hd2 : decide (n > m) = false := decide_eq_false hnm
    go_enter Tryz.func62, Tryz.ntmps62
    go_wp2
    go_loopw [14] (fun iv wr => ∃ i : Nat, i ≤ n ∧ iv = .int .i64 i ∧ Below w.heap.size w wr ∧ Hid (∀ j, j < i → nth a j = nth b j)) (fun iv _ => n - (intOf iv).toNat)
    case atStart => exact ⟨0, Nat.zero_le _, rfl, bl_refl _, fun j hj => absurd hj (by omega)⟩
    case round =>
      obtain ⟨i, hi, rfl, hb, hg⟩ := hrel
      by_cases hlt : i < n
      · obtain ⟨ba, oa, rfl, hba, c0, c1, c2, c3⟩ := (hs.below hb).entry hlt
        obtain ⟨bb, ob, rfl, hbb, d0, d1, d2, d3⟩ := (ht.below hb).entry (k := i) (by omega)
        clear hs ht
        have h1 : (i : Int) < n := by omega
        have h2 : (i : Int) < m := by omega
        have h2' : i < m := by omega
        obtain ⟨x, hx⟩ : ∃ x, x = nth a i := ⟨_, rfl⟩
        obtain ⟨y, hy⟩ : ∃ y, y = nth b i := ⟨_, rfl⟩
        rw [← hx] at c0 c1 c2 c3
        rw [← hy] at d0 d1 d2 d3
        have HX := Lib.hid hx
        have HY := Lib.hid hy
        clear hx hy
        by_cases he : x = y
        · subst he
          have G : Hid (nth a i = nth b i) := by rw [Hid, ← HX.out, ← HY.out]
          go_wp2_with fail
          refine wp_region_grow (by kernel_rfl) (by kernel_rfl) (fun X hX => ?_)
          have hbX : Below wr.heap.size wr X := by rw [hX]; exact bl_alloc (bl_refl _) _
          have r0 := Gw.cell (show X.cell? ⟨wr.heap.size, 0, none⟩ = some (.int .i64 x.Room) from by rw [hX]; go_simp)
          have r1 := Gw.cell (show X.cell? ⟨wr.heap.size, 1, none⟩ = some (.int .i64 x.Number) from by rw [hX]; go_simp)
          have r2 := Gw.cell (show X.cell? ⟨wr.heap.size, 2, none⟩ = some (.int .i64 x.Minute) from by rw [hX]; go_simp)
          have r3 := Gw.cell (show X.cell? ⟨wr.heap.size, 3, none⟩ = some (.string x.Text) from by rw [hX]; go_simp)
          have q0 := Gw.cell (cell_later hbX d0)
          have q1 := Gw.cell (cell_later hbX d1)
          have q2 := Gw.cell (cell_later hbX d2)
          have q3 := Gw.cell (cell_later hbX d3)
          have HX1 := Lib.hid hX
          clear hX
          repeat (go_big_quiet_step (fail))
          refine wpGrow_nil (fun V hV => ?_)
          have hbV := bl_trans hb (bl_trans hbX hV)
          clear hV hbX HX1 c0 c1 c2 c3 d0 d1 d2 d3 r0 r1 r2 r3 q0 q1 q2 q3
          go_wp2
          go_roundw
          case rel => exact ⟨i + 1, by omega, by go_num, hbV, upto_succ hg G.out⟩
          case measure => simp [intOf]; omega
        · have G : Hid (nth a i ≠ nth b i) := by rw [Hid, ← HX.out, ← HY.out]; exact he
          by_cases h0 : y.Room = x.Room
          · by_cases h1 : y.Number = x.Number
            · by_cases h2 : y.Minute = x.Minute
              · have e3 := ent_text_ne he h0 h1 h2
                have e0 : (y.Room == x.Room) = true := by simpa using h0
                have e1 : (y.Number == x.Number) = true := by simpa using h1
                have e2 : (y.Minute == x.Minute) = true := by simpa using h2
                clear he h0 h1 h2
                go_wp2_with fail
                refine wp_region_grow (by kernel_rfl) (by kernel_rfl) (fun X hX => ?_)
                have hbX : Below wr.heap.size wr X := by rw [hX]; exact bl_alloc (bl_refl _) _
                have r0 := Gw.cell (show X.cell? ⟨wr.heap.size, 0, none⟩ = some (.int .i64 x.Room) from by rw [hX]; go_simp)
                have r1 := Gw.cell (show X.cell? ⟨wr.heap.size, 1, none⟩ = some (.int .i64 x.Number) from by rw [hX]; go_simp)
                have r2 := Gw.cell (show X.cell? ⟨wr.heap.size, 2, none⟩ = some (.int .i64 x.Minute) from by rw [hX]; go_simp)
                have r3 := Gw.cell (show X.cell? ⟨wr.heap.size, 3, none⟩ = some (.string x.Text) from by rw [hX]; go_simp)
                have q0 := Gw.cell (cell_later hbX d0)
                have q1 := Gw.cell (cell_later hbX d1)
                have q2 := Gw.cell (cell_later hbX d2)
                have q3 := Gw.cell (cell_later hbX d3)
                have HX1 := Lib.hid hX
                clear hX
                repeat (go_big_quiet_step (fail))
                refine wpGrow_nil (fun V hV => ?_)
                have hbV := bl_trans hb (bl_trans hbX hV)
                clear hV hbX HX1 c0 c1 c2 c3 d0 d1 d2 d3 r0 r1 r2 r3 q0 q1 q2 q3
                go_wp2
                go_ret
                exact ⟨ret_bool (begB_at (by rw [HA.out]; exact hlt) G.out).symm, hbV⟩
              · have e2 : (y.Minute == x.Minute) = false := by simpa using h2
                have e0 : (y.Room == x.Room) = true := by simpa using h0
                have e1 : (y.Number == x.Number) = true := by simpa using h1
                clear he h0 h1 h2
                go_wp2_with fail
                refine wp_region_grow (by kernel_rfl) (by kernel_rfl) (fun X hX => ?_)
                have hbX : Below wr.heap.size wr X := by rw [hX]; exact bl_alloc (bl_refl _) _
                have r0 := Gw.cell (show X.cell? ⟨wr.heap.size, 0, none⟩ = some (.int .i64 x.Room) from by rw [hX]; go_simp)
                have r1 := Gw.cell (show X.cell? ⟨wr.heap.size, 1, none⟩ = some (.int .i64 x.Number) from by rw [hX]; go_simp)
                have r2 := Gw.cell (show X.cell? ⟨wr.heap.size, 2, none⟩ = some (.int .i64 x.Minute) from by rw [hX]; go_simp)
                have r3 := Gw.cell (show X.cell? ⟨wr.heap.size, 3, none⟩ = some (.string x.Text) from by rw [hX]; go_simp)
                have q0 := Gw.cell (cell_later hbX d0)
                have q1 := Gw.cell (cell_later hbX d1)
                have q2 := Gw.cell (cell_later hbX d2)
                have q3 := Gw.cell (cell_later hbX d3)
                have HX1 := Lib.hid hX
                clear hX
                repeat (go_big_quiet_step (fail))
                refine wpGrow_nil (fun V hV => ?_)
                have hbV := bl_trans hb (bl_trans hbX hV)
                clear hV hbX HX1 c0 c1 c2 c3 d0 d1 d2 d3 r0 r1 r2 r3 q0 q1 q2 q3
                go_wp2
                go_ret
                exact ⟨ret_bool (begB_at (by rw [HA.out]; exact hlt) G.out).symm, hbV⟩
            · have e1 : (y.Number == x.Number) = false := by simpa using h1
              have e0 : (y.Room == x.Room) = true := by simpa using h0
              clear he h0 h1
              go_wp2_with fail
              refine wp_region_grow (by kernel_rfl) (by kernel_rfl) (fun X hX => ?_)
              have hbX : Below wr.heap.size wr X := by rw [hX]; exact bl_alloc (bl_refl _) _
              have r0 := Gw.cell (show X.cell? ⟨wr.heap.size, 0, none⟩ = some (.int .i64 x.Room) from by rw [hX]; go_simp)
              have r1 := Gw.cell (show X.cell? ⟨wr.heap.size, 1, none⟩ = some (.int .i64 x.Number) from by rw [hX]; go_simp)
              have r2 := Gw.cell (show X.cell? ⟨wr.heap.size, 2, none⟩ = some (.int .i64 x.Minute) from by rw [hX]; go_simp)
              have r3 := Gw.cell (show X.cell? ⟨wr.heap.size, 3, none⟩ = some (.string x.Text) from by rw [hX]; go_simp)
              have q0 := Gw.cell (cell_later hbX d0)
              have q1 := Gw.cell (cell_later hbX d1)
              have q2 := Gw.cell (cell_later hbX d2)
              have q3 := Gw.cell (cell_later hbX d3)
              have HX1 := Lib.hid hX
              clear hX
              repeat (go_big_quiet_step (fail))
              refine wpGrow_nil (fun V hV => ?_)
              have hbV := bl_trans hb (bl_trans hbX hV)
              clear hV hbX HX1 c0 c1 c2 c3 d0 d1 d2 d3 r0 r1 r2 r3 q0 q1 q2 q3
              go_wp2
              go_ret
              exact ⟨ret_bool (begB_at (by rw [HA.out]; exact hlt) G.out).symm, hbV⟩
          · have e0 : (y.Room == x.Room) = false := by simpa using h0
            clear he h0
            go_wp2_with fail
            refine wp_region_grow (by kernel_rfl) (by kernel_rfl) (fun X hX => ?_)
            have hbX : Below wr.heap.size wr X := by rw [hX]; exact bl_alloc (bl_refl _) _
            have r0 := Gw.cell (show X.cell? ⟨wr.heap.size, 0, none⟩ = some (.int .i64 x.Room) from by rw [hX]; go_simp)
            have r1 := Gw.cell (show X.cell? ⟨wr.heap.size, 1, none⟩ = some (.int .i64 x.Number) from by rw [hX]; go_simp)
            have r2 := Gw.cell (show X.cell? ⟨wr.heap.size, 2, none⟩ = some (.int .i64 x.Minute) from by rw [hX]; go_simp)
            have r3 := Gw.cell (show X.cell? ⟨wr.heap.size, 3, none⟩ = some (.string x.Text) from by rw [hX]; go_simp)
            have q0 := Gw.cell (cell_later hbX d0)
            have q1 := Gw.cell (cell_later hbX d1)
            have q2 := Gw.cell (cell_later hbX d2)
            have q3 := Gw.cell (cell_later hbX d3)
            have HX1 := Lib.hid hX
            clear hX
            repeat (go_big_quiet_step (fail))
            refine wpGrow_nil (fun V hV => ?_)
            have hbV := bl_trans hb (bl_trans hbX hV)
            clear hV hbX HX1 c0 c1 c2 c3 d0 d1 d2 d3 r0 r1 r2 r3 q0 q1 q2 q3
            go_wp2
            go_ret
            exact ⟨ret_bool (begB_at (by rw [HA.out]; exact hlt) G.out).symm, hbV⟩
      · have hni : ¬ (i : Int) < n := by omega
        have q : Hid (begB a b = true) := begB_all (by rw [HA.out, HB.out]; omega) (fun j hj => hg.out j (by rw [HA.out] at hj; omega))
        go_wp2
        go_ret
        exact ⟨ret_bool q.out.symm, hb⟩
theorem wp_hideX {P : Program} {c : Code} {Q : Exit → Act → World → Prop} {a : Act} {w : World} {R : World → Prop} (hR : R w) (h : ∀ V, R V → c.wp P Q a V) : c.wp P Q a w := h w hR
set_option maxHeartbeats 8000000 in
theorem mgHas_any (l : List Entry) (x : Entry) (A : Option Addr) (n c : Nat) (w : World) (hn : n ≤ 1048576) (hs : Sl w A n l) :
    Calls Tryz.prog 38 #[.slice A n c, .agg #[.int .i64 x.Room, .int .i64 x.Number, .int .i64 x.Minute, .string x.Text]] w fun e w' => e = .returned (.bool (decide (x ∈ l))) ∧ Below w.heap.size w w' := by
  have HL := Lib.hid hs.1
  go_enter Tryz.func38, Tryz.ntmps38
  go_upto_region 1 with fail
  refine wp_hideX (w := w.alloc (.cells #[.int .i64 x.Room, .int .i64 x.Number, .int .i64 x.Minute, .string x.Text] 40)) (R := fun X => Below w.heap.size w X ∧ X.cell? ⟨w.heap.size, 0, none⟩ = some (.int .i64 x.Room) ∧ X.cell? ⟨w.heap.size, 1, none⟩ = some (.int .i64 x.Number) ∧ X.cell? ⟨w.heap.size, 2, none⟩ = some (.int .i64 x.Minute) ∧ X.cell? ⟨w.heap.size, 3, none⟩ = some (.string x.Text) ∧ w.heap.size < X.heap.size) ⟨bl_alloc (bl_refl _) _, by go_simp, by go_simp, by go_simp, by go_simp, by simp⟩ (fun X hX => ?_)
  obtain ⟨hbX, x0, x1, x2, x3, lx⟩ := hX
  go_wp2
  go_loopw [9] (fun iv wr => ∃ i : Nat, i ≤ n ∧ iv = .int .i64 i ∧ Below X.heap.size X wr ∧ Hid (∀ j, j < i → ¬ nth l j = x)) (fun iv _ => n - (intOf iv).toNat)
  case atStart => exact ⟨0, Nat.zero_le _, rfl, bl_refl _, fun j hj => absurd hj (by omega)⟩
  case round =>
    obtain ⟨i, hi, rfl, hb, hg⟩ := hrel
    have hbw := bl_trans hbX hb
    by_cases hlt : i < n
    · obtain ⟨ba, oa, rfl, hba, c0, c1, c2, c3⟩ := (hs.below hbw).entry hlt
      clear hs
      have h1 : (i : Int) < n := by omega
      obtain ⟨y, hy⟩ : ∃ y, y = nth l i := ⟨_, rfl⟩
      rw [← hy] at c0 c1 c2 c3
      have HY := Lib.hid hy
      clear hy
      have z0 := cell_later hb x0
      have z1 := cell_later hb x1
      have z2 := cell_later hb x2
      have z3 := cell_later hb x3
      have lz := World.block_lt_of_cell? _ _ z0
      by_cases he : x = y
      · have HM : Hid (x ∈ l) := by rw [Hid, he, HY.out]; exact nth_mem (by rw [HL.out]; exact hlt)
        subst he
        go_wp2
        go_ret
        exact ⟨ret_bool (decide_eq_true HM.out).symm, bl_trans hbw (by repeat' (first | exact bl_refl _ | refine bl_alloc ?_ _ | refine bl_drew ?_))⟩
      · have G : Hid (¬ nth l i = x) := by rw [Hid, ← HY.out]; exact fun e => he e.symm
        by_cases h0 : y.Room = x.Room
        · by_cases h1 : y.Number = x.Number
          · by_cases h2 : y.Minute = x.Minute
            · have e3 := ent_text_ne he h0 h1 h2
              have e0 : (y.Room == x.Room) = true := by simpa using h0
              have e1 : (y.Number == x.Number) = true := by simpa using h1
              have e2 : (y.Minute == x.Minute) = true := by simpa using h2
              clear he h0 h1 h2
              go_wp2
              go_roundw
              case rel => exact ⟨i + 1, by omega, by go_num, by repeat' (first | exact hb | refine bl_alloc ?_ _ | refine bl_drew ?_), upto_succ hg G.out⟩
              case measure => simp [intOf]; omega
            · have e2 : (y.Minute == x.Minute) = false := by simpa using h2
              have e0 : (y.Room == x.Room) = true := by simpa using h0
              have e1 : (y.Number == x.Number) = true := by simpa using h1
              clear he h0 h1 h2
              go_wp2
              go_roundw
              case rel => exact ⟨i + 1, by omega, by go_num, by repeat' (first | exact hb | refine bl_alloc ?_ _ | refine bl_drew ?_), upto_succ hg G.out⟩
              case measure => simp [intOf]; omega
          · have e1 : (y.Number == x.Number) = false := by simpa using h1
            have e0 : (y.Room == x.Room) = true := by simpa using h0
            clear he h0 h1
            go_wp2
            go_roundw
            case rel => exact ⟨i + 1, by omega, by go_num, by repeat' (first | exact hb | refine bl_alloc ?_ _ | refine bl_drew ?_), upto_succ hg G.out⟩
            case measure => simp [intOf]; omega
        · have e0 : (y.Room == x.Room) = false := by simpa using h0
          clear he h0
          go_wp2
          go_roundw
          case rel => exact ⟨i + 1, by omega, by go_num, by repeat' (first | exact hb | refine bl_alloc ?_ _ | refine bl_drew ?_), upto_succ hg G.out⟩
          case measure => simp [intOf]; omega
    · have hni : ¬ (i : Int) < n := by omega
      have q : Hid (decide (x ∈ l) = false) := decide_eq_false (fun hm => by obtain ⟨j, hj, e⟩ := ix_of hm; rw [HL.out] at hj; exact hg.out j (by omega) e)
      go_wp2
      go_ret
      exact ⟨ret_bool q.out.symm, hbw⟩
set_option maxHeartbeats 4000000 in
theorem mgJoin_any (a b : List Entry) (A B : Option Addr) (n m c d : Nat) (w : World) (hn : n ≤ 1048576) (hm : m ≤ 1048576) (hs : Sl w A n a) (ht : Sl w B m b) :
    Calls Tryz.prog 33 #[.slice A n c, .slice B m d] w (RetOwn2 w 40 (joF a b)) := by
  obtain ⟨v1, e1⟩ : ∃ v, begB b a = v := ⟨_, rfl⟩
  obtain ⟨v2, e2⟩ : ∃ v, begB a b = v := ⟨_, rfl⟩
  have k1 := Lib.hid (show ∀ (W : World), Sl W A n a → Sl W B m b → Calls Tryz.prog 62 #[.slice B m d, .slice A n c] W fun e w' => e = .returned (.bool v1) ∧ Below W.heap.size W w' from fun W hs ht => by have h := mgBegins_any b a B A m n d c W hm hn ht hs; rw [e1] at h; exact h)
  have k2 := Lib.hid (show ∀ (W : World), Sl W A n a → Sl W B m b → Calls Tryz.prog 62 #[.slice A n c, .slice B m d] W fun e w' => e = .returned (.bool v2) ∧ Below W.heap.size W w' from fun W hs ht => by have h := mgBegins_any a b A B n m c d W hn hm hs ht; rw [e2] at h; exact h)
  have E1 := Lib.hid e1
  have E2 := Lib.hid e2
  clear e1 e2
  go_enter Tryz.func33, Tryz.ntmps33
  go_wp2_with fail
  refine (k1.out _ hs ht).mono ?_
  rintro e V1 ⟨rfl, hb1⟩
  have hs1 := hs.below hb1
  have ht1 := ht.below hb1
  cases v1
  · go_wp2_with fail
    refine (k2.out _ hs1 ht1).mono ?_
    rintro e V2 ⟨rfl, hb2'⟩
    have hb12 := bl_trans hb1 hb2'
    have ht2 := ht1.below hb2'
    cases v2
    · go_wp2
      go_ret2
      exact retOwn2_mk (joF_3 E1.out E2.out) (Own.nil _ _ _) hb12
    · go_wp2_with ((at_builtin; refine wpList_appN (w0 := w) rfl (.tmp 15) (.tmp 16) _ _ rfl el_ent (xs := ([] : List Entry)) (ys := b) rfl (Own.built V2 _ hb12.size) (bl_alloc hb12 _) rfl (ht2.below (bl_alloc (bl_refl _) _)) (by omega) ?_; intro A2 c2_ w2 ho2 hb2 hg2))
      go_ret2
      have ho3 : Own w2 w.heap.size 40 (.slice A2 m c2_) b := by simpa using ho2
      exact retOwn2_mk (joF_2 E1.out E2.out) ho3 hb2
  · go_wp2_with ((at_builtin; refine wpList_appN (w0 := w) rfl (.tmp 9) (.tmp 10) _ _ rfl el_ent (xs := ([] : List Entry)) (ys := a) rfl (Own.built V1 _ hb1.size) (bl_alloc hb1 _) rfl (hs1.below (bl_alloc (bl_refl _) _)) (by omega) ?_; intro A2 c2_ w2 ho2 hb2 hg2))
    go_ret2
    have ho3 : Own w2 w.heap.size 40 (.slice A2 n c2_) a := by simpa using ho2
    exact retOwn2_mk (joF_1 E1.out) ho3 hb2
end Go.Proofs.YtfglmghcgoembaaGreatDoor

namespace Go.Proofs.YtfglmghcgoembaaGreatDoor
open Go.RowKit

/-- append(xs, ys...) onto a slice of the call's own, run. -/
theorem run_appN {α : Type} [Flat α] {P : Program} (t ty e : TypeId) (he : Elem P t e (Flat.sz α)) {base : Nat} {w : World} {A B : Option Addr} {n c m d : Nat} {xs ys : List α}
    (hown : Own w base e (.slice A n c) xs) (hbase : base ≤ w.heap.size) (hy : Sl w B m ys) (hlim : n + m ≤ 274877906944) :
    ∃ A' c' w', (Builtin.append_ #[t, t] ty #[.slice A n c, .slice B m d]).run P w = .ok (.slice A' (n + m) c') w' ∧ Own w' base e (.slice A' (n + m) c') (xs ++ ys) ∧ w.grownBy w' (Value.ownBlock (.slice A n c)) := by
  obtain ⟨i, z, h1, h2, h3, h4, h5, h6⟩ := he
  have hn := hown.sl.1
  have hm := hy.1
  have ho1 : w.ownsRow base e (Flat.sz α) (.slice A n c) n (cellsOf xs) := by
    have := hown
    unfold Own at this
    rwa [hn] at this
  have fin : ∀ (news : List Value) (v' : Value) (w' : World), news = cellsOf ys → w'.ownsRow base e (Flat.sz α) v' (n + m) (cellsOf xs ++ news) → ∃ A' c', v' = .slice A' (n + m) c' ∧ Own w' base e (.slice A' (n + m) c') (xs ++ ys) := by
    intro news v' w' hnw hown'
    subst hnw
    have hnx : (xs ++ ys).length = n + m := by simp [hn, hm]
    have hO : Own w' base e v' (xs ++ ys) := by unfold Own; rw [hnx, cellsOf_append]; exact hown'
    obtain ⟨A', c', rfl⟩ := hO.slice
    rw [hnx] at hO
    exact ⟨A', c', by rw [hnx], hO⟩
  cases B with
  | none =>
    obtain ⟨rfl, rfl⟩ := hy.none_len
    have hrun := run_append_of_nil (P := P) w base t ty e i (Flat.sz α) h1 h2 _ n (cellsOf xs) ho1 d
    exact ⟨A, c, w, hrun, by simpa using hown, gb_refl _ _⟩
  | some ad =>
    by_cases hm0 : m = 0
    · subst hm0
      have hys : ys = [] := List.eq_nil_of_length_eq_zero hm
      subst hys
      obtain ⟨v', w', hr, ho, hg, _⟩ := run_append_own (P := P) w base t ty e i z (Flat.sz α) i.bytes h1 h2 h3 h4 rfl h6 Flat.pos _ n (cellsOf xs) ho1 ad 0 d [] (by simp) (by intro j u hu; simp at hu) (by intro u hu; simp at hu) (by unfold maxLen; omega) (by
        have : (n + 0) * i.bytes ≤ (n + 0) * 256 := Nat.mul_le_mul_left _ h5
        omega) hbase
      obtain ⟨A', c', rfl, hO⟩ := fin [] v' w' rfl ho
      exact ⟨A', c', w', hr, hO, hg⟩
    · have hspot : ∃ b o, ad = ⟨b, o, none⟩ := by
        obtain ⟨b, o, cs, hA, _⟩ := hy.2 0 _ (List.getElem?_eq_getElem (by omega))
        injection hA with hA
        exact ⟨b, o, hA⟩
      obtain ⟨b, off, rfl⟩ := hspot
      obtain ⟨v', w', hr, ho, hg, _⟩ := run_append_own (P := P) w base t ty e i z (Flat.sz α) i.bytes h1 h2 h3 h4 rfl h6 Flat.pos _ n (cellsOf xs) ho1 ⟨b, off, none⟩ m d (cellsOf ys) (by rw [cellsOf_length, hm]) (by
        intro j u hu
        rw [addr_add]
        exact hy.cells j u hu) (cellsOf_oneCell ys) (by unfold maxLen; omega) (by
        have : (n + m) * i.bytes ≤ (n + m) * 256 := Nat.mul_le_mul_left _ h5
        omega) hbase
      obtain ⟨A', c', rfl, hO⟩ := fin _ v' w' rfl ho
      exact ⟨A', c', w', hr, hO, hg⟩
/-- At a step of a region that draws its order. -/
theorem step_appN {α : Type} [Flat α] {P : Program} {ops : Array Oper} {o : Oper} {a : Act} {w : World} {K : Act → World → Prop} {Q : Exit → Act → World → Prop} {E : Prop} (hgd : o.guard = none) (s x : Operand) (t e : TypeId)
    (ho : o.op = .call { callee := .builtin .append, args := #[s, x], argTypes := #[t, t] }) (he : Elem P t e (Flat.sz α)) {base : Nat} {A B : Option Addr} {n c m d : Nat} {xs ys : List α} (hs : a.eval s = .slice A n c) (hx : a.eval x = .slice B m d)
    (hown : Own w base e (.slice A n c) xs) (hbase : base ≤ w.heap.size) (hy : Sl w B m ys) (hlim : n + m ≤ 274877906944)
    (h : ∀ A' c' w', Own w' base e (.slice A' (n + m) c') (xs ++ ys) → w.grownBy w' (Value.ownBlock (.slice A n c)) → K (a.put o.dst (.slice A' (n + m) c')) w') :
    if Region.wanted o (yielded ops a.tmps) = true then Oper.wp P o a w K Q else E := by
  have hw : Region.wanted o (yielded ops a.tmps) = true := by simp [Region.wanted, hgd]
  rw [if_pos hw]
  obtain ⟨A', c', w', hr, h1, h2⟩ := run_appN (P := P) t o.type e he hown hbase hy hlim
  unfold Oper.wp execOp
  simp only [ho, resolve, invoke, builtin, Sem.run_bind, Sem.run_pure, Result.andThen_ok, List.map_toArray, List.map_cons, List.map_nil, hs, hx]
  rw [hr]
  exact h A' c' w' h1 h2

end Go.Proofs.YtfglmghcgoembaaGreatDoor
