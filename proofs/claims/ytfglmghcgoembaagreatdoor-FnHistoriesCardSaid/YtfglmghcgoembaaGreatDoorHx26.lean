/-
  Several texts in one. No conditions.
-/
import Derived.Test.YtfglmghcgoembaaGreatDoorHx25
namespace Go.Proofs.YtfglmghcgoembaaGreatDoor
open Go.RowKit

theorem hoN_1 (h : List Entry) : hoN h 1 = 0 := by rw [hoN_succ]; rfl
theorem hoN_y {h : List Entry} {k : Nat} (h0 : 0 < k) (e : ¬ (nth h k).Room = (nth h (k - 1)).Room) : hoN h (k + 1) = hoN h k + 1 := by rw [hoN_succ, decide_eq_true h0, decide_eq_false e]; rfl
theorem hoN_n {h : List Entry} {k : Nat} (e : ¬ 0 < k ∨ (nth h k).Room = (nth h (k - 1)).Room) : hoN h (k + 1) = hoN h k := by
  rw [hoN_succ]
  rcases e with e | e
  · rw [decide_eq_false e]; rfl
  · rw [decide_eq_true e]; simp
set_option maxHeartbeats 8000000 in
theorem specHand_any (h : List Entry) (A : Option Addr) (n c : Nat) (w : World) (hn : n ≤ 1048576) (hs : Sl w A n h) (hv : ∀ x, x ∈ h → x.Text.size ≤ maxLen) :
    Calls Tryz.prog 17 #[.slice A n c] w fun e w' => e = .returned (.tuple #[.int .i64 (hvF h).1, .bool (hvF h).2]) ∧ Below w.heap.size w w' := by
  have HL := Lib.hid hs.1
  obtain ⟨v, ev⟩ : ∃ v, hiB h = v := ⟨_, rfl⟩
  have kg := Lib.hid (show ∀ (W : World), Sl W A n h → Calls Tryz.prog 31 #[.slice A n c] W fun e w' => e = .returned (.bool v) ∧ Below W.heap.size W w' from fun W hs => by have h := mgGood_any h A n c W hn hs hv; rw [ev] at h; exact h)
  have EV := Lib.hid ev
  clear ev hv
  go_enter Tryz.func17, Tryz.ntmps17
  go_wp2_with fail
  refine (kg.out _ hs).mono ?_
  rintro e V1 ⟨rfl, hb1⟩
  cases v
  · go_wp2
    go_ret2
    exact ⟨(by rw [hvF_no EV.out]; first | done | rfl), hb1⟩
  · have hs1 := hs
    go_wp2
    go_loopw [4, 12] (fun cv iv wr => ∃ k q : Nat, k ≤ n ∧ iv = .int .i64 k ∧ cv = .int .i64 q ∧ q ≤ k ∧ Hid (q = hoN h k) ∧ Below w.heap.size w wr) (fun _ iv _ => n - (intOf iv).toNat)
    case atStart => exact ⟨0, 0, Nat.zero_le _, rfl, rfl, Nat.le_refl _, rfl, hb1⟩
    case round =>
      obtain ⟨k, q, hk, rfl, rfl, hq, hg, hb⟩ := hrel
      by_cases hlt : k < n
      · have hs2 := hs.below hb
        obtain ⟨b, o, rfl, hbz, d0, d1, d2, d3⟩ := hs2.entry hlt
        clear hs
        have hkd : (k : Int) < n := by omega
        obtain ⟨x, hx⟩ : ∃ x, x = nth h k := ⟨_, rfl⟩
        rw [← hx] at d0 d1 d2 d3
        have HX := Lib.hid hx
        clear hx
        have hwc : IntKind.i64.wrap ((q : Int) + 1) = (q : Int) + 1 := IntWalk.i64_in _ (by omega)
        have hwk : IntKind.i64.wrap ((k : Int) + 1) = (k : Int) + 1 := IntWalk.i64_in _ (by omega)
        by_cases hk0 : 0 < k
        · have h2 := hs2.flat2 (k := k - 1) (by omega)
          have p0 : wr.cell? ⟨b, o + (k - 1) * 4, none⟩ = some (.int .i64 (nth h (k - 1)).Room) := h2 0 _ rfl
          obtain ⟨p, hp⟩ : ∃ p, p = nth h (k - 1) := ⟨_, rfl⟩
          have HP := Lib.hid hp
          rw [← hp] at p0
          clear hp h2 hs2
          have hkd2 : decide ((k : Int) > 0) = true := by simpa using hk0
          have hkd3 : decide (0 < k) = true := decide_eq_true hk0
          have i2 : (0 : Int) ≤ ((k - 1 : Nat) : Int) := by omega
          have i4 : ((k - 1 : Nat) : Int) < n := by omega
          have i5 : k - 1 < n := by omega
          have hw2 : IntKind.i64.wrap ((k : Int) - 1) = ((k - 1 : Nat) : Int) := by rw [IntWalk.i64_in _ (by omega)]; omega
          have GK := Lib.hid hk0
          by_cases he : p.Room = x.Room
          · have e1 : (p.Room != x.Room) = false := by simpa using he
            have G : Hid ((nth h k).Room = (nth h (k - 1)).Room) := by rw [Hid, ← HX.out, ← HP.out]; exact he.symm
            clear he hk0
            go_wp2_with fail
            refine wp_region_grow (by kernel_rfl) (by kernel_rfl) (fun X hX => ?_)
            have hbX : Below wr.heap.size wr X := by rw [hX]; exact bl_alloc (bl_refl _) _
            have r0 := Gw.cell (show X.cell? ⟨wr.heap.size, 0, none⟩ = some (.int .i64 x.Room) from by rw [hX]; go_simp)
            have r1 := Gw.cell (show X.cell? ⟨wr.heap.size, 1, none⟩ = some (.int .i64 x.Number) from by rw [hX]; go_simp)
            have r2 := Gw.cell (show X.cell? ⟨wr.heap.size, 2, none⟩ = some (.int .i64 x.Minute) from by rw [hX]; go_simp)
            have r3 := Gw.cell (show X.cell? ⟨wr.heap.size, 3, none⟩ = some (.string x.Text) from by rw [hX]; go_simp)
            have q0 := Gw.cell (cell_later hbX p0)
            have HX1 := Lib.hid hX
            clear hX
            repeat (go_big_quiet_step (fail))
            refine wpGrow_nil (fun V hV => ?_)
            have hbV := bl_trans hb (bl_trans hbX hV)
            clear hV hbX HX1 q0 r0 r1 r2 r3
            go_wp2
            go_roundw
            case rel => exact ⟨k + 1, q, by omega, by go_num, by go_num, by omega, by rw [Hid, hoN_n (.inr G.out)]; exact hg.out, hbV⟩
            case measure => simp [intOf]; omega
          · have e1 : (p.Room != x.Room) = true := by simpa using he
            have G : Hid (¬ (nth h k).Room = (nth h (k - 1)).Room) := by rw [Hid, ← HX.out, ← HP.out]; exact fun e => he e.symm
            clear he hk0
            go_wp2_with fail
            refine wp_region_grow (by kernel_rfl) (by kernel_rfl) (fun X hX => ?_)
            have hbX : Below wr.heap.size wr X := by rw [hX]; exact bl_alloc (bl_refl _) _
            have r0 := Gw.cell (show X.cell? ⟨wr.heap.size, 0, none⟩ = some (.int .i64 x.Room) from by rw [hX]; go_simp)
            have r1 := Gw.cell (show X.cell? ⟨wr.heap.size, 1, none⟩ = some (.int .i64 x.Number) from by rw [hX]; go_simp)
            have r2 := Gw.cell (show X.cell? ⟨wr.heap.size, 2, none⟩ = some (.int .i64 x.Minute) from by rw [hX]; go_simp)
            have r3 := Gw.cell (show X.cell? ⟨wr.heap.size, 3, none⟩ = some (.string x.Text) from by rw [hX]; go_simp)
            have q0 := Gw.cell (cell_later hbX p0)
            have HX1 := Lib.hid hX
            clear hX
            repeat (go_big_quiet_step (fail))
            refine wpGrow_nil (fun V hV => ?_)
            have hbV := bl_trans hb (bl_trans hbX hV)
            clear hV hbX HX1 q0 r0 r1 r2 r3
            go_wp2
            go_roundw
            case rel => exact ⟨k + 1, q + 1, by omega, by go_num, by go_num, by omega, by rw [Hid, hoN_y GK.out G.out, ← hg.out], hbV⟩
            case measure => simp [intOf]; omega
        · have hkd2 : decide ((k : Int) > 0) = false := by simp; omega
          have hkd3 : decide (0 < k) = false := decide_eq_false hk0
          have GK := Lib.hid hk0
          clear hk0 hs2
          go_wp2_with fail
          refine wp_region_grow (by kernel_rfl) (by kernel_rfl) (fun X hX => ?_)
          have hbX : Below wr.heap.size wr X := by rw [hX]; exact bl_alloc (bl_refl _) _
          have r0 := Gw.cell (show X.cell? ⟨wr.heap.size, 0, none⟩ = some (.int .i64 x.Room) from by rw [hX]; go_simp)
          have r1 := Gw.cell (show X.cell? ⟨wr.heap.size, 1, none⟩ = some (.int .i64 x.Number) from by rw [hX]; go_simp)
          have r2 := Gw.cell (show X.cell? ⟨wr.heap.size, 2, none⟩ = some (.int .i64 x.Minute) from by rw [hX]; go_simp)
          have r3 := Gw.cell (show X.cell? ⟨wr.heap.size, 3, none⟩ = some (.string x.Text) from by rw [hX]; go_simp)
          have HX1 := Lib.hid hX
          clear hX
          repeat (go_big_quiet_step (fail))
          refine wpGrow_nil (fun V hV => ?_)
          have hbV := bl_trans hb (bl_trans hbX hV)
          clear hV hbX HX1 r0 r1 r2 r3
          go_wp2
          go_roundw
          case rel => exact ⟨k + 1, q, by omega, by go_num, by go_num, by omega, by rw [Hid, hoN_n (.inl GK.out)]; exact hg.out, hbV⟩
          case measure => simp [intOf]; omega
      · have hni : ¬ (k : Int) < n := by omega
        have hf : Hid (q = hoN h h.length) := by rw [Hid, hg.out, HL.out]; congr 1; omega
        go_wp2
        go_ret2
        exact ⟨(by rw [hvF_yes EV.out, hf.out]; first | done | rfl), hb⟩
set_option maxHeartbeats 8000000 in
theorem implHand_any (h : List Entry) (A : Option Addr) (n c : Nat) (w : World) (hn : n ≤ 1048576) (hs : Sl w A n h) (hv : ∀ x, x ∈ h → x.Text.size ≤ maxLen) :
    Calls Tryz.prog 16 #[.slice A n c] w fun e w' => e = .returned (.tuple #[.int .i64 (hvF h).1, .bool (hvF h).2]) ∧ Below w.heap.size w w' := by
  have HL := Lib.hid hs.1
  obtain ⟨v, ev⟩ : ∃ v, hiB h = v := ⟨_, rfl⟩
  have kg := Lib.hid (show ∀ (W : World), Sl W A n h → Calls Tryz.prog 27 #[.slice A n c] W fun e w' => e = .returned (.bool v) ∧ Below W.heap.size W w' from fun W hs => by have h := isHistory_any h A n c W hn hs hv; rw [ev] at h; exact h)
  have EV := Lib.hid ev
  clear ev hv
  go_enter Tryz.func16, Tryz.ntmps16
  go_wp2_with fail
  refine (kg.out _ hs).mono ?_
  rintro e V1 ⟨rfl, hb1⟩
  cases v
  · go_wp2
    go_ret2
    exact ⟨(by rw [hvF_no EV.out]; first | done | rfl), hb1⟩
  · go_wp2
    go_loopw [4, 5] (fun cv iv wr => ∃ k q : Nat, 1 ≤ k ∧ (k ≤ n ∨ k = 1) ∧ iv = .int .i64 k ∧ cv = .int .i64 q ∧ q ≤ k ∧ Hid (q = hoN h k) ∧ Below w.heap.size w wr) (fun _ iv _ => n - (intOf iv).toNat)
    case atStart => exact ⟨1, 0, by omega, .inr rfl, rfl, rfl, by omega, (hoN_1 h).symm, hb1⟩
    case round =>
      obtain ⟨k, q, hk1, hk, rfl, rfl, hq, hg, hb⟩ := hrel
      by_cases hlt : k < n
      · have hs2 := hs.below hb
        obtain ⟨b, o, rfl, hbz, d0, d1, d2, d3⟩ := hs2.entry hlt
        clear hs
        have hkd : (k : Int) < n := by omega
        have h2 := hs2.flat2 (k := k - 1) (by omega)
        have p0 : wr.cell? ⟨b, o + (k - 1) * 4, none⟩ = some (.int .i64 (nth h (k - 1)).Room) := h2 0 _ rfl
        obtain ⟨x, hx⟩ : ∃ x, x = nth h k := ⟨_, rfl⟩
        rw [← hx] at d0 d1 d2 d3
        have HX := Lib.hid hx
        clear hx d1 d2 d3
        obtain ⟨p, hp⟩ : ∃ p, p = nth h (k - 1) := ⟨_, rfl⟩
        have HP := Lib.hid hp
        rw [← hp] at p0
        clear hp h2 hs2
        have i2 : (0 : Int) ≤ ((k - 1 : Nat) : Int) := by omega
        have i4 : ((k - 1 : Nat) : Int) < n := by omega
        have i5 : k - 1 < n := by omega
        have hw2 : IntKind.i64.wrap ((k : Int) - 1) = ((k - 1 : Nat) : Int) := by rw [IntWalk.i64_in _ (by omega)]; omega
        have hwc : IntKind.i64.wrap ((q : Int) + 1) = (q : Int) + 1 := IntWalk.i64_in _ (by omega)
        have hwk : IntKind.i64.wrap ((k : Int) + 1) = (k : Int) + 1 := IntWalk.i64_in _ (by omega)
        by_cases he : x.Room = p.Room
        · have e1 : (x.Room != p.Room) = false := by simpa using he
          have G : Hid ((nth h k).Room = (nth h (k - 1)).Room) := by rw [Hid, ← HX.out, ← HP.out]; exact he
          clear he
          go_wp2_with fail
          refine wp_region_grow (by kernel_rfl) (by kernel_rfl) (fun X hX => ?_)
          have hbX : Below wr.heap.size wr X := by rw [hX]; exact bl_refl _
          have q0 := Gw.cell (cell_later hbX d0)
          have q1 := Gw.cell (cell_later hbX p0)
          have HX1 := Lib.hid hX
          clear hX
          repeat (go_big_quiet_step (fail))
          refine wpGrow_nil (fun V hV => ?_)
          have hbV := bl_trans hb (bl_trans hbX hV)
          clear hV hbX HX1 q0 q1
          go_wp2
          go_roundw
          case rel => exact ⟨k + 1, q, by omega, by omega, by go_num, by go_num, by omega, by rw [Hid, hoN_n (.inr G.out)]; exact hg.out, hbV⟩
          case measure => simp [intOf]; omega
        · have e1 : (x.Room != p.Room) = true := by simpa using he
          have G : Hid (¬ (nth h k).Room = (nth h (k - 1)).Room) := by rw [Hid, ← HX.out, ← HP.out]; exact he
          clear he
          go_wp2_with fail
          refine wp_region_grow (by kernel_rfl) (by kernel_rfl) (fun X hX => ?_)
          have hbX : Below wr.heap.size wr X := by rw [hX]; exact bl_refl _
          have q0 := Gw.cell (cell_later hbX d0)
          have q1 := Gw.cell (cell_later hbX p0)
          have HX1 := Lib.hid hX
          clear hX
          repeat (go_big_quiet_step (fail))
          refine wpGrow_nil (fun V hV => ?_)
          have hbV := bl_trans hb (bl_trans hbX hV)
          clear hV hbX HX1 q0 q1
          go_wp2
          go_roundw
          case rel => exact ⟨k + 1, q + 1, by omega, by omega, by go_num, by go_num, by omega, by rw [Hid, hoN_y (by omega) G.out, ← hg.out], hbV⟩
          case measure => simp [intOf]; omega
      · have hni : ¬ (k : Int) < n := by omega
        have hf : Hid (q = hoN h h.length) := by rw [Hid, hg.out, HL.out]; rcases hk with e | e; congr 1; omega; by_cases e2 : n = 0; rw [e, e2, hoN_1]; rfl; congr 1; omega
        go_wp2
        go_ret2
        exact ⟨(by rw [hvF_yes EV.out, hf.out]; first | done | rfl), hb⟩
end Go.Proofs.YtfglmghcgoembaaGreatDoor

namespace Go.Proofs.YtfglmghcgoembaaGreatDoor
open Go.RowKit

set_option maxHeartbeats 8000000 in
theorem indexE_any (l : List Entry) (x : Entry) (A : Option Addr) (n c : Nat) (w : World) (hn : n ≤ 1048576) (hs : Sl w A n l) :
    Calls Tryz.prog 63 #[.slice A n c, .agg #[.int .i64 x.Room, .int .i64 x.Number, .int .i64 x.Minute, .string x.Text]] w fun e w' => ∃ i : Int, e = .returned (.int .i64 i) ∧ decide (0 ≤ i) = decide (x ∈ l) ∧ Below w.heap.size w w' := by
  have HL := Lib.hid hs.1
  go_enter Tryz.func63, Tryz.ntmps63
  go_upto_region 1 with fail
  refine wp_hideX (w := w.alloc (.cells #[.int .i64 x.Room, .int .i64 x.Number, .int .i64 x.Minute, .string x.Text] 40)) (R := fun X => Below w.heap.size w X ∧ X.cell? ⟨w.heap.size, 0, none⟩ = some (.int .i64 x.Room) ∧ X.cell? ⟨w.heap.size, 1, none⟩ = some (.int .i64 x.Number) ∧ X.cell? ⟨w.heap.size, 2, none⟩ = some (.int .i64 x.Minute) ∧ X.cell? ⟨w.heap.size, 3, none⟩ = some (.string x.Text) ∧ w.heap.size < X.heap.size) ⟨bl_alloc (bl_refl _) _, by go_simp, by go_simp, by go_simp, by go_simp, by simp⟩ (fun X hX => ?_)
  obtain ⟨hbX0, x0, x1, x2, x3, lx⟩ := hX
  go_wp2
  go_loopw [8] (fun iv wr => ∃ i : Nat, i ≤ n ∧ iv = .int .i64 i ∧ Below X.heap.size X wr ∧ Hid (∀ j, j < i → ¬ nth l j = x)) (fun iv _ => n - (intOf iv).toNat)
  case atStart => exact ⟨0, Nat.zero_le _, rfl, bl_refl _, fun j hj => absurd hj (by omega)⟩
  case round =>
    obtain ⟨i, hi, rfl, hb, hg⟩ := hrel
    have hbw := bl_trans hbX0 hb
    by_cases hlt : i < n
    · obtain ⟨ba, oa, rfl, hba, c0, c1, c2, c3⟩ := (hs.below hbw).entry hlt
      clear hs
      have hid1 : (i : Int) < n := by omega
      obtain ⟨y, hy⟩ : ∃ y, y = nth l i := ⟨_, rfl⟩
      rw [← hy] at c0 c1 c2 c3
      have HY := Lib.hid hy
      clear hy
      have z0 := cell_later hb x0
      have z1 := cell_later hb x1
      have z2 := cell_later hb x2
      have z3 := cell_later hb x3
      have lz := World.block_lt_of_cell? _ _ z0
      by_cases he : y = x
      · have HM : Hid (x ∈ l) := by rw [Hid, ← he, HY.out]; exact nth_mem (by rw [HL.out]; exact hlt)
        subst he
        go_wp2_with fail
        refine wp_region_grow (by kernel_rfl) (by kernel_rfl) (fun Z hZ => ?_)
        have hbZ : Below wr.heap.size wr Z := by rw [hZ]; exact bl_refl _
        have r0 := Gw.cell (cell_later hbZ c0)
        have r1 := Gw.cell (cell_later hbZ c1)
        have r2 := Gw.cell (cell_later hbZ c2)
        have r3 := Gw.cell (cell_later hbZ c3)
        have q0 := Gw.cell (cell_later hbZ z0)
        have q1 := Gw.cell (cell_later hbZ z1)
        have q2 := Gw.cell (cell_later hbZ z2)
        have q3 := Gw.cell (cell_later hbZ z3)
        have HZ1 := Lib.hid hZ
        clear hZ
        repeat (go_big_quiet_step (fail))
        refine wpGrow_nil (fun V hV => ?_)
        have hbV := bl_trans hb (bl_trans hbZ hV)
        clear hV hbZ HZ1 c0 c1 c2 c3 z0 z1 z2 z3 r0 r1 r2 r3 q0 q1 q2 q3
        go_wp2
        go_ret
        exact ⟨(i : Int), rfl, by rw [decide_eq_true HM.out]; exact decide_eq_true (by omega), bl_trans hbX0 hbV⟩
      · have G : Hid (¬ nth l i = x) := by rw [Hid, ← HY.out]; exact he
        by_cases h0 : x.Room = y.Room
        · by_cases h1 : x.Number = y.Number
          · by_cases h2 : x.Minute = y.Minute
            · have e3 := ent_text_ne he h0 h1 h2
              have e0 : (x.Room == y.Room) = true := by simpa using h0
              have e1 : (x.Number == y.Number) = true := by simpa using h1
              have e2 : (x.Minute == y.Minute) = true := by simpa using h2
              clear he h0 h1 h2
              go_wp2_with fail
              refine wp_region_grow (by kernel_rfl) (by kernel_rfl) (fun Z hZ => ?_)
              have hbZ : Below wr.heap.size wr Z := by rw [hZ]; exact bl_refl _
              have r0 := Gw.cell (cell_later hbZ c0)
              have r1 := Gw.cell (cell_later hbZ c1)
              have r2 := Gw.cell (cell_later hbZ c2)
              have r3 := Gw.cell (cell_later hbZ c3)
              have q0 := Gw.cell (cell_later hbZ z0)
              have q1 := Gw.cell (cell_later hbZ z1)
              have q2 := Gw.cell (cell_later hbZ z2)
              have q3 := Gw.cell (cell_later hbZ z3)
              have HZ1 := Lib.hid hZ
              clear hZ
              repeat (go_big_quiet_step (fail))
              refine wpGrow_nil (fun V hV => ?_)
              have hbV := bl_trans hb (bl_trans hbZ hV)
              clear hV hbZ HZ1 c0 c1 c2 c3 z0 z1 z2 z3 r0 r1 r2 r3 q0 q1 q2 q3
              go_wp2
              go_roundw
              case rel => exact ⟨i + 1, by omega, by go_num, hbV, upto_succ hg G.out⟩
              case measure => simp [intOf]; omega
            · have e2 : (x.Minute == y.Minute) = false := by simpa using h2
              have e0 : (x.Room == y.Room) = true := by simpa using h0
              have e1 : (x.Number == y.Number) = true := by simpa using h1
              clear he h0 h1 h2
              go_wp2_with fail
              refine wp_region_grow (by kernel_rfl) (by kernel_rfl) (fun Z hZ => ?_)
              have hbZ : Below wr.heap.size wr Z := by rw [hZ]; exact bl_refl _
              have r0 := Gw.cell (cell_later hbZ c0)
              have r1 := Gw.cell (cell_later hbZ c1)
              have r2 := Gw.cell (cell_later hbZ c2)
              have r3 := Gw.cell (cell_later hbZ c3)
              have q0 := Gw.cell (cell_later hbZ z0)
              have q1 := Gw.cell (cell_later hbZ z1)
              have q2 := Gw.cell (cell_later hbZ z2)
              have q3 := Gw.cell (cell_later hbZ z3)
              have HZ1 := Lib.hid hZ
              clear hZ
              repeat (go_big_quiet_step (fail))
              refine wpGrow_nil (fun V hV => ?_)
              have hbV := bl_trans hb (bl_trans hbZ hV)
              clear hV hbZ HZ1 c0 c1 c2 c3 z0 z1 z2 z3 r0 r1 r2 r3 q0 q1 q2 q3
              go_wp2
              go_roundw
              case rel => exact ⟨i + 1, by omega, by go_num, hbV, upto_succ hg G.out⟩
              case measure => simp [intOf]; omega
          · have e1 : (x.Number == y.Number) = false := by simpa using h1
            have e0 : (x.Room == y.Room) = true := by simpa using h0
            clear he h0 h1
            go_wp2_with fail
            refine wp_region_grow (by kernel_rfl) (by kernel_rfl) (fun Z hZ => ?_)
            have hbZ : Below wr.heap.size wr Z := by rw [hZ]; exact bl_refl _
            have r0 := Gw.cell (cell_later hbZ c0)
            have r1 := Gw.cell (cell_later hbZ c1)
            have r2 := Gw.cell (cell_later hbZ c2)
            have r3 := Gw.cell (cell_later hbZ c3)
            have q0 := Gw.cell (cell_later hbZ z0)
            have q1 := Gw.cell (cell_later hbZ z1)
            have q2 := Gw.cell (cell_later hbZ z2)
            have q3 := Gw.cell (cell_later hbZ z3)
            have HZ1 := Lib.hid hZ
            clear hZ
            repeat (go_big_quiet_step (fail))
            refine wpGrow_nil (fun V hV => ?_)
            have hbV := bl_trans hb (bl_trans hbZ hV)
            clear hV hbZ HZ1 c0 c1 c2 c3 z0 z1 z2 z3 r0 r1 r2 r3 q0 q1 q2 q3
            go_wp2
            go_roundw
            case rel => exact ⟨i + 1, by omega, by go_num, hbV, upto_succ hg G.out⟩
            case measure => simp [intOf]; omega
        · have e0 : (x.Room == y.Room) = false := by simpa using h0
          clear he h0
          go_wp2_with fail
          refine wp_region_grow (by kernel_rfl) (by kernel_rfl) (fun Z hZ => ?_)
          have hbZ : Below wr.heap.size wr Z := by rw [hZ]; exact bl_refl _
          have r0 := Gw.cell (cell_later hbZ c0)
          have r1 := Gw.cell (cell_later hbZ c1)
          have r2 := Gw.cell (cell_later hbZ c2)
          have r3 := Gw.cell (cell_later hbZ c3)
          have q0 := Gw.cell (cell_later hbZ z0)
          have q1 := Gw.cell (cell_later hbZ z1)
          have q2 := Gw.cell (cell_later hbZ z2)
          have q3 := Gw.cell (cell_later hbZ z3)
          have HZ1 := Lib.hid hZ
          clear hZ
          repeat (go_big_quiet_step (fail))
          refine wpGrow_nil (fun V hV => ?_)
          have hbV := bl_trans hb (bl_trans hbZ hV)
          clear hV hbZ HZ1 c0 c1 c2 c3 z0 z1 z2 z3 r0 r1 r2 r3 q0 q1 q2 q3
          go_wp2
          go_roundw
          case rel => exact ⟨i + 1, by omega, by go_num, hbV, upto_succ hg G.out⟩
          case measure => simp [intOf]; omega
    · have hni : ¬ (i : Int) < n := by omega
      have q : Hid (decide (x ∈ l) = false) := decide_eq_false (fun hm => by obtain ⟨j, hj, e⟩ := ix_of hm; rw [HL.out] at hj; exact hg.out j (by omega) e)
      go_wp2
      go_ret
      exact ⟨-1, rfl, (by first | (rw [q.out]; rfl) | exact ⟨fun h => absurd h (by decide), fun h => absurd h (of_decide_eq_false q.out)⟩), hbw⟩
set_option maxHeartbeats 4000000 in
theorem containsE_any (l : List Entry) (x : Entry) (A : Option Addr) (n c : Nat) (w : World) (hn : n ≤ 1048576) (hs : Sl w A n l) :
    Calls Tryz.prog 37 #[.slice A n c, .agg #[.int .i64 x.Room, .int .i64 x.Number, .int .i64 x.Minute, .string x.Text]] w fun e w' => e = .returned (.bool (decide (x ∈ l))) ∧ Below w.heap.size w w' := by
  go_enter Tryz.func37, Tryz.ntmps37
  go_wp2_with fail
  refine (indexE_any l x A n c _ hn (hs.below (bl_alloc (bl_refl _) _))).mono ?_
  rintro e V1 ⟨i, rfl, hi, hb1⟩
  have hi2 : decide (i ≥ 0) = decide (x ∈ l) := hi
  obtain ⟨v, hv⟩ : ∃ v, decide (x ∈ l) = v := ⟨_, rfl⟩
  rw [hv] at hi hi2
  have HV := Lib.hid hv
  clear hv
  go_wp2
  go_ret
  exact ⟨ret_bool (by rw [HV.out]), bl_trans (bl_alloc (bl_refl _) _) hb1⟩
end Go.Proofs.YtfglmghcgoembaaGreatDoor
