/-
  State: its reading, and the helpers of the laws over it. No conditions.
-/
import Derived.Test.YtjnplafphocmiaaDoorMarkT
namespace Go.Proofs.YtjnplafphocmiaaDoor
open Go.RowKit

structure State where
  Name : ByteArray
  Value : Int
  deriving DecidableEq
instance : Inhabited State := ⟨⟨ByteArray.empty, 0⟩⟩
instance : Flat State where
  sz := 2
  pos := by omega
  enc := fun x => [.string (x.Name), .int .i64 (x.Value)]
  len := fun _ => rfl
  one := fun _ u h => by simp at h; rcases h with rfl | rfl <;> rfl
theorem Sl.state {w : World} {A : Option Addr} {n : Nat} {xs : List State} (h : Sl w A n xs) {k : Nat} (hk : k < n) :
    ∃ b o, A = some ⟨b, o, none⟩ ∧ b < w.heap.size ∧ w.cell? ⟨b, o + k * 2, none⟩ = some (.string ((nth xs k).Name)) ∧ w.cell? ⟨b, o + k * 2 + 1, none⟩ = some (.int .i64 ((nth xs k).Value)) := by
  obtain ⟨b, o, rfl, hc⟩ := h.flat hk
  exact ⟨b, o, rfl, h.lt hk, hc 0 _ rfl, hc 1 _ rfl⟩
theorem state_eq {x y : State} : sameB x y = (sameB x.Name y.Name && sameB x.Value y.Value) := by
  cases x; cases y; simp [sameB]
theorem szState_any (x : State) (left : Int) (w : World) (hx : x.Name.size ≤ maxLen) (h0 : 0 ≤ left) (h1 : left ≤ 1048576) :
    Calls Tryd.prog 14 #[.agg #[.string (x.Name), .int .i64 (x.Value)], .int .i64 left] w (SzPost w left ((x.Name.size : Int) ≤ left)) := by
  unfold maxLen at hx
  by_cases hlt : left < x.Name.size
  · go_enter Tryd.func14, Tryd.ntmps14
    go_wp2
    go_ret
    exact ⟨-1, rfl, .inl rfl, bl_alloc (bl_refl _) _⟩
  · go_enter Tryd.func14, Tryd.ntmps14
    go_wp2
    go_ret
    exact ⟨left - x.Name.size, rfl, .inr ⟨by omega, by omega, by first | omega | trivial⟩, bl_alloc (bl_refl _) _⟩

theorem toState_any (x : State) (w : World) :
    Calls Tryd.prog 16 #[.agg #[.string (x.Name), .int .i64 (x.Value)]] w fun e w' => e = .returned (.agg #[.string (x.Name), .int .i64 (x.Value)]) ∧ Below w.heap.size w w' := by
  go_enter Tryd.func16, Tryd.ntmps16
  go_wp2
  go_returns
  exact ⟨rfl, by repeat' (first | exact bl_refl _ | refine bl_alloc ?_ _ | refine bl_set ?_ ?_ _ | (simp; done) | (simp; omega))⟩

set_option maxHeartbeats 1000000 in
theorem eqState_any (x y : State) (w : World) :
    Calls Tryd.prog 20 #[.agg #[.string (x.Name), .int .i64 (x.Value)], .agg #[.string (y.Name), .int .i64 (y.Value)]] w fun e w' => e = .returned (.bool (sameB x y)) ∧ Below w.heap.size w w' := by
  by_cases h0 : (x.Name.toList == y.Name.toList) = true
  rotate_left
  · have h0 : (x.Name.toList == y.Name.toList) = false := by simpa using h0
    have q : Hid (sameB x y = false) := by rw [Hid, sameB_no]; rintro rfl; simp at h0
    go_enter Tryd.func20, Tryd.ntmps20
    go_wp2
    go_returns
    exact ⟨ret_bool q.out.symm, by repeat' (first | exact bl_refl _ | refine bl_alloc ?_ _ | refine bl_set ?_ ?_ _ | (simp; done) | (simp; omega))⟩
  by_cases h1 : (x.Value == y.Value) = true
  rotate_left
  · have h1 : (x.Value == y.Value) = false := by simpa using h1
    have e1 : (x.Value != y.Value) = true := by simp [bne, h1]
    have q : Hid (sameB x y = false) := by rw [Hid, sameB_no]; rintro rfl; simp at h1
    go_enter Tryd.func20, Tryd.ntmps20
    go_wp2
    go_returns
    exact ⟨ret_bool q.out.symm, by repeat' (first | exact bl_refl _ | refine bl_alloc ?_ _ | refine bl_set ?_ ?_ _ | (simp; done) | (simp; omega))⟩
  have e1 : (x.Value != y.Value) = false := by simp [bne, h1]
  have q : Hid (sameB x y = true) := by
    have z0 : x.Name = y.Name := bytes_inj (by simpa using h0)
    have z1 : x.Value = y.Value := by simpa using h1
    rw [Hid, sameB_iff]; cases x; cases y; simp only at z0 z1; subst z0 z1; rfl
  go_enter Tryd.func20, Tryd.ntmps20
  go_wp2
  go_returns
  exact ⟨ret_bool q.out.symm, by repeat' (first | exact bl_refl _ | refine bl_alloc ?_ _ | refine bl_set ?_ ?_ _ | (simp; done) | (simp; omega))⟩

set_option maxHeartbeats 1000000 in
theorem eqStateS_any (A B : Option Addr) (n m c d : Nat) (xs ys : List State) (w : World) (hn : (n : Int) ≤ 9223372036854775807) (hx : Sl w A n xs) (hy : Sl w B m ys) :
    Calls Tryd.prog 36 #[.slice A n c, .slice B m d] w fun e w' => e = .returned (.bool (sameB xs ys)) ∧ Below w.heap.size w w' := by
  have Hx := Lib.hid hx.1
  have Hy := Lib.hid hy.1
  by_cases hnm : n = m
  · subst hnm
    have hd : ((n : Int) != (n : Int)) = false := by simp
    go_enter Tryd.func36, Tryd.ntmps36
    go_wp2
    go_loopw [5] (fun i wr => ∃ k : Nat, k ≤ n ∧ i = .int .i64 k ∧ Below w.heap.size w wr ∧ Hid (xs.take k = ys.take k)) (fun i _ => n - (intOf i).toNat)
    case atStart => exact ⟨0, Nat.zero_le _, rfl, bl_refl _, rfl⟩
    case round =>
      obtain ⟨k, hk, rfl, hb, hg⟩ := hrel
      by_cases hlt : k < n
      · obtain ⟨b, o, rfl, _, c0, c1⟩ := (hx.below hb).state hlt
        obtain ⟨b', o', rfl, _, d0, d1⟩ := (hy.below hb).state hlt
        clear hx hy
        by_cases he : sameB (nth xs k) (nth ys k) = true
        · skip
          go_wp2_with fail
          refine wp_region_grow (by kernel_rfl) (by kernel_rfl) (fun W hW => ?_)
          have e0 := Gw.cell (by rw [hW]; exact c0 : W.cell? _ = _)
          have g0 := Gw.cell (by rw [hW]; exact d0 : W.cell? _ = _)
          have e1 := Gw.cell (by rw [hW]; exact c1 : W.cell? _ = _)
          have g1 := Gw.cell (by rw [hW]; exact d1 : W.cell? _ = _)
          have HW := Lib.hid hW
          clear hW
          repeat (go_big_quiet_step ((go_at_call 20; exact Calls.grow_of (eqState_any _ _ _))))
          refine wpGrow_nil (fun V hV => ?_)
          have hbV : Below w.heap.size w V := bl_trans hb (by rw [← HW.out]; exact hV)
          clear hV e0 g0 e1 g1
          go_wp2
          go_roundw
          case rel => exact ⟨k + 1, by omega, by go_num, hbV, sameB_take (by rw [Hx.out]; exact hlt) (by rw [Hy.out]; exact hlt) hg he⟩
          case measure => simp [intOf]; omega
        · have he : sameB (nth xs k) (nth ys k) = false := by simpa using he
          go_wp2_with fail
          refine wp_region_grow (by kernel_rfl) (by kernel_rfl) (fun W hW => ?_)
          have e0 := Gw.cell (by rw [hW]; exact c0 : W.cell? _ = _)
          have g0 := Gw.cell (by rw [hW]; exact d0 : W.cell? _ = _)
          have e1 := Gw.cell (by rw [hW]; exact c1 : W.cell? _ = _)
          have g1 := Gw.cell (by rw [hW]; exact d1 : W.cell? _ = _)
          have HW := Lib.hid hW
          clear hW
          repeat (go_big_quiet_step ((go_at_call 20; exact Calls.grow_of (eqState_any _ _ _))))
          refine wpGrow_nil (fun V hV => ?_)
          have hbV : Below w.heap.size w V := bl_trans hb (by rw [← HW.out]; exact hV)
          clear hV e0 g0 e1 g1
          go_wp2
          go_ret
          exact ⟨ret_bool (sameB_nth he).symm, hbV⟩
      · obtain rfl : k = n := by omega
        go_wp2
        go_ret
        exact ⟨ret_bool (sameB_all Hx.out Hy.out hg).symm, hb⟩
  · have hd : ((n : Int) != (m : Int)) = true := by simp; omega
    go_enter Tryd.func36, Tryd.ntmps36
    go_wp2
    go_ret
    exact ⟨ret_bool (sameB_len (by rw [Hx.out, Hy.out]; exact hnm)).symm, bl_refl _⟩

def mkState (m : Int) : State := ⟨mkT m, (m + 1)⟩
set_option maxHeartbeats 1000000 in
theorem markStateS_any (A : Option Addr) (n c base : Nat) (k : Int) (xs : List State) (w : World) (hn : n ≤ 1048576) (hk0 : 0 ≤ k) (hk1 : k ≤ 16777216) (ho : Own w base 27 (.slice A n c) xs) :
    Calls Tryd.prog 37 #[.slice A n c, .int .i64 k] w fun e w' => e = .returned (.int .i64 (k + 2 * n)) ∧ Own w' base 27 (.slice A n c) (marks mkState 2 k n) ∧ w.grownBy w' (Value.ownBlock (.slice A n c)) := by
  have HL := Lib.hid ho.sl.1
  go_enter Tryd.func37, Tryd.ntmps37
  go_wp2
  go_loopw [1, 5] (fun u v wr => ∃ (i : Nat) (m : Int) (L : List State), i ≤ n ∧ v = .int .i64 i ∧ u = .int .i64 m ∧ Hid (m = k + 2 * (i : Int)) ∧ 0 ≤ m ∧ m ≤ 16777216 + 2 * (i : Int) ∧ Own wr base 27 (.slice A n c) L ∧ Hid (L = marks mkState 2 k i ++ xs.drop i) ∧ w.grownBy wr (Value.ownBlock (.slice A n c))) (fun _ v _ => n - (intOf v).toNat)
  case atStart => exact ⟨0, k, xs, Nat.zero_le _, rfl, rfl, by rw [Hid]; omega, hk0, by omega, ho, by rw [Hid]; simp [marks], gb_refl _ _⟩
  case round =>
    obtain ⟨i, m, L, hi, rfl, rfl, hm, hm0, hm1, ho, HL2, hg⟩ := hrel
    by_cases hlt : i < n
    · obtain ⟨g, rfl⟩ := ho.form (by omega)
      go_wp2_with fail
      refine (markText_any m _ hm0 (by omega)).mono ?_
      rintro e V ⟨rfl, hV⟩
      have hoV := ho.below hV
      have hgV := gb_trans hg (gb_below hV _)
      clear ho hg
      have d0 : V.cell? ⟨g, i * 2, none⟩ = some (.string ((nth L i).Name)) := hoV.cellAt hlt 0 _ rfl
      have f0 := hoV.frozenAt (i * 2)
      have d1 : V.cell? ⟨g, i * 2 + 1, none⟩ = some (.int .i64 ((nth L i).Value)) := hoV.cellAt hlt 1 _ rfl
      have f1 := hoV.frozenAt (i * 2 + 1)
      go_wp2
      go_roundw
      case rel =>
        refine ⟨i + 1, m + 1 + 1, L.set i (mkState m), by omega, by go_num, rfl, by have := hm.out; rw [Hid]; omega, by omega, by omega, hoV.put hlt (mkState m), marks_put HL.out hlt HL2.out (by rw [hm.out]; rfl), ?_⟩
        repeat' (first | exact hgV | refine gb_set ?_ _ _)
      case measure => simp [intOf]; omega
    · obtain rfl : i = n := by omega
      have e : Hid (L = marks mkState 2 k i) := by rw [Hid, HL2.out, ← HL.out]; simp
      go_wp2
      go_ret
      exact ⟨ret_i64 hm.out, by rw [← e.out]; exact ho, hg⟩

set_option maxHeartbeats 1000000 in
theorem heldStateS_any (A : Option Addr) (n c : Nat) (k : Int) (w : World) (hn : n ≤ 1048576) (hk0 : 0 ≤ k) (hk1 : k ≤ 16777216) (hs : Sl w A n (marks mkState 2 k n)) :
    Calls Tryd.prog 38 #[.slice A n c, .int .i64 k] w fun e w' => e = .returned (.int .i64 (k + 2 * n)) ∧ Below w.heap.size w w' := by
  go_enter Tryd.func38, Tryd.ntmps38
  go_wp2
  go_loopw [1, 5] (fun u v wr => ∃ (i : Nat) (m : Int), i ≤ n ∧ v = .int .i64 i ∧ u = .int .i64 m ∧ Hid (m = k + 2 * (i : Int)) ∧ 0 ≤ m ∧ m ≤ 16777216 + 2 * (i : Int) ∧ Below w.heap.size w wr) (fun _ v _ => n - (intOf v).toNat)
  case atStart => exact ⟨0, k, Nat.zero_le _, rfl, rfl, by rw [Hid]; omega, hk0, by omega, bl_refl _⟩
  case round =>
    obtain ⟨i, m, hi, rfl, rfl, hm, hm0, hm1, hb⟩ := hrel
    by_cases hlt : i < n
    · obtain ⟨b, o, rfl, hbz, c0, c1⟩ := (hs.below hb).state hlt
      have e : nth (marks mkState 2 k n) i = mkState m := by rw [marks_nth hlt, hm.out]; rfl
      rw [e] at c0 c1
      have d0 : wr.cell? ⟨b, o + i * 2, none⟩ = some (.string (mkT m)) := c0
      have d1 : wr.cell? ⟨b, o + i * 2 + 1, none⟩ = some (.int .i64 ((m + 1))) := c1
      clear hs e c0 c1
      go_wp2_with fail
      refine wp_region_grow (by kernel_rfl) (by kernel_rfl) (fun W hW => ?_)
      have g0 := Gw.cell (by rw [hW]; exact d0 : W.cell? _ = _)
      have HW := Lib.hid hW
      clear hW
      repeat (go_big_quiet_step ((go_at_call 59; exact Calls.grow_of (markText_any m _ hm0 (by omega)))))
      refine wpGrow_nil (fun V hV => ?_)
      have hV : Below wr.heap.size wr V := by rw [← HW.out]; exact hV
      have hbV := bl_trans hb hV
      clear g0
      have q0 := cell_later hV d0
      have q1 := cell_later hV d1
      clear hb d0 d1
      go_wp2
      go_roundw
      case rel => exact ⟨i + 1, m + 1 + 1, by omega, by go_num, rfl, by have := hm.out; rw [Hid]; omega, by omega, by omega, hbV⟩
      case measure => simp [intOf]; omega
    · obtain rfl : i = n := by omega
      go_wp2
      go_ret
      exact ⟨ret_i64 hm.out, hb⟩

end Go.Proofs.YtjnplafphocmiaaDoor
