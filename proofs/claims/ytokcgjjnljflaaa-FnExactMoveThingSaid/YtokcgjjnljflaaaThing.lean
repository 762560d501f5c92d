/-
  Thing: its reading, and the helpers of the laws over it. No conditions.
-/
import Derived.Test.YtokcgjjnljflaaaMarkT
namespace Go.Proofs.Ytokcgjjnljflaaa
open Go.RowKit

structure Thing where
  Name : ByteArray
  Count : Int
  Day : Int
  deriving DecidableEq
instance : Inhabited Thing := ⟨⟨ByteArray.empty, 0, 0⟩⟩
instance : Flat Thing where
  sz := 3
  pos := by omega
  enc := fun x => [.string (x.Name), .int .i64 (x.Count), .int .i64 (x.Day)]
  len := fun _ => rfl
  one := fun _ u h => by simp at h; rcases h with rfl | rfl | rfl <;> rfl
theorem Sl.thing {w : World} {A : Option Addr} {n : Nat} {xs : List Thing} (h : Sl w A n xs) {k : Nat} (hk : k < n) :
    ∃ b o, A = some ⟨b, o, none⟩ ∧ b < w.heap.size ∧ w.cell? ⟨b, o + k * 3, none⟩ = some (.string ((nth xs k).Name)) ∧ w.cell? ⟨b, o + k * 3 + 1, none⟩ = some (.int .i64 ((nth xs k).Count)) ∧ w.cell? ⟨b, o + k * 3 + 2, none⟩ = some (.int .i64 ((nth xs k).Day)) := by
  obtain ⟨b, o, rfl, hc⟩ := h.flat hk
  exact ⟨b, o, rfl, h.lt hk, hc 0 _ rfl, hc 1 _ rfl, hc 2 _ rfl⟩
theorem thing_eq {x y : Thing} : sameB x y = (sameB x.Name y.Name && sameB x.Count y.Count && sameB x.Day y.Day) := by
  cases x; cases y; simp [sameB, Bool.and_assoc]
theorem szThing_any (x : Thing) (left : Int) (w : World) (hx : x.Name.size ≤ maxLen) (h0 : 0 ≤ left) (h1 : left ≤ 1048576) :
    Calls Try.prog 35 #[.agg #[.string (x.Name), .int .i64 (x.Count), .int .i64 (x.Day)], .int .i64 left] w (SzPost w left ((x.Name.size : Int) ≤ left)) := by
  unfold maxLen at hx
  by_cases hlt : left < x.Name.size
  · go_enter Try.func35, Try.ntmps35
    go_wp2
    go_ret
    exact ⟨-1, rfl, .inl rfl, bl_alloc (bl_refl _) _⟩
  · go_enter Try.func35, Try.ntmps35
    go_wp2
    go_ret
    exact ⟨left - x.Name.size, rfl, .inr ⟨by omega, by omega, by first | omega | trivial⟩, bl_alloc (bl_refl _) _⟩

set_option maxHeartbeats 1000000 in
theorem szThingS_any (A : Option Addr) (n c : Nat) (xs : List Thing) (left : Int) (w : World) (hn : (n : Int) ≤ 9223372036854775807) (hs : Sl w A n xs) (hv : ∀ x, x ∈ xs → x.Name.size ≤ maxLen) (h0 : 0 ≤ left) (h1 : left ≤ 1048576) :
    Calls Try.prog 13 #[.slice A n c, .int .i64 left] w (SzPost w left ((n : Int) ≤ left ∧ ∀ x, x ∈ xs → (x.Name.size : Int) ≤ left)) := by
  have HL := Lib.hid hs.1
  have HV := Lib.hid hv
  clear hv
  by_cases hlt : left < n
  · go_enter Try.func13, Try.ntmps13
    go_wp2
    go_ret
    exact ⟨-1, rfl, .inl rfl, bl_refl _⟩
  have hle : (n : Int) ≤ left := by omega
  go_enter Try.func13, Try.ntmps13
  go_wp2
  go_loopw [1, 5] (fun u v wr => ∃ (k : Nat) (r : Int), k ≤ n ∧ v = .int .i64 k ∧ u = .int .i64 r ∧ 0 ≤ r ∧ r ≤ left ∧ Hid (∀ x, x ∈ xs.take k → (x.Name.size : Int) ≤ left) ∧ Below w.heap.size w wr) (fun _ v _ => n - (intOf v).toNat)
  case atStart => exact ⟨0, left - n, Nat.zero_le _, rfl, rfl, by omega, by omega, fun x hx => by simp at hx, bl_refl _⟩
  case round =>
    obtain ⟨k, r, hk, rfl, rfl, hr0, hr1, hg, hb⟩ := hrel
    by_cases hkn : k < n
    · have hkx : Hid (k < xs.length) := by rw [Hid, HL.out]; exact hkn
      obtain ⟨b, o, rfl, hbz, c0, c1, c2⟩ := (hs.below hb).thing hkn
      clear hs
      have hm : nth xs k ∈ xs := by rw [nth_get (List.getElem?_eq_getElem hkx.out)]; exact List.getElem_mem hkx.out
      have hm2 := Lib.hid hm
      clear hm
      go_wp2_with fail
      refine (szThing_any (nth xs k) r _ (HV.out _ hm2.out) hr0 (by omega)).mono ?_
      rintro e V ⟨q, rfl, hq, hV⟩
      clear c0 c1 c2
      rcases hq with rfl | ⟨q0, q1, q2⟩
      · go_wp2
        go_ret
        exact ⟨-1, rfl, .inl rfl, bl_trans hb hV⟩
      · go_wp2
        go_roundw
        case rel =>
          refine ⟨k + 1, q, by omega, by go_num, rfl, q0, by omega, ?_, bl_trans hb hV⟩
          rw [Hid, take_succ hkx.out]
          intro x hx
          rcases List.mem_append.1 hx with hx | hx
          · exact hg.out x hx
          · simp at hx; subst hx; omega
        case measure => simp [intOf]; omega
    · obtain rfl : k = n := by omega
      go_wp2
      go_ret
      exact ⟨r, rfl, .inr ⟨hr0, hr1, hle, fun x hx => hg.out x (by rw [List.take_of_length_le (by rw [HL.out]; exact Nat.le_refl _)]; exact hx)⟩, hb⟩

theorem toThing_any (x : Thing) (w : World) :
    Calls Try.prog 38 #[.agg #[.string (x.Name), .int .i64 (x.Count), .int .i64 (x.Day)]] w fun e w' => e = .returned (.agg #[.string (x.Name), .int .i64 (x.Count), .int .i64 (x.Day)]) ∧ Below w.heap.size w w' := by
  go_enter Try.func38, Try.ntmps38
  go_wp2
  go_returns
  exact ⟨rfl, by repeat' (first | exact bl_refl _ | refine bl_alloc ?_ _ | refine bl_set ?_ ?_ _ | (simp; done) | (simp; omega))⟩

set_option maxHeartbeats 1000000 in
theorem eqThing_any (x y : Thing) (w : World) :
    Calls Try.prog 42 #[.agg #[.string (x.Name), .int .i64 (x.Count), .int .i64 (x.Day)], .agg #[.string (y.Name), .int .i64 (y.Count), .int .i64 (y.Day)]] w fun e w' => e = .returned (.bool (sameB x y)) ∧ Below w.heap.size w w' := by
  by_cases h0 : (x.Name.toList == y.Name.toList) = true
  rotate_left
  · have h0 : (x.Name.toList == y.Name.toList) = false := by simpa using h0
    have q : Hid (sameB x y = false) := by rw [Hid, sameB_no]; rintro rfl; simp at h0
    go_enter Try.func42, Try.ntmps42
    go_wp2
    go_returns
    exact ⟨ret_bool q.out.symm, by repeat' (first | exact bl_refl _ | refine bl_alloc ?_ _ | refine bl_set ?_ ?_ _ | (simp; done) | (simp; omega))⟩
  by_cases h1 : (x.Count == y.Count) = true
  rotate_left
  · have h1 : (x.Count == y.Count) = false := by simpa using h1
    have e1 : (x.Count != y.Count) = true := by simp [bne, h1]
    have q : Hid (sameB x y = false) := by rw [Hid, sameB_no]; rintro rfl; simp at h1
    go_enter Try.func42, Try.ntmps42
    go_wp2
    go_returns
    exact ⟨ret_bool q.out.symm, by repeat' (first | exact bl_refl _ | refine bl_alloc ?_ _ | refine bl_set ?_ ?_ _ | (simp; done) | (simp; omega))⟩
  have e1 : (x.Count != y.Count) = false := by simp [bne, h1]
  by_cases h2 : (x.Day == y.Day) = true
  rotate_left
  · have h2 : (x.Day == y.Day) = false := by simpa using h2
    have e2 : (x.Day != y.Day) = true := by simp [bne, h2]
    have q : Hid (sameB x y = false) := by rw [Hid, sameB_no]; rintro rfl; simp at h2
    go_enter Try.func42, Try.ntmps42
    go_wp2
    go_returns
    exact ⟨ret_bool q.out.symm, by repeat' (first | exact bl_refl _ | refine bl_alloc ?_ _ | refine bl_set ?_ ?_ _ | (simp; done) | (simp; omega))⟩
  have e2 : (x.Day != y.Day) = false := by simp [bne, h2]
  have q : Hid (sameB x y = true) := by
    have z0 : x.Name = y.Name := bytes_inj (by simpa using h0)
    have z1 : x.Count = y.Count := by simpa using h1
    have z2 : x.Day = y.Day := by simpa using h2
    rw [Hid, sameB_iff]; cases x; cases y; simp only at z0 z1 z2; subst z0 z1 z2; rfl
  go_enter Try.func42, Try.ntmps42
  go_wp2
  go_returns
  exact ⟨ret_bool q.out.symm, by repeat' (first | exact bl_refl _ | refine bl_alloc ?_ _ | refine bl_set ?_ ?_ _ | (simp; done) | (simp; omega))⟩

set_option maxHeartbeats 1000000 in
theorem eqThingS_any (A B : Option Addr) (n m c d : Nat) (xs ys : List Thing) (w : World) (hn : (n : Int) ≤ 9223372036854775807) (hx : Sl w A n xs) (hy : Sl w B m ys) :
    Calls Try.prog 19 #[.slice A n c, .slice B m d] w fun e w' => e = .returned (.bool (sameB xs ys)) ∧ Below w.heap.size w w' := by
  have Hx := Lib.hid hx.1
  have Hy := Lib.hid hy.1
  by_cases hnm : n = m
  · subst hnm
    have hd : ((n : Int) != (n : Int)) = false := by simp
    go_enter Try.func19, Try.ntmps19
    go_wp2
    go_loopw [5] (fun i wr => ∃ k : Nat, k ≤ n ∧ i = .int .i64 k ∧ Below w.heap.size w wr ∧ Hid (xs.take k = ys.take k)) (fun i _ => n - (intOf i).toNat)
    case atStart => exact ⟨0, Nat.zero_le _, rfl, bl_refl _, rfl⟩
    case round =>
      obtain ⟨k, hk, rfl, hb, hg⟩ := hrel
      by_cases hlt : k < n
      · obtain ⟨b, o, rfl, _, c0, c1, c2⟩ := (hx.below hb).thing hlt
        obtain ⟨b', o', rfl, _, d0, d1, d2⟩ := (hy.below hb).thing hlt
        clear hx hy
        by_cases he : sameB (nth xs k) (nth ys k) = true
        · skip
          go_wp2_with fail
          refine wp_region_grow (by kernel_rfl) (by kernel_rfl) (fun W hW => ?_)
          have e0 := Gw.cell (by rw [hW]; exact c0 : W.cell? _ = _)
          have g0 := Gw.cell (by rw [hW]; exact d0 : W.cell? _ = _)
          have e1 := Gw.cell (by rw [hW]; exact c1 : W.cell? _ = _)
          have g1 := Gw.cell (by rw [hW]; exact d1 : W.cell? _ = _)
          have e2 := Gw.cell (by rw [hW]; exact c2 : W.cell? _ = _)
          have g2 := Gw.cell (by rw [hW]; exact d2 : W.cell? _ = _)
          have HW := Lib.hid hW
          clear hW
          repeat (go_big_quiet_step ((go_at_call 42; exact Calls.grow_of (eqThing_any _ _ _))))
          refine wpGrow_nil (fun V hV => ?_)
          have hbV : Below w.heap.size w V := bl_trans hb (by rw [← HW.out]; exact hV)
          clear hV e0 g0 e1 g1 e2 g2
          go_wp2
          go_roundw
          case rel => exact ⟨k + 1, by omega, by go_num, hbV, sameB_take (by rw [Hx.out]; exact hlt) (by rw [Hy.out]; exact hlt) hg he⟩
          case measure => simp [intOf]; omega
        · have he : sameB (nth xs k) (nth ys k) = false := by simpa using he
          go_wp2_with fail
          refine wp_region_grow (by kernel_rfl) (by kernel_rfl) (fun W hW => ?_)
          have e0 := Gw.cell (by rw [hW]; exact c0 : W.cell? _ = _)
          have g0 := Gw.cell (by rw [hW]; exact d0 : W.cell? _ = _)
          have e1 := Gw.cell (by rw [hW]; exact c1 : W.cell? _ = _)
          have g1 := Gw.cell (by rw [hW]; exact d1 : W.cell? _ = _)
          have e2 := Gw.cell (by rw [hW]; exact c2 : W.cell? _ = _)
          have g2 := Gw.cell (by rw [hW]; exact d2 : W.cell? _ = _)
          have HW := Lib.hid hW
          clear hW
          repeat (go_big_quiet_step ((go_at_call 42; exact Calls.grow_of (eqThing_any _ _ _))))
          refine wpGrow_nil (fun V hV => ?_)
          have hbV : Below w.heap.size w V := bl_trans hb (by rw [← HW.out]; exact hV)
          clear hV e0 g0 e1 g1 e2 g2
          go_wp2
          go_ret
          exact ⟨ret_bool (sameB_nth he).symm, hbV⟩
      · obtain rfl : k = n := by omega
        go_wp2
        go_ret
        exact ⟨ret_bool (sameB_all Hx.out Hy.out hg).symm, hb⟩
  · have hd : ((n : Int) != (m : Int)) = true := by simp; omega
    go_enter Try.func19, Try.ntmps19
    go_wp2
    go_ret
    exact ⟨ret_bool (sameB_len (by rw [Hx.out, Hy.out]; exact hnm)).symm, bl_refl _⟩

theorem thing_info : (Try.prog.info? 59).map (fun i => (i.zero, i.size, i.bytes)) = some (some (.agg #[.string ByteArray.empty, .int .i64 0, .int .i64 0]), 3, 32) := by kernel_rfl
set_option maxHeartbeats 1000000 in
theorem toThingS_any (A : Option Addr) (n c : Nat) (xs : List Thing) (w : World) (hn : n ≤ 1048576) (hx : Sl w A n xs) :
    Calls Try.prog 16 #[.slice A n c] w (RetOwn w 59 xs) := by
  have Hx := Lib.hid hx.1
  obtain ⟨i0, hi, hz0, hz1, hz2⟩ := info_parts thing_info
  have hmk := fun W => run_make_rowN (P := Try.prog) 26 59 i0 _ Try.underlying26 hi hz0 .i64 .i64 n n (Nat.le_refl _) (by rw [hz2]; omega) (by omega) W
  rw [hz1] at hmk
  clear hi hz0 hz1 hz2
  go_enter Try.func16, Try.ntmps16
  go_wp2
  clear hmk
  go_loopw [4] (fun i wr => ∃ (k : Nat) (L : List Thing), k ≤ n ∧ i = .int .i64 k ∧ Below w.heap.size w wr ∧ Own wr w.heap.size 59 (.slice (some ⟨w.heap.size, 0, none⟩) n n) L ∧ Hid (L = xs.take k ++ List.replicate (n - k) (default : Thing))) (fun i _ => n - (intOf i).toNat)
  case atStart => exact ⟨0, _, Nat.zero_le _, rfl, bl_alloc (bl_refl _) _, Own.made w _ default rfl n (by unfold maxLen; omega), rfl⟩
  case round =>
    obtain ⟨k, L, hk, rfl, hb, ho, HL⟩ := hrel
    by_cases hlt : k < n
    · obtain ⟨b, o, rfl, _, c0, c1, c2⟩ := (hx.below hb).thing hlt
      clear hx
      go_wp2_with fail
      refine (toThing_any _ _).mono ?_
      rintro e V ⟨rfl, hV⟩
      have hoV := ho.below hV
      have d0 : V.cell? ⟨w.heap.size, k * 3, none⟩ = some (.string ((nth L k).Name)) := hoV.cellAt hlt 0 _ rfl
      have f0 := hoV.frozenAt (k * 3)
      have d1 : V.cell? ⟨w.heap.size, k * 3 + 1, none⟩ = some (.int .i64 ((nth L k).Count)) := hoV.cellAt hlt 1 _ rfl
      have f1 := hoV.frozenAt (k * 3 + 1)
      have d2 : V.cell? ⟨w.heap.size, k * 3 + 2, none⟩ = some (.int .i64 ((nth L k).Day)) := hoV.cellAt hlt 2 _ rfl
      have f2 := hoV.frozenAt (k * 3 + 2)
      clear c0 c1 c2 ho
      go_wp2
      go_roundw
      case rel =>
        refine ⟨k + 1, L.set k (nth xs k), by omega, by go_num, ?_, hoV.put hlt (nth xs k), set_take Hx.out hlt HL.out (get_nth (by rw [Hx.out]; exact hlt))⟩
        repeat' (first | exact bl_trans hb hV | refine bl_set ?_ (Nat.le_refl _) _)
      case measure => simp [intOf]; omega
    · obtain rfl : k = n := by omega
      have HL2 : Hid (L = xs) := by rw [Hid, HL.out, ← Hx.out]; simp
      go_wp2
      go_ret
      exact retOwn_mk Hx.out (by rw [← HL2.out]; exact ho) hb

def mkThing (m : Int) : Thing := ⟨mkT m, (m + 1), (m + 1 + 1)⟩
set_option maxHeartbeats 1000000 in
theorem markThingS_any (A : Option Addr) (n c base : Nat) (k : Int) (xs : List Thing) (w : World) (hn : n ≤ 1048576) (hk0 : 0 ≤ k) (hk1 : k ≤ 16777216) (ho : Own w base 59 (.slice A n c) xs) :
    Calls Try.prog 23 #[.slice A n c, .int .i64 k] w fun e w' => e = .returned (.int .i64 (k + 3 * n)) ∧ Own w' base 59 (.slice A n c) (marks mkThing 3 k n) ∧ w.grownBy w' (Value.ownBlock (.slice A n c)) := by
  have HL := Lib.hid ho.sl.1
  go_enter Try.func23, Try.ntmps23
  go_wp2
  go_loopw [1, 5] (fun u v wr => ∃ (i : Nat) (m : Int) (L : List Thing), i ≤ n ∧ v = .int .i64 i ∧ u = .int .i64 m ∧ Hid (m = k + 3 * (i : Int)) ∧ 0 ≤ m ∧ m ≤ 16777216 + 3 * (i : Int) ∧ Own wr base 59 (.slice A n c) L ∧ Hid (L = marks mkThing 3 k i ++ xs.drop i) ∧ w.grownBy wr (Value.ownBlock (.slice A n c))) (fun _ v _ => n - (intOf v).toNat)
  case atStart => exact ⟨0, k, xs, Nat.zero_le _, rfl, rfl, by rw [Hid]; omega, hk0, by omega, ho, by rw [Hid]; simp [marks], gb_refl _ _⟩
  case round =>
    obtain ⟨i, m, L, hi, rfl, rfl, hm, hm0, hm1, ho, HL2, hg⟩ := hrel
    by_cases hlt : i < n
    · obtain ⟨g, rfl⟩ := ho.form (by omega)
      go_wp2_with fail
      refine (markText_any m _ hm0 (by omega)).mono ?_
      rintro e V ⟨rfl, hV⟩
      have hoV := ho.below hV
      have hgV := gb_trans hg (gb_below hV _)
      clear ho hg
      have d0 : V.cell? ⟨g, i * 3, none⟩ = some (.string ((nth L i).Name)) := hoV.cellAt hlt 0 _ rfl
      have f0 := hoV.frozenAt (i * 3)
      have d1 : V.cell? ⟨g, i * 3 + 1, none⟩ = some (.int .i64 ((nth L i).Count)) := hoV.cellAt hlt 1 _ rfl
      have f1 := hoV.frozenAt (i * 3 + 1)
      have d2 : V.cell? ⟨g, i * 3 + 2, none⟩ = some (.int .i64 ((nth L i).Day)) := hoV.cellAt hlt 2 _ rfl
      have f2 := hoV.frozenAt (i * 3 + 2)
      go_wp2
      go_roundw
      case rel =>
        refine ⟨i + 1, m + 1 + 1 + 1, L.set i (mkThing m), by omega, by go_num, rfl, by have := hm.out; rw [Hid]; omega, by omega, by omega, hoV.put hlt (mkThing m), marks_put HL.out hlt HL2.out (by rw [hm.out]; rfl), ?_⟩
        repeat' (first | exact hgV | refine gb_set ?_ _ _)
      case measure => simp [intOf]; omega
    · obtain rfl : i = n := by omega
      have e : Hid (L = marks mkThing 3 k i) := by rw [Hid, HL2.out, ← HL.out]; simp
      go_wp2
      go_ret
      exact ⟨ret_i64 hm.out, by rw [← e.out]; exact ho, hg⟩

set_option maxHeartbeats 1000000 in
theorem heldThingS_any (A : Option Addr) (n c : Nat) (k : Int) (w : World) (hn : n ≤ 1048576) (hk0 : 0 ≤ k) (hk1 : k ≤ 16777216) (hs : Sl w A n (marks mkThing 3 k n)) :
    Calls Try.prog 34 #[.slice A n c, .int .i64 k] w fun e w' => e = .returned (.int .i64 (k + 3 * n)) ∧ Below w.heap.size w w' := by
  go_enter Try.func34, Try.ntmps34
  go_wp2
  go_loopw [1, 5] (fun u v wr => ∃ (i : Nat) (m : Int), i ≤ n ∧ v = .int .i64 i ∧ u = .int .i64 m ∧ Hid (m = k + 3 * (i : Int)) ∧ 0 ≤ m ∧ m ≤ 16777216 + 3 * (i : Int) ∧ Below w.heap.size w wr) (fun _ v _ => n - (intOf v).toNat)
  case atStart => exact ⟨0, k, Nat.zero_le _, rfl, rfl, by rw [Hid]; omega, hk0, by omega, bl_refl _⟩
  case round =>
    obtain ⟨i, m, hi, rfl, rfl, hm, hm0, hm1, hb⟩ := hrel
    by_cases hlt : i < n
    · obtain ⟨b, o, rfl, hbz, c0, c1, c2⟩ := (hs.below hb).thing hlt
      have e : nth (marks mkThing 3 k n) i = mkThing m := by rw [marks_nth hlt, hm.out]; rfl
      rw [e] at c0 c1 c2
      have d0 : wr.cell? ⟨b, o + i * 3, none⟩ = some (.string (mkT m)) := c0
      have d1 : wr.cell? ⟨b, o + i * 3 + 1, none⟩ = some (.int .i64 ((m + 1))) := c1
      have d2 : wr.cell? ⟨b, o + i * 3 + 2, none⟩ = some (.int .i64 ((m + 1 + 1))) := c2
      clear hs e c0 c1 c2
      go_wp2_with fail
      refine wp_region_grow (by kernel_rfl) (by kernel_rfl) (fun W hW => ?_)
      have g0 := Gw.cell (by rw [hW]; exact d0 : W.cell? _ = _)
      have HW := Lib.hid hW
      clear hW
      repeat (go_big_quiet_step ((go_at_call 47; exact Calls.grow_of (markText_any m _ hm0 (by omega)))))
      refine wpGrow_nil (fun V hV => ?_)
      have hV : Below wr.heap.size wr V := by rw [← HW.out]; exact hV
      have hbV := bl_trans hb hV
      clear g0
      have q0 := cell_later hV d0
      have q1 := cell_later hV d1
      have q2 := cell_later hV d2
      clear hb d0 d1 d2
      go_wp2
      go_roundw
      case rel => exact ⟨i + 1, m + 1 + 1 + 1, by omega, by go_num, rfl, by have := hm.out; rw [Hid]; omega, by omega, by omega, hbV⟩
      case measure => simp [intOf]; omega
    · obtain rfl : i = n := by omega
      go_wp2
      go_ret
      exact ⟨ret_i64 hm.out, hb⟩

end Go.Proofs.Ytokcgjjnljflaaa
