/-
  Skill: its reading, and the helpers of the laws over it. No conditions.
-/
import Derived.Test.YtgjnjfaohpmhkaaMarkT
namespace Go.Proofs.Ytgjnjfaohpmhkaa
open Go.RowKit

structure Skill where
  Person : ByteArray
  Kind : Int
  Until : Int
  deriving DecidableEq
instance : Inhabited Skill := ⟨⟨ByteArray.empty, 0, 0⟩⟩
instance : Flat Skill where
  sz := 3
  pos := by omega
  enc := fun x => [.string (x.Person), .int .i64 (x.Kind), .int .i64 (x.Until)]
  len := fun _ => rfl
  one := fun _ u h => by simp at h; rcases h with rfl | rfl | rfl <;> rfl
theorem Sl.skill {w : World} {A : Option Addr} {n : Nat} {xs : List Skill} (h : Sl w A n xs) {k : Nat} (hk : k < n) :
    ∃ b o, A = some ⟨b, o, none⟩ ∧ b < w.heap.size ∧ w.cell? ⟨b, o + k * 3, none⟩ = some (.string ((nth xs k).Person)) ∧ w.cell? ⟨b, o + k * 3 + 1, none⟩ = some (.int .i64 ((nth xs k).Kind)) ∧ w.cell? ⟨b, o + k * 3 + 2, none⟩ = some (.int .i64 ((nth xs k).Until)) := by
  obtain ⟨b, o, rfl, hc⟩ := h.flat hk
  exact ⟨b, o, rfl, h.lt hk, hc 0 _ rfl, hc 1 _ rfl, hc 2 _ rfl⟩
theorem skill_eq {x y : Skill} : sameB x y = (sameB x.Person y.Person && sameB x.Kind y.Kind && sameB x.Until y.Until) := by
  cases x; cases y; simp [sameB, Bool.and_assoc]
theorem szSkill_any (x : Skill) (left : Int) (w : World) (hx : x.Person.size ≤ maxLen) (h0 : 0 ≤ left) (h1 : left ≤ 1048576) :
    Calls Try.prog 32 #[.agg #[.string (x.Person), .int .i64 (x.Kind), .int .i64 (x.Until)], .int .i64 left] w (SzPost w left ((x.Person.size : Int) ≤ left)) := by
  unfold maxLen at hx
  by_cases hlt : left < x.Person.size
  · go_enter Try.func32, Try.ntmps32
    go_wp2
    go_ret
    exact ⟨-1, rfl, .inl rfl, bl_alloc (bl_refl _) _⟩
  · go_enter Try.func32, Try.ntmps32
    go_wp2
    go_ret
    exact ⟨left - x.Person.size, rfl, .inr ⟨by omega, by omega, by first | omega | trivial⟩, bl_alloc (bl_refl _) _⟩

set_option maxHeartbeats 1000000 in
theorem szSkillS_any (A : Option Addr) (n c : Nat) (xs : List Skill) (left : Int) (w : World) (hn : (n : Int) ≤ 9223372036854775807) (hs : Sl w A n xs) (hv : ∀ x, x ∈ xs → x.Person.size ≤ maxLen) (h0 : 0 ≤ left) (h1 : left ≤ 1048576) :
    Calls Try.prog 5 #[.slice A n c, .int .i64 left] w (SzPost w left ((n : Int) ≤ left ∧ ∀ x, x ∈ xs → (x.Person.size : Int) ≤ left)) := by
  have HL := Lib.hid hs.1
  have HV := Lib.hid hv
  clear hv
  by_cases hlt : left < n
  · go_enter Try.func5, Try.ntmps5
    go_wp2
    go_ret
    exact ⟨-1, rfl, .inl rfl, bl_refl _⟩
  have hle : (n : Int) ≤ left := by omega
  go_enter Try.func5, Try.ntmps5
  go_wp2
  go_loopw [1, 5] (fun u v wr => ∃ (k : Nat) (r : Int), k ≤ n ∧ v = .int .i64 k ∧ u = .int .i64 r ∧ 0 ≤ r ∧ r ≤ left ∧ Hid (∀ x, x ∈ xs.take k → (x.Person.size : Int) ≤ left) ∧ Below w.heap.size w wr) (fun _ v _ => n - (intOf v).toNat)
  case atStart => exact ⟨0, left - n, Nat.zero_le _, rfl, rfl, by omega, by omega, fun x hx => by simp at hx, bl_refl _⟩
  case round =>
    obtain ⟨k, r, hk, rfl, rfl, hr0, hr1, hg, hb⟩ := hrel
    by_cases hkn : k < n
    · have hkx : Hid (k < xs.length) := by rw [Hid, HL.out]; exact hkn
      obtain ⟨b, o, rfl, hbz, c0, c1, c2⟩ := (hs.below hb).skill hkn
      clear hs
      have hm : nth xs k ∈ xs := by rw [nth_get (List.getElem?_eq_getElem hkx.out)]; exact List.getElem_mem hkx.out
      have hm2 := Lib.hid hm
      clear hm
      go_wp2_with fail
      refine (szSkill_any (nth xs k) r _ (HV.out _ hm2.out) hr0 (by omega)).mono ?_
      rintro e V ⟨q, rfl, hq, hV⟩
      clear c0 c1 c2
      rcases hq with rfl | ⟨q0, q1, q2⟩
      · go_wp2
        go_ret
        exact ⟨-1, rfl, .inl rfl, bl_trans hb hV⟩
      · go_wp2
        go_roundw
        case rel =>
          refine ⟨k + 1, q, by omega, by go_num, rfl, q0, by omega, ?_, bl_trans hb hV⟩
          rw [Hid, take_succ hkx.out]
          intro x hx
          rcases List.mem_append.1 hx with hx | hx
          · exact hg.out x hx
          · simp at hx; subst hx; omega
        case measure => simp [intOf]; omega
    · obtain rfl : k = n := by omega
      go_wp2
      go_ret
      exact ⟨r, rfl, .inr ⟨hr0, hr1, hle, fun x hx => hg.out x (by rw [List.take_of_length_le (by rw [HL.out]; exact Nat.le_refl _)]; exact hx)⟩, hb⟩

theorem toSkill_any (x : Skill) (w : World) :
    Calls Try.prog 38 #[.agg #[.string (x.Person), .int .i64 (x.Kind), .int .i64 (x.Until)]] w fun e w' => e = .returned (.agg #[.string (x.Person), .int .i64 (x.Kind), .int .i64 (x.Until)]) ∧ Below w.heap.size w w' := by
  go_enter Try.func38, Try.ntmps38
  go_wp2
  go_returns
  exact ⟨rfl, by repeat' (first | exact bl_refl _ | refine bl_alloc ?_ _ | refine bl_set ?_ ?_ _ | (simp; done) | (simp; omega))⟩

set_option maxHeartbeats 1000000 in
theorem eqSkill_any (x y : Skill) (w : World) :
    Calls Try.prog 47 #[.agg #[.string (x.Person), .int .i64 (x.Kind), .int .i64 (x.Until)], .agg #[.string (y.Person), .int .i64 (y.Kind), .int .i64 (y.Until)]] w fun e w' => e = .returned (.bool (sameB x y)) ∧ Below w.heap.size w w' := by
  by_cases h0 : (x.Person.toList == y.Person.toList) = true
  rotate_left
  · have h0 : (x.Person.toList == y.Person.toList) = false := by simpa using h0
    have q : Hid (sameB x y = false) := by rw [Hid, sameB_no]; rintro rfl; simp at h0
    go_enter Try.func47, Try.ntmps47
    go_wp2
    go_returns
    exact ⟨ret_bool q.out.symm, by repeat' (first | exact bl_refl _ | refine bl_alloc ?_ _ | refine bl_set ?_ ?_ _ | (simp; done) | (simp; omega))⟩
  by_cases h1 : (x.Kind == y.Kind) = true
  rotate_left
  · have h1 : (x.Kind == y.Kind) = false := by simpa using h1
    have e1 : (x.Kind != y.Kind) = true := by simp [bne, h1]
    have q : Hid (sameB x y = false) := by rw [Hid, sameB_no]; rintro rfl; simp at h1
    go_enter Try.func47, Try.ntmps47
    go_wp2
    go_returns
    exact ⟨ret_bool q.out.symm, by repeat' (first | exact bl_refl _ | refine bl_alloc ?_ _ | refine bl_set ?_ ?_ _ | (simp; done) | (simp; omega))⟩
  have e1 : (x.Kind != y.Kind) = false := by simp [bne, h1]
  by_cases h2 : (x.Until == y.Until) = true
  rotate_left
  · have h2 : (x.Until == y.Until) = false := by simpa using h2
    have e2 : (x.Until != y.Until) = true := by simp [bne, h2]
    have q : Hid (sameB x y = false) := by rw [Hid, sameB_no]; rintro rfl; simp at h2
    go_enter Try.func47, Try.ntmps47
    go_wp2
    go_returns
    exact ⟨ret_bool q.out.symm, by repeat' (first | exact bl_refl _ | refine bl_alloc ?_ _ | refine bl_set ?_ ?_ _ | (simp; done) | (simp; omega))⟩
  have e2 : (x.Until != y.Until) = false := by simp [bne, h2]
  have q : Hid (sameB x y = true) := by
    have z0 : x.Person = y.Person := bytes_inj (by simpa using h0)
    have z1 : x.Kind = y.Kind := by simpa using h1
    have z2 : x.Until = y.Until := by simpa using h2
    rw [Hid, sameB_iff]; cases x; cases y; simp only at z0 z1 z2; subst z0 z1 z2; rfl
  go_enter Try.func47, Try.ntmps47
  go_wp2
  go_returns
  exact ⟨ret_bool q.out.symm, by repeat' (first | exact bl_refl _ | refine bl_alloc ?_ _ | refine bl_set ?_ ?_ _ | (simp; done) | (simp; omega))⟩

set_option maxHeartbeats 1000000 in
theorem eqSkillS_any (A B : Option Addr) (n m c d : Nat) (xs ys : List Skill) (w : World) (hn : (n : Int) ≤ 9223372036854775807) (hx : Sl w A n xs) (hy : Sl w B m ys) :
    Calls Try.prog 10 #[.slice A n c, .slice B m d] w fun e w' => e = .returned (.bool (sameB xs ys)) ∧ Below w.heap.size w w' := by
  have Hx := Lib.hid hx.1
  have Hy := Lib.hid hy.1
  by_cases hnm : n = m
  · subst hnm
    have hd : ((n : Int) != (n : Int)) = false := by simp
    go_enter Try.func10, Try.ntmps10
    go_wp2
    go_loopw [5] (fun i wr => ∃ k : Nat, k ≤ n ∧ i = .int .i64 k ∧ Below w.heap.size w wr ∧ Hid (xs.take k = ys.take k)) (fun i _ => n - (intOf i).toNat)
    case atStart => exact ⟨0, Nat.zero_le _, rfl, bl_refl _, rfl⟩
    case round =>
      obtain ⟨k, hk, rfl, hb, hg⟩ := hrel
      by_cases hlt : k < n
      · obtain ⟨b, o, rfl, _, c0, c1, c2⟩ := (hx.below hb).skill hlt
        obtain ⟨b', o', rfl, _, d0, d1, d2⟩ := (hy.below hb).skill hlt
        clear hx hy
        by_cases he : sameB (nth xs k) (nth ys k) = true
        · skip
          go_wp2_with fail
          refine wp_region_grow (by kernel_rfl) (by kernel_rfl) (fun W hW => ?_)
          have e0 := Gw.cell (by rw [hW]; exact c0 : W.cell? _ = _)
          have g0 := Gw.cell (by rw [hW]; exact d0 : W.cell? _ = _)
          have e1 := Gw.cell (by rw [hW]; exact c1 : W.cell? _ = _)
          have g1 := Gw.cell (by rw [hW]; exact d1 : W.cell? _ = _)
          have e2 := Gw.cell (by rw [hW]; exact c2 : W.cell? _ = _)
          have g2 := Gw.cell (by rw [hW]; exact d2 : W.cell? _ = _)
          have HW := Lib.hid hW
          clear hW
          repeat (go_big_quiet_step ((go_at_call 47; exact Calls.grow_of (eqSkill_any _ _ _))))
          refine wpGrow_nil (fun V hV => ?_)
          have hbV : Below w.heap.size w V := bl_trans hb (by rw [← HW.out]; exact hV)
          clear hV e0 g0 e1 g1 e2 g2
          go_wp2
          go_roundw
          case rel => exact ⟨k + 1, by omega, by go_num, hbV, sameB_take (by rw [Hx.out]; exact hlt) (by rw [Hy.out]; exact hlt) hg he⟩
          case measure => simp [intOf]; omega
        · have he : sameB (nth xs k) (nth ys k) = false := by simpa using he
          go_wp2_with fail
          refine wp_region_grow (by kernel_rfl) (by kernel_rfl) (fun W hW => ?_)
          have e0 := Gw.cell (by rw [hW]; exact c0 : W.cell? _ = _)
          have g0 := Gw.cell (by rw [hW]; exact d0 : W.cell? _ = _)
          have e1 := Gw.cell (by rw [hW]; exact c1 : W.cell? _ = _)
          have g1 := Gw.cell (by rw [hW]; exact d1 : W.cell? _ = _)
          have e2 := Gw.cell (by rw [hW]; exact c2 : W.cell? _ = _)
          have g2 := Gw.cell (by rw [hW]; exact d2 : W.cell? _ = _)
          have HW := Lib.hid hW
          clear hW
          repeat (go_big_quiet_step ((go_at_call 47; exact Calls.grow_of (eqSkill_any _ _ _))))
          refine wpGrow_nil (fun V hV => ?_)
          have hbV : Below w.heap.size w V := bl_trans hb (by rw [← HW.out]; exact hV)
          clear hV e0 g0 e1 g1 e2 g2
          go_wp2
          go_ret
          exact ⟨ret_bool (sameB_nth he).symm, hbV⟩
      · obtain rfl : k = n := by omega
        go_wp2
        go_ret
        exact ⟨ret_bool (sameB_all Hx.out Hy.out hg).symm, hb⟩
  · have hd : ((n : Int) != (m : Int)) = true := by simp; omega
    go_enter Try.func10, Try.ntmps10
    go_wp2
    go_ret
    exact ⟨ret_bool (sameB_len (by rw [Hx.out, Hy.out]; exact hnm)).symm, bl_refl _⟩

theorem skill_info : (Try.prog.info? 44).map (fun i => (i.zero, i.size, i.bytes)) = some (some (.agg #[.string ByteArray.empty, .int .i64 0, .int .i64 0]), 3, 32) := by kernel_rfl
set_option maxHeartbeats 1000000 in
theorem toSkillS_any (A : Option Addr) (n c : Nat) (xs : List Skill) (w : World) (hn : n ≤ 1048576) (hx : Sl w A n xs) :
    Calls Try.prog 7 #[.slice A n c] w (RetOwn w 44 xs) := by
  have Hx := Lib.hid hx.1
  obtain ⟨i0, hi, hz0, hz1, hz2⟩ := info_parts skill_info
  have hmk := fun W => run_make_rowN (P := Try.prog) 27 44 i0 _ Try.underlying27 hi hz0 .i64 .i64 n n (Nat.le_refl _) (by rw [hz2]; omega) (by omega) W
  rw [hz1] at hmk
  clear hi hz0 hz1 hz2
  go_enter Try.func7, Try.ntmps7
  go_wp2
  clear hmk
  go_loopw [4] (fun i wr => ∃ (k : Nat) (L : List Skill), k ≤ n ∧ i = .int .i64 k ∧ Below w.heap.size w wr ∧ Own wr w.heap.size 44 (.slice (some ⟨w.heap.size, 0, none⟩) n n) L ∧ Hid (L = xs.take k ++ List.replicate (n - k) (default : Skill))) (fun i _ => n - (intOf i).toNat)
  case atStart => exact ⟨0, _, Nat.zero_le _, rfl, bl_alloc (bl_refl _) _, Own.made w _ default rfl n (by unfold maxLen; omega), rfl⟩
  case round =>
    obtain ⟨k, L, hk, rfl, hb, ho, HL⟩ := hrel
    by_cases hlt : k < n
    · obtain ⟨b, o, rfl, _, c0, c1, c2⟩ := (hx.below hb).skill hlt
      clear hx
      go_wp2_with fail
      refine (toSkill_any _ _).mono ?_
      rintro e V ⟨rfl, hV⟩
      have hoV := ho.below hV
      have d0 : V.cell? ⟨w.heap.size, k * 3, none⟩ = some (.string ((nth L k).Person)) := hoV.cellAt hlt 0 _ rfl
      have f0 := hoV.frozenAt (k * 3)
      have d1 : V.cell? ⟨w.heap.size, k * 3 + 1, none⟩ = some (.int .i64 ((nth L k).Kind)) := hoV.cellAt hlt 1 _ rfl
      have f1 := hoV.frozenAt (k * 3 + 1)
      have d2 : V.cell? ⟨w.heap.size, k * 3 + 2, none⟩ = some (.int .i64 ((nth L k).Until)) := hoV.cellAt hlt 2 _ rfl
      have f2 := hoV.frozenAt (k * 3 + 2)
      clear c0 c1 c2 ho
      go_wp2
      go_roundw
      case rel =>
        refine ⟨k + 1, L.set k (nth xs k), by omega, by go_num, ?_, hoV.put hlt (nth xs k), set_take Hx.out hlt HL.out (get_nth (by rw [Hx.out]; exact hlt))⟩
        repeat' (first | exact bl_trans hb hV | refine bl_set ?_ (Nat.le_refl _) _)
      case measure => simp [intOf]; omega
    · obtain rfl : k = n := by omega
      have HL2 : Hid (L = xs) := by rw [Hid, HL.out, ← Hx.out]; simp
      go_wp2
      go_ret
      exact retOwn_mk Hx.out (by rw [← HL2.out]; exact ho) hb

def mkSkill (m : Int) : Skill := ⟨mkT m, (m + 1), (m + 1 + 1)⟩
set_option maxHeartbeats 1000000 in
theorem markSkillS_any (A : Option Addr) (n c base : Nat) (k : Int) (xs : List Skill) (w : World) (hn : n ≤ 1048576) (hk0 : 0 ≤ k) (hk1 : k ≤ 16777216) (ho : Own w base 44 (.slice A n c) xs) :
    Calls Try.prog 11 #[.slice A n c, .int .i64 k] w fun e w' => e = .returned (.int .i64 (k + 3 * n)) ∧ Own w' base 44 (.slice A n c) (marks mkSkill 3 k n) ∧ w.grownBy w' (Value.ownBlock (.slice A n c)) := by
  have HL := Lib.hid ho.sl.1
  go_enter Try.func11, Try.ntmps11
  go_wp2
  go_loopw [1, 5] (fun u v wr => ∃ (i : Nat) (m : Int) (L : List Skill), i ≤ n ∧ v = .int .i64 i ∧ u = .int .i64 m ∧ Hid (m = k + 3 * (i : Int)) ∧ 0 ≤ m ∧ m ≤ 16777216 + 3 * (i : Int) ∧ Own wr base 44 (.slice A n c) L ∧ Hid (L = marks mkSkill 3 k i ++ xs.drop i) ∧ w.grownBy wr (Value.ownBlock (.slice A n c))) (fun _ v _ => n - (intOf v).toNat)
  case atStart => exact ⟨0, k, xs, Nat.zero_le _, rfl, rfl, by rw [Hid]; omega, hk0, by omega, ho, by rw [Hid]; simp [marks], gb_refl _ _⟩
  case round =>
    obtain ⟨i, m, L, hi, rfl, rfl, hm, hm0, hm1, ho, HL2, hg⟩ := hrel
    by_cases hlt : i < n
    · obtain ⟨g, rfl⟩ := ho.form (by omega)
      go_wp2_with fail
      refine (markText_any m _ hm0 (by omega)).mono ?_
      rintro e V ⟨rfl, hV⟩
      have hoV := ho.below hV
      have hgV := gb_trans hg (gb_below hV _)
      clear ho hg
      have d0 : V.cell? ⟨g, i * 3, none⟩ = some (.string ((nth L i).Person)) := hoV.cellAt hlt 0 _ rfl
      have f0 := hoV.frozenAt (i * 3)
      have d1 : V.cell? ⟨g, i * 3 + 1, none⟩ = some (.int .i64 ((nth L i).Kind)) := hoV.cellAt hlt 1 _ rfl
      have f1 := hoV.frozenAt (i * 3 + 1)
      have d2 : V.cell? ⟨g, i * 3 + 2, none⟩ = some (.int .i64 ((nth L i).Until)) := hoV.cellAt hlt 2 _ rfl
      have f2 := hoV.frozenAt (i * 3 + 2)
      go_wp2
      go_roundw
      case rel =>
        refine ⟨i + 1, m + 1 + 1 + 1, L.set i (mkSkill m), by omega, by go_num, rfl, by have := hm.out; rw [Hid]; omega, by omega, by omega, hoV.put hlt (mkSkill m), marks_put HL.out hlt HL2.out (by rw [hm.out]; rfl), ?_⟩
        repeat' (first | exact hgV | refine gb_set ?_ _ _)
      case measure => simp [intOf]; omega
    · obtain rfl : i = n := by omega
      have e : Hid (L = marks mkSkill 3 k i) := by rw [Hid, HL2.out, ← HL.out]; simp
      go_wp2
      go_ret
      exact ⟨ret_i64 hm.out, by rw [← e.out]; exact ho, hg⟩

end Go.Proofs.Ytgjnjfaohpmhkaa
