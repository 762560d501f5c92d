/-
  Lists of ints: the helpers of the laws over them. No conditions.
-/
import Derived.Test.YtgjnjfaohpmhkaaMark
namespace Go.Proofs.Ytgjnjfaohpmhkaa
open Go.RowKit

theorem Sl.int {w : World} {A : Option Addr} {n : Nat} {xs : List Int} (h : Sl w A n xs) {k : Nat} (hk : k < n) :
    ∃ b o, A = some ⟨b, o, none⟩ ∧ b < w.heap.size ∧ w.cell? ⟨b, o + k, none⟩ = some (.int .i64 (nth xs k)) := by
  obtain ⟨b, o, rfl, hc⟩ := h.flat hk
  have h0 := hc 0 _ rfl
  have e : Flat.sz Int = 1 := rfl
  rw [e, Nat.mul_one, Nat.add_zero] at h0
  exact ⟨b, o, rfl, h.lt hk, h0⟩
theorem Own.int {w : World} {base g n c : Nat} {E : TypeId} {xs : List Int} (h : Own w base E (.slice (some ⟨g, 0, none⟩) n c) xs) {k : Nat} (hk : k < n) : w.cell? ⟨g, k, none⟩ = some (.int .i64 (nth xs k)) := by
  have h0 := h.cellAt hk 0 _ rfl
  have e : Flat.sz Int = 1 := rfl
  rwa [e, Nat.mul_one, Nat.add_zero] at h0
theorem Own.putint {w : World} {base g n c : Nat} {E : TypeId} {xs : List Int} (h : Own w base E (.slice (some ⟨g, 0, none⟩) n c) xs) {k : Nat} (hk : k < n) (y : Int) : Own (w.setCell ⟨g, k, none⟩ (.int .i64 (y))) base E (.slice (some ⟨g, 0, none⟩) n c) (xs.set k y) := by
  have h0 := h.put hk y
  have e : Flat.sz Int = 1 := rfl
  rw [e, Nat.mul_one] at h0
  exact h0
theorem el_int : Elem Try.prog 38 3 (Flat.sz Int) := elem_mk Try.underlying38 (by kernel_rfl)
set_option maxHeartbeats 1000000 in
theorem eqIntS_any (A B : Option Addr) (n m c d : Nat) (xs ys : List Int) (w : World) (hn : (n : Int) ≤ 9223372036854775807) (hx : Sl w A n xs) (hy : Sl w B m ys) :
    Calls Try.prog 46 #[.slice A n c, .slice B m d] w fun e w' => e = .returned (.bool (sameB xs ys)) ∧ Below w.heap.size w w' := by
  have Hx := Lib.hid hx.1
  have Hy := Lib.hid hy.1
  by_cases hnm : n = m
  · subst hnm
    have hd : ((n : Int) != (n : Int)) = false := by simp
    go_enter Try.func46, Try.ntmps46
    go_wp2
    go_loopw [5] (fun i wr => ∃ k : Nat, k ≤ n ∧ i = .int .i64 k ∧ Below w.heap.size w wr ∧ Hid (xs.take k = ys.take k)) (fun i _ => n - (intOf i).toNat)
    case atStart => exact ⟨0, Nat.zero_le _, rfl, bl_refl _, rfl⟩
    case round =>
      obtain ⟨k, hk, rfl, hb, hg⟩ := hrel
      by_cases hlt : k < n
      · obtain ⟨b, o, rfl, _, c0⟩ := (hx.below hb).int hlt
        obtain ⟨b', o', rfl, _, d0⟩ := (hy.below hb).int hlt
        clear hx hy
        by_cases he : (nth xs k == nth ys k) = true
        · have he' : Hid (sameB (nth xs k) (nth ys k) = true) := by rw [Hid, sameB_iff]; simpa using he
          have hne : (nth xs k != nth ys k) = false := by simp [bne, he]
          go_wp2_with fail
          go_quiet (fail)
          go_wp2
          go_roundw
          case rel => exact ⟨k + 1, by omega, by go_num, bl_drewN hb _, sameB_take (by rw [Hx.out]; exact hlt) (by rw [Hy.out]; exact hlt) hg he'.out⟩
          case measure => simp [intOf]; omega
        · have he : (nth xs k == nth ys k) = false := by simpa using he
          have he' : Hid (sameB (nth xs k) (nth ys k) = false) := by rw [Hid, sameB_no]; simpa using he
          have hne : (nth xs k != nth ys k) = true := by simp [bne, he]
          go_wp2_with fail
          go_quiet (fail)
          go_wp2
          go_ret
          exact ⟨ret_bool (sameB_nth he'.out).symm, bl_drewN hb _⟩
      · obtain rfl : k = n := by omega
        go_wp2
        go_ret
        exact ⟨ret_bool (sameB_all Hx.out Hy.out hg).symm, hb⟩
  · have hd : ((n : Int) != (m : Int)) = true := by simp; omega
    go_enter Try.func46, Try.ntmps46
    go_wp2
    go_ret
    exact ⟨ret_bool (sameB_len (by rw [Hx.out, Hy.out]; exact hnm)).symm, bl_refl _⟩

theorem int_info : (Try.prog.info? 3).map (fun i => (i.zero, i.size, i.bytes)) = some (some (.int .i64 0), 1, 8) := by kernel_rfl
set_option maxHeartbeats 1000000 in
theorem markIntS_any (A : Option Addr) (n c base : Nat) (k : Int) (xs : List Int) (w : World) (hn : n ≤ 1048576) (hk0 : 0 ≤ k) (hk1 : k ≤ 16777216) (ho : Own w base 3 (.slice A n c) xs) :
    Calls Try.prog 49 #[.slice A n c, .int .i64 k] w fun e w' => e = .returned (.int .i64 (k + 1 * n)) ∧ Own w' base 3 (.slice A n c) (marks (fun m : Int => m) 1 k n) ∧ w.grownBy w' (Value.ownBlock (.slice A n c)) := by
  have HL := Lib.hid ho.sl.1
  go_enter Try.func49, Try.ntmps49
  go_wp2
  go_loopw [1, 5] (fun u v wr => ∃ (i : Nat) (m : Int) (L : List Int), i ≤ n ∧ v = .int .i64 i ∧ u = .int .i64 m ∧ Hid (m = k + 1 * (i : Int)) ∧ 0 ≤ m ∧ m ≤ 16777216 + (i : Int) ∧ Own wr base 3 (.slice A n c) L ∧ Hid (L = marks (fun m : Int => m) 1 k i ++ xs.drop i) ∧ w.grownBy wr (Value.ownBlock (.slice A n c))) (fun _ v _ => n - (intOf v).toNat)
  case atStart => exact ⟨0, k, xs, Nat.zero_le _, rfl, rfl, by rw [Hid]; omega, hk0, by omega, ho, by rw [Hid]; simp [marks], gb_refl _ _⟩
  case round =>
    obtain ⟨i, m, L, hi, rfl, rfl, hm, hm0, hm1, ho, HL2, hg⟩ := hrel
    by_cases hlt : i < n
    · obtain ⟨g, rfl⟩ := ho.form (by omega)
      have d0 := ho.int hlt
      have f0 := ho.frozenAt i
      go_wp2
      go_roundw
      case rel =>
        refine ⟨i + 1, m + 1, L.set i ((fun m : Int => m) m), by omega, by go_num, rfl, by have := hm.out; rw [Hid]; omega, by omega, by omega, ho.putint hlt ((fun m : Int => m) m), marks_put HL.out hlt HL2.out (by rw [hm.out]; rfl), ?_⟩
        repeat' (first | exact hg | refine gb_set ?_ _ _)
      case measure => simp [intOf]; omega
    · obtain rfl : i = n := by omega
      have e : Hid (L = marks (fun m : Int => m) 1 k i) := by rw [Hid, HL2.out, ← HL.out]; simp
      go_wp2
      go_ret
      exact ⟨ret_i64 hm.out, by rw [← e.out]; exact ho, hg⟩

set_option maxHeartbeats 1000000 in
theorem heldIntS_any (A : Option Addr) (n c : Nat) (k : Int) (w : World) (hn : n ≤ 1048576) (hk0 : 0 ≤ k) (hk1 : k ≤ 16777216) (hs : Sl w A n (marks (fun m : Int => m) 1 k n)) :
    Calls Try.prog 50 #[.slice A n c, .int .i64 k] w fun e w' => e = .returned (.int .i64 (k + 1 * n)) ∧ Below w.heap.size w w' := by
  go_enter Try.func50, Try.ntmps50
  go_wp2
  go_loopw [1, 5] (fun u v wr => ∃ (i : Nat) (m : Int), i ≤ n ∧ v = .int .i64 i ∧ u = .int .i64 m ∧ Hid (m = k + 1 * (i : Int)) ∧ 0 ≤ m ∧ m ≤ 16777216 + (i : Int) ∧ Below w.heap.size w wr) (fun _ v _ => n - (intOf v).toNat)
  case atStart => exact ⟨0, k, Nat.zero_le _, rfl, rfl, by rw [Hid]; omega, hk0, by omega, bl_refl _⟩
  case round =>
    obtain ⟨i, m, hi, rfl, rfl, hm, hm0, hm1, hb⟩ := hrel
    by_cases hlt : i < n
    · obtain ⟨b, o, rfl, hbz, c0⟩ := (hs.below hb).int hlt
      have e : nth (marks (fun m : Int => m) 1 k n) i = (fun m : Int => m) m := by rw [marks_nth hlt, hm.out]; rfl
      rw [e] at c0
      have d0 : wr.cell? ⟨b, o + i, none⟩ = some (.int .i64 m) := c0
      clear hs e c0
      go_wp2
      go_roundw
      case rel => exact ⟨i + 1, m + 1, by omega, by go_num, rfl, by have := hm.out; rw [Hid]; omega, by omega, by omega, hb⟩
      case measure => simp [intOf]; omega
    · obtain rfl : i = n := by omega
      go_wp2
      go_ret
      exact ⟨ret_i64 hm.out, hb⟩

end Go.Proofs.Ytgjnjfaohpmhkaa
