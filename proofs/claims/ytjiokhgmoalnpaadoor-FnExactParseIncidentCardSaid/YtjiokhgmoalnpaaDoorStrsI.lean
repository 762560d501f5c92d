/-
  Lists of strings: the helpers of the laws over them. No conditions.
-/
import Derived.Test.YtjiokhgmoalnpaaDoorMarkT
import Derived.Test.YtjiokhgmoalnpaaDoorMem4
namespace Go.Proofs.YtjiokhgmoalnpaaDoor
open Go.RowKit

theorem Sl.str {w : World} {A : Option Addr} {n : Nat} {xs : List ByteArray} (h : Sl w A n xs) {k : Nat} (hk : k < n) :
    ∃ b o, A = some ⟨b, o, none⟩ ∧ b < w.heap.size ∧ w.cell? ⟨b, o + k, none⟩ = some (.string (nth xs k)) := by
  obtain ⟨b, o, rfl, hc⟩ := h.flat hk
  have h0 := hc 0 _ rfl
  have e : Flat.sz ByteArray = 1 := rfl
  rw [e, Nat.mul_one, Nat.add_zero] at h0
  exact ⟨b, o, rfl, h.lt hk, h0⟩
theorem Own.str {w : World} {base g n c : Nat} {E : TypeId} {xs : List ByteArray} (h : Own w base E (.slice (some ⟨g, 0, none⟩) n c) xs) {k : Nat} (hk : k < n) : w.cell? ⟨g, k, none⟩ = some (.string (nth xs k)) := by
  have h0 := h.cellAt hk 0 _ rfl
  have e : Flat.sz ByteArray = 1 := rfl
  rwa [e, Nat.mul_one, Nat.add_zero] at h0
theorem Own.putstr {w : World} {base g n c : Nat} {E : TypeId} {xs : List ByteArray} (h : Own w base E (.slice (some ⟨g, 0, none⟩) n c) xs) {k : Nat} (hk : k < n) (y : ByteArray) : Own (w.setCell ⟨g, k, none⟩ (.string (y))) base E (.slice (some ⟨g, 0, none⟩) n c) (xs.set k y) := by
  have h0 := h.put hk y
  have e : Flat.sz ByteArray = 1 := rfl
  rw [e, Nat.mul_one] at h0
  exact h0
theorem el_str : Elem Tryd.prog 30 9 (Flat.sz ByteArray) := elem_mk Tryd.underlying30 (by kernel_rfl)
set_option maxHeartbeats 1000000 in
theorem eqStringS_any (A B : Option Addr) (n m c d : Nat) (xs ys : List ByteArray) (w : World) (hn : (n : Int) ≤ 9223372036854775807) (hx : Sl w A n xs) (hy : Sl w B m ys) :
    Calls Tryd.prog 38 #[.slice A n c, .slice B m d] w fun e w' => e = .returned (.bool (sameB xs ys)) ∧ Below w.heap.size w w' := by
  have Hx := Lib.hid hx.1
  have Hy := Lib.hid hy.1
  by_cases hnm : n = m
  · subst hnm
    have hd : ((n : Int) != (n : Int)) = false := by simp
    go_enter Tryd.func38, Tryd.ntmps38
    go_wp2
    go_loopw [5] (fun i wr => ∃ k : Nat, k ≤ n ∧ i = .int .i64 k ∧ Below w.heap.size w wr ∧ Hid (xs.take k = ys.take k)) (fun i _ => n - (intOf i).toNat)
    case atStart => exact ⟨0, Nat.zero_le _, rfl, bl_refl _, rfl⟩
    case round =>
      obtain ⟨k, hk, rfl, hb, hg⟩ := hrel
      by_cases hlt : k < n
      · obtain ⟨b, o, rfl, _, c0⟩ := (hx.below hb).str hlt
        obtain ⟨b', o', rfl, _, d0⟩ := (hy.below hb).str hlt
        clear hx hy
        by_cases he : ((nth xs k).toList == (nth ys k).toList) = true
        · have he' : Hid (sameB (nth xs k) (nth ys k) = true) := by rw [Hid, sameB_iff]; exact bytes_inj (by simpa using he)
          go_wp2_with fail
          go_quiet (fail)
          go_wp2
          go_roundw
          case rel => exact ⟨k + 1, by omega, by go_num, bl_drewN hb _, sameB_take (by rw [Hx.out]; exact hlt) (by rw [Hy.out]; exact hlt) hg he'.out⟩
          case measure => simp [intOf]; omega
        · have he : ((nth xs k).toList == (nth ys k).toList) = false := by simpa using he
          have he' : Hid (sameB (nth xs k) (nth ys k) = false) := by rw [Hid, sameB_no]; intro e; rw [e] at he; simp at he
          go_wp2_with fail
          go_quiet (fail)
          go_wp2
          go_ret
          exact ⟨ret_bool (sameB_nth he'.out).symm, bl_drewN hb _⟩
      · obtain rfl : k = n := by omega
        go_wp2
        go_ret
        exact ⟨ret_bool (sameB_all Hx.out Hy.out hg).symm, hb⟩
  · have hd : ((n : Int) != (m : Int)) = true := by simp; omega
    go_enter Tryd.func38, Tryd.ntmps38
    go_wp2
    go_ret
    exact ⟨ret_bool (sameB_len (by rw [Hx.out, Hy.out]; exact hnm)).symm, bl_refl _⟩

/-- What a size function answers where the elements are counted in. -/
def SzPostN (w : World) (left : Int) (n : Nat) (e : Ending) (w' : World) : Prop :=
  ∃ r : Int, e = .returned (.int .i64 r) ∧ (r = -1 ∨ (0 ≤ r ∧ r + n ≤ left)) ∧ Below w.heap.size w w'
set_option maxHeartbeats 1000000 in
theorem szStringS_sum (A : Option Addr) (n c : Nat) (xs : List ByteArray) (left : Int) (w : World) (hn : (n : Int) ≤ 9223372036854775807) (hs : Sl w A n xs) (hv : ∀ x, x ∈ xs → x.size ≤ maxLen) (h0 : 0 ≤ left) (h1 : left ≤ 1048576) :
    Calls Tryd.prog 32 #[.slice A n c, .int .i64 left] w (SzPostN w left n) := by
  have HL := Lib.hid hs.1
  have HV := Lib.hid hv
  clear hv
  by_cases hlt : left < n
  · go_enter Tryd.func32, Tryd.ntmps32
    go_wp2
    go_ret
    exact ⟨-1, rfl, .inl rfl, bl_refl _⟩
  go_enter Tryd.func32, Tryd.ntmps32
  go_wp2
  go_loop [1, 5] (fun u v => ∃ (k : Nat) (r : Int), k ≤ n ∧ v = .int .i64 k ∧ u = .int .i64 r ∧ 0 ≤ r ∧ r + n ≤ left) (fun _ v => n - (intOf v).toNat)
  case atStart => exact ⟨0, left - n, Nat.zero_le _, rfl, rfl, by omega, by omega⟩
  case round =>
    obtain ⟨k, r, hk, rfl, rfl, hr0, hr1⟩ := hrel
    by_cases hkn : k < n
    · have hkx : Hid (k < xs.length) := by rw [Hid, HL.out]; exact hkn
      obtain ⟨b, o, rfl, hbz, c0⟩ := hs.str hkn
      have hzz := HV.out _ (nth_mem hkx.out)
      unfold maxLen at hzz
      clear hs
      by_cases hq : r < (nth xs k).size
      · go_wp2
        go_ret
        exact ⟨-1, rfl, .inl rfl, bl_refl _⟩
      · go_wp2
        go_round
        case rel => exact ⟨k + 1, r - (nth xs k).size, by omega, by go_num, rfl, by omega, by omega⟩
        case measure => simp [intOf]; omega
    · obtain rfl : k = n := by omega
      go_wp2
      go_ret
      exact ⟨r, rfl, .inr ⟨hr0, hr1⟩, bl_refl _⟩
theorem szStringS_any (A : Option Addr) (n c : Nat) (xs : List ByteArray) (left : Int) (w : World) (hn : (n : Int) ≤ 9223372036854775807) (hs : Sl w A n xs) (hv : ∀ x, x ∈ xs → x.size ≤ maxLen) (h0 : 0 ≤ left) (h1 : left ≤ 1048576) :
    Calls Tryd.prog 32 #[.slice A n c, .int .i64 left] w (SzPost w left ((n : Int) ≤ left ∧ True)) :=
  (szStringS_sum A n c xs left w hn hs hv h0 h1).mono fun e w' ⟨r, he, h, hb⟩ => ⟨r, he, h.imp id (fun ⟨a, b⟩ => ⟨a, by omega, by omega, trivial⟩), hb⟩

theorem str_info : (Tryd.prog.info? 9).map (fun i => (i.zero, i.size, i.bytes)) = some (some (.string ByteArray.empty), 1, 16) := by kernel_rfl
set_option maxHeartbeats 1000000 in
theorem toStringS_any (A : Option Addr) (n c : Nat) (xs : List ByteArray) (w : World) (hn : n ≤ 1048576) (hx : Sl w A n xs) :
    Calls Tryd.prog 35 #[.slice A n c] w (RetOwn w 9 xs) := by
  have Hx := Lib.hid hx.1
  obtain ⟨i0, hi, hz0, hz1, hz2⟩ := info_parts str_info
  have hmk := fun W => run_make_rowN (P := Tryd.prog) 30 9 i0 _ Tryd.underlying30 hi hz0 .i64 .i64 n n (Nat.le_refl _) (by rw [hz2]; omega) (by omega) W
  rw [hz1, Nat.mul_one] at hmk
  clear hi hz0 hz1 hz2
  go_enter Tryd.func35, Tryd.ntmps35
  go_wp2
  clear hmk
  go_loopw [4] (fun i wr => ∃ (k : Nat) (L : List ByteArray), k ≤ n ∧ i = .int .i64 k ∧ Below w.heap.size w wr ∧ Own wr w.heap.size 9 (.slice (some ⟨w.heap.size, 0, none⟩) n n) L ∧ Hid (L = xs.take k ++ List.replicate (n - k) ByteArray.empty)) (fun i _ => n - (intOf i).toNat)
  case atStart =>
    have h := Own.made w 9 ByteArray.empty (z := #[.string ByteArray.empty]) rfl n (by unfold maxLen; omega)
    have e : Flat.sz ByteArray = 1 := rfl
    rw [e, Nat.mul_one] at h
    exact ⟨0, _, Nat.zero_le _, rfl, bl_alloc (bl_refl _) _, h, rfl⟩
  case round =>
    obtain ⟨k, L, hk, rfl, hb, ho, HL⟩ := hrel
    by_cases hlt : k < n
    · obtain ⟨b, o, rfl, _, c0⟩ := (hx.below hb).str hlt
      have d0 := ho.str hlt
      have f0 := ho.frozenAt k
      clear hx
      go_wp2
      go_roundw
      case rel =>
        refine ⟨k + 1, L.set k (nth xs k), by omega, by go_num, ?_, ho.putstr hlt (nth xs k), set_take Hx.out hlt HL.out (get_nth (by rw [Hx.out]; exact hlt))⟩
        repeat' (first | exact hb | refine bl_set ?_ (Nat.le_refl _) _)
      case measure => simp [intOf]; omega
    · obtain rfl : k = n := by omega
      have HL2 : Hid (L = xs) := by rw [Hid, HL.out, ← Hx.out]; simp
      go_wp2
      go_ret
      exact retOwn_mk Hx.out (by rw [← HL2.out]; exact ho) hb

set_option maxHeartbeats 1000000 in
theorem markStringS_any (A : Option Addr) (n c base : Nat) (k : Int) (xs : List ByteArray) (w : World) (hn : n ≤ 1048576) (hk0 : 0 ≤ k) (hk1 : k ≤ 16777216) (ho : Own w base 9 (.slice A n c) xs) :
    Calls Tryd.prog 49 #[.slice A n c, .int .i64 k] w fun e w' => e = .returned (.int .i64 (k + 1 * n)) ∧ Own w' base 9 (.slice A n c) (marks mkT 1 k n) ∧ w.grownBy w' (Value.ownBlock (.slice A n c)) := by
  have HL := Lib.hid ho.sl.1
  go_enter Tryd.func49, Tryd.ntmps49
  go_wp2
  go_loopw [1, 5] (fun u v wr => ∃ (i : Nat) (m : Int) (L : List ByteArray), i ≤ n ∧ v = .int .i64 i ∧ u = .int .i64 m ∧ Hid (m = k + 1 * (i : Int)) ∧ 0 ≤ m ∧ m ≤ 16777216 + (i : Int) ∧ Own wr base 9 (.slice A n c) L ∧ Hid (L = marks mkT 1 k i ++ xs.drop i) ∧ w.grownBy wr (Value.ownBlock (.slice A n c))) (fun _ v _ => n - (intOf v).toNat)
  case atStart => exact ⟨0, k, xs, Nat.zero_le _, rfl, rfl, by rw [Hid]; omega, hk0, by omega, ho, by rw [Hid]; simp [marks], gb_refl _ _⟩
  case round =>
    obtain ⟨i, m, L, hi, rfl, rfl, hm, hm0, hm1, ho, HL2, hg⟩ := hrel
    by_cases hlt : i < n
    · obtain ⟨g, rfl⟩ := ho.form (by omega)
      go_wp2_with fail
      refine (markText_any m _ hm0 (by omega)).mono ?_
      rintro e V ⟨rfl, hV⟩
      have hoV := ho.below hV
      have hgV := gb_trans hg (gb_below hV _)
      have d0 := hoV.str hlt
      have f0 := hoV.frozenAt i
      clear ho hg
      go_wp2
      go_roundw
      case rel =>
        refine ⟨i + 1, m + 1, L.set i (mkT m), by omega, by go_num, rfl, by have := hm.out; rw [Hid]; omega, by omega, by omega, hoV.putstr hlt (mkT m), marks_put HL.out hlt HL2.out (by rw [hm.out]; rfl), ?_⟩
        repeat' (first | exact hgV | refine gb_set ?_ _ _)
      case measure => simp [intOf]; omega
    · obtain rfl : i = n := by omega
      have e : Hid (L = marks mkT 1 k i) := by rw [Hid, HL2.out, ← HL.out]; simp
      go_wp2
      go_ret
      exact ⟨ret_i64 hm.out, by rw [← e.out]; exact ho, hg⟩

set_option maxHeartbeats 1000000 in
theorem heldStringS_any (A : Option Addr) (n c : Nat) (k : Int) (w : World) (hn : n ≤ 1048576) (hk0 : 0 ≤ k) (hk1 : k ≤ 16777216) (hs : Sl w A n (marks mkT 1 k n)) :
    Calls Tryd.prog 50 #[.slice A n c, .int .i64 k] w fun e w' => e = .returned (.int .i64 (k + 1 * n)) ∧ Below w.heap.size w w' := by
  go_enter Tryd.func50, Tryd.ntmps50
  go_wp2
  go_loopw [1, 5] (fun u v wr => ∃ (i : Nat) (m : Int), i ≤ n ∧ v = .int .i64 i ∧ u = .int .i64 m ∧ Hid (m = k + 1 * (i : Int)) ∧ 0 ≤ m ∧ m ≤ 16777216 + (i : Int) ∧ Below w.heap.size w wr) (fun _ v _ => n - (intOf v).toNat)
  case atStart => exact ⟨0, k, Nat.zero_le _, rfl, rfl, by rw [Hid]; omega, hk0, by omega, bl_refl _⟩
  case round =>
    obtain ⟨i, m, hi, rfl, rfl, hm, hm0, hm1, hb⟩ := hrel
    by_cases hlt : i < n
    · obtain ⟨b, o, rfl, hbz, c0⟩ := (hs.below hb).str hlt
      have e : nth (marks mkT 1 k n) i = mkT m := by rw [marks_nth hlt, hm.out]; rfl
      rw [e] at c0
      have d0 : wr.cell? ⟨b, o + i, none⟩ = some (.string (mkT m)) := c0
      clear hs e c0
      go_wp2_with fail
      refine wp_region_grow (by kernel_rfl) (by kernel_rfl) (fun W hW => ?_)
      have g0 := Gw.cell (by rw [hW]; exact d0 : W.cell? _ = _)
      have HW := Lib.hid hW
      clear hW
      repeat (go_big_quiet_step ((go_at_call 45; exact Calls.grow_of (markText_any m _ hm0 (by omega)))))
      refine wpGrow_nil (fun V hV => ?_)
      have hV : Below wr.heap.size wr V := by rw [← HW.out]; exact hV
      have hbV := bl_trans hb hV
      clear g0 hb d0
      go_wp2
      go_roundw
      case rel => exact ⟨i + 1, m + 1, by omega, by go_num, rfl, by have := hm.out; rw [Hid]; omega, by omega, by omega, hbV⟩
      case measure => simp [intOf]; omega
    · obtain rfl : i = n := by omega
      go_wp2
      go_ret
      exact ⟨ret_i64 hm.out, hb⟩

end Go.Proofs.YtjiokhgmoalnpaaDoor
