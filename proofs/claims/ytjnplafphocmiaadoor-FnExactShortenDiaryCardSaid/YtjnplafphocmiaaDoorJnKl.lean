/-
  The program's last states. No conditions.
-/
import Derived.Test.YtjnplafphocmiaaDoorLibSB
import Derived.Test.YtjnplafphocmiaaDoorJnX
namespace Go.Proofs.YtjnplafphocmiaaDoor
open Go.RowKit

theorem not_less {x y : State} (h : 0 ≤ cmpN x y) : stLess x y = false := by
  cases h2 : stLess x y with
  | false => rfl
  | true => have := (cmpN_lt x y).2 h2; omega
theorem upd_found {xs : List State} {s : State} {k n : Nat} (hl : xs.length = n) (hk : k < n) (h1 : ∀ j, j < k → cmpN (nth xs j) s < 0) (h2 : ∀ j, k ≤ j → j < n → 0 ≤ cmpN (nth xs j) s) (h3 : cmpN (nth xs k) s = 0) : updS xs s = xs.set k s := by
  rw [upd_same hl hk (fun j hj => (cmpN_lt _ _).1 (h1 j hj)) (not_less (h2 k (Nat.le_refl _) hk)) (by unfold sameN; rw [(cmpN_zero _ _).1 h3]; simp)]
  rw [List.set_eq_take_append_cons_drop, if_pos (by omega), List.append_assoc]; rfl
theorem upd_ins {xs : List State} {s : State} {k n : Nat} (hl : xs.length = n) (hk : k ≤ n) (h1 : ∀ j, j < k → cmpN (nth xs j) s < 0) (h2 : ∀ j, k ≤ j → j < n → 0 ≤ cmpN (nth xs j) s) (h3 : k < n → ¬ cmpN (nth xs k) s = 0) : updS xs s = insAt xs k s := by
  rw [upd_new hl hk (fun j hj => (cmpN_lt _ _).1 (h1 j hj)) (fun h => not_less (h2 k (Nat.le_refl _) h)) (fun h => by
    cases h4 : sameN (nth xs k) s with
    | false => rfl
    | true => exact absurd ((cmpN_zero _ _).2 (eq_of_beq h4)) (h3 h))]
  unfold insAt
  rw [List.append_assoc]; rfl
set_option maxRecDepth 100000 in
set_option maxHeartbeats 8000000 in
theorem lastStates_any (l : List State) (A : Option Addr) (n c : Nat) (w : World) (hn : n ≤ 1048576) (hs : Sl w A n l) :
    Calls Tryd.prog 62 #[.slice A n c] w (RetOwn w 27 (knownL l)) := by
  have HL := Lib.hid hs.1
  go_enter Tryd.func62, Tryd.ntmps62
  go_wp2
  go_loopw [3, 10] (fun v iv wr => ∃ (i q c' : Nat) (A' : Option Addr), i ≤ n ∧ iv = .int .i64 i ∧ v = .slice A' q c' ∧ q ≤ i ∧ Own wr w.heap.size 27 (.slice A' q c') (knownL (l.take i)) ∧ Below w.heap.size w wr) (fun _ iv _ => n - (intOf iv).toNat)
  case atStart => exact ⟨0, 0, 0, none, Nat.zero_le _, rfl, rfl, Nat.le_refl _, Own.nil _ _ _, bl_refl _⟩
  case round =>
    obtain ⟨i, q, c', A', hin, rfl, rfl, hq, ho, hb⟩ := hrel
    by_cases hlt : i < n
    · obtain ⟨b, o, rfl, hbz, c0, c1⟩ := (hs.below hb).state hlt
      clear hs
      have hnx := known_next (l := l) (k := i) (by rw [HL.out]; exact hlt)
      have hsr := known_srt (l.take i)
      obtain ⟨M, hM⟩ : ∃ M, M = knownL (l.take i) := ⟨_, rfl⟩
      obtain ⟨y, hy⟩ : ∃ y, y = nth l i := ⟨_, rfl⟩
      rw [← hM] at ho hnx hsr
      rw [← hy] at c0 c1 hnx
      have HN := Lib.hid hnx
      have HS := Lib.hid hsr
      clear hM hy hnx hsr
      have HM := Lib.hid ho.sl.1
      obtain ⟨hqc, hcm⟩ := ho.cap
      unfold maxLen at hcm
      go_wp2_with fail
      refine (searchFunc_state M A' q c' y _ #[] (fun x => cmpN x y) _ (by omega) (ho.sl.below (bl_alloc (bl_refl _) _)) enters_last (srt_mono HS.out y HM.out) (fun x _ W => lastCmp_any x y W)).mono ?_
      rintro e V ⟨k, rfl, hkq, hg, hb1⟩
      have y0 : V.cell? ⟨wr.heap.size, 0, none⟩ = some (.string y.Name) := cell_later hb1 (by go_simp)
      have y1 : V.cell? ⟨wr.heap.size, 1, none⟩ = some (.int .i64 y.Value) := cell_later hb1 (by go_simp)
      have hB1 := bl_trans (a := wr) (bl_alloc (bl_refl _) _) hb1
      have hk1 := bl_trans hb hB1
      have hoV := ho.below hB1
      clear hb1 hB1 ho c0 c1
      by_cases hin2 : k < q ∧ cmpN (nth M k) y = 0
      · obtain ⟨hkq2, hz⟩ := hin2
        have HU : Hid (knownL (l.take (i + 1)) = M.set k y) := by rw [Hid, HN.out]; exact upd_found HM.out hkq2 hg.1 hg.2 hz
        have hfd : (decide (k < q) && decide (cmpN (nth M k) y = 0)) = true := by simp [hkq2, hz]
        rw [hfd]
        clear hz hfd hg
        obtain ⟨g, rfl⟩ := hoV.form (by omega)
        have d0 : V.cell? ⟨g, k * 2, none⟩ = some (.string (nth M k).Name) := hoV.cellAt hkq2 0 _ rfl
        have d1 : V.cell? ⟨g, k * 2 + 1, none⟩ = some (.int .i64 (nth M k).Value) := hoV.cellAt hkq2 1 _ rfl
        have f0 := hoV.frozenAt (k * 2)
        have f1 := hoV.frozenAt (k * 2 + 1)
        have hgb : w.heap.size ≤ g := (hoV.lt g rfl).1
        have HO := Lib.hid (hoV.put hkq2 y)
        clear hoV
        go_wp2
        go_roundw
        case rel => exact ⟨i + 1, q, c', some ⟨g, 0, none⟩, by omega, by go_num, rfl, by omega, by rw [HU.out]; exact HO.out, bl_set (bl_set hk1 hgb _) hgb _⟩
        case measure => simp [intOf]; omega
      · have HU : Hid (knownL (l.take (i + 1)) = insAt M k y) := by rw [Hid, HN.out]; exact upd_ins HM.out hkq hg.1 hg.2 (fun h hz => hin2 ⟨h, hz⟩)
        have hfd : (decide (k < q) && decide (cmpN (nth M k) y = 0)) = false := by
          rw [Bool.and_eq_false_iff, decide_eq_false_iff_not, decide_eq_false_iff_not]
          by_cases h : k < q
          · exact .inr (fun hz => hin2 ⟨h, hz⟩)
          · exact .inl h
        rw [hfd]
        clear hfd hg hin2
        go_wp2_with fail
        refine (insert_state M A' q c' k w.heap.size _ _ y _ (by omega) hkq (hoV.alloc _) (by have := hk1.size; simp only [World.size_alloc]; omega) (by simp only [World.alloc, Array.getElem?_push_size]; rfl) (fun g hgA hgv => ?_)).mono ?_
        focus (have := (hoV.lt g (by rw [hgA]; rfl)).2; omega)
        rintro e V2 ⟨A2, c2, rfl, ho2, hg2⟩
        have hk2 := bl_grown (bl_alloc hk1 _) hg2 (fun k hk => (hoV.lt k hk).1)
        clear hg2 hoV
        go_wp2
        go_roundw
        case rel => exact ⟨i + 1, q + 1, c2, A2, by omega, by go_num, rfl, by omega, by rw [HU.out]; exact ho2, hk2⟩
        case measure => simp [intOf]; omega
    · obtain hin2 : i = n := by omega
      have hfl : l.take i = l := List.take_of_length_le (by rw [HL.out]; omega)
      rw [hfl] at ho
      clear hs
      go_wp2
      go_ret
      exact retOwn_mk ho.sl.1 ho hb

end Go.Proofs.YtjnplafphocmiaaDoor
