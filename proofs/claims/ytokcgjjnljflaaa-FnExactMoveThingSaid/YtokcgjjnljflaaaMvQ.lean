/-
  Things with another one put to them. No conditions.
-/
import Derived.Test.YtokcgjjnljflaaaMvT
import Derived.StillTailTactics
namespace Go.Proofs.Ytokcgjjnljflaaa
open Go.RowKit

theorem insAt_mk {α : Type} (xs : List α) (k : Nat) (y : α) : insAt xs k y = xs.take k ++ [y] ++ xs.drop k := by simp [insAt]
set_option maxRecDepth 100000 in
set_option maxHeartbeats 8000000 in
theorem eqPut_any (xs : List Thing) (t : Thing) (A : Option Addr) (n c : Nat) (w : World) (hn : n ≤ 1048576) (hc : n ≤ c) (hcm : (c : Int) ≤ 9223372036854775807) (hs : Sl w A n xs) (hx : thingsB xs = true) (ht : 1 ≤ t.Count ∧ t.Count ≤ 99) :
    Calls Try.prog 52 #[.slice A n c, .agg #[.string t.Name, .int .i64 t.Count, .int .i64 t.Day]] w (RetOwn w 59 (putT xs t)) := by
  have HL := Lib.hid hs.1
  have hlx := thingsB_len hx
  have HCT := Lib.hid (fun k (hk : k < xs.length) => count_in hx hk)
  have hn12 : n ≤ 12 := by have := HL.out; omega
  clear hx
  go_enter Try.func52, Try.ntmps52
  go_wp2_with fail
  refine (eqFind_at xs _ _ _ t.Name _ (by omega) (hs.below (bl_alloc (bl_refl _) _))).mono ?_
  rintro e V0 ⟨k, rfl, hle, hb1⟩
  have hV := bl_trans (bl_alloc (bl_refl w) _) hb1
  have y0 : V0.cell? ⟨w.heap.size, 0, none⟩ = some (.string t.Name) := cell_later hb1 (by go_simp)
  have y1 : V0.cell? ⟨w.heap.size, 1, none⟩ = some (.int .i64 t.Count) := cell_later hb1 (by go_simp)
  have y2 : V0.cell? ⟨w.heap.size, 2, none⟩ = some (.int .i64 t.Day) := cell_later hb1 (by go_simp)
  have f0 : V0.frozen? ⟨w.heap.size, 1, none⟩ = false := frozen_later hb1 (by simp) (by go_simp)
  have f1 : V0.frozen? ⟨w.heap.size, 2, none⟩ = false := frozen_later hb1 (by simp) (by go_simp)
  have hkn : k ≤ n := by have := hle.1; have := HL.out; omega
  have hst := Lib.hid (hs.take (n := n) hkn)
  have HS := Lib.hid hs
  have hkI : (k : Int) ≤ c := by omega
  have hkI2 : (k : Int) ≤ n := by omega
  have hkc : k ≤ c := by omega
  have hwV : w.heap.size < V0.heap.size := World.block_lt_of_cell? _ _ y0
  have hnc : (n : Int) ≤ c := by omega
  clear hb1
  cases hh : hitT xs t.Name k
  · have HZ := Lib.hid (putT_miss hle hh)
    clear hh hle f0 f1
    by_cases hlt : k < n
    · obtain ⟨b, o, rfl, hbz, _, _, _⟩ := hs.thing hlt
      have hck : ¬ c = k := by omega
      have hsd : Hid (Sl V0 (some ⟨b, o + k * 3, none⟩) (n - k) (xs.drop k)) := by
        have e2 : k * Flat.sz Thing = k * 3 := rfl
        have h := (HS.out.below hV).dropK (i := k)
        rw [e2] at h
        exact h
      have hst := Lib.hid (hst.out.below hV)
      clear hs
      obtain ⟨V, hVV⟩ : ∃ W, W = V0 := ⟨_, rfl⟩
      subst hVV
      obtain ⟨y, hy⟩ : ∃ y, y = t := ⟨_, rfl⟩
      subst hy
      have hwX := hV
      have hwz := hwX.size
      go_wp2_with fail
      go_region_held3 (fun w' => w'.cell? ⟨w.heap.size, 0, none⟩ = some (.string y.Name) ∧ w'.cell? ⟨w.heap.size, 1, none⟩ = some (.int .i64 y.Count) ∧ w'.cell? ⟨w.heap.size, 2, none⟩ = some (.int .i64 y.Day)) (refine ⟨cell_later (?_ : Below V.heap.size V _) y0, cell_later (?_ : Below V.heap.size V _) y1, cell_later (?_ : Below V.heap.size V _) y2⟩ <;> (repeat' (first | assumption | exact bl_refl _ | refine bl_alloc ?_ _ | refine bl_drew ?_)))
        (first
          | (refine step_appB rfl (.tmp 41) (.tmp 44) _ _ rfl el_thing (xs := ([] : List Thing)) (ys := xs.take k) (w0 := V) rfl rfl ?_ ?_ ?_ (by omega) ?_; (first | (focus (refine Own.below (w := V.alloc (.cells #[] 59)) (Own.built V _ (Nat.le_refl _)) ?_; (repeat' (first | assumption | exact bl_refl _ | refine bl_alloc ?_ _ | refine bl_drew ?_)); done)) | (focus (refine Own.below (w := (V.alloc (.cells #[.string y.Name, .int .i64 y.Count, .int .i64 y.Day] 59)).alloc (.cells #[] 59)) ?_ ?_; (focus (have hbu := Own.built (α := Thing) (V.alloc (.cells #[.string y.Name, .int .i64 y.Count, .int .i64 y.Day] 59)) 59 (base := V.heap.size) (by simp); simpa using hbu)); (repeat' (first | assumption | exact bl_refl _ | refine bl_alloc ?_ _ | refine bl_drew ?_)); done))); (repeat' (first | assumption | exact bl_refl _ | refine bl_alloc ?_ _ | refine bl_drew ?_)); (exact hst.out.below (by repeat' (first | assumption | exact bl_refl _ | refine bl_alloc ?_ _ | refine bl_drew ?_))); (intro A1 c1 V1 ho1 hB1 hg1))
          | (refine step_appB rfl (.tmp 45) (.tmp 47) _ _ rfl el_thing (xs := xs.take k) (ys := [y]) (w0 := V) rfl rfl ?_ ?_ ?_ (by omega) ?_; (first | (simpa using ho1) | (exact Own.alloc (by simpa using ho1) _)); (repeat' (first | assumption | exact bl_refl _ | refine bl_alloc ?_ _ | refine bl_drew ?_)); (refine sl_thing1 ?_ ?_ ?_ <;> (first | (focus (go_simp; done)) | (focus (refine (hg1.cell_far _ ?_ ?_).trans ?_ <;> first | (simp; done) | (simp [Value.ownBlock]; done) | (go_simp; done) | (simp [Value.ownBlock]; omega))))); (intro A2 c2 V2 ho2 hB2 hg2))
          | (refine step_appB rfl (.tmp 48) (.tmp 49) _ _ rfl el_thing (xs := xs.take k ++ [y]) (ys := xs.drop k) (w0 := V) rfl rfl ho2 hB2 (hsd.out.below hB2) (by omega) ?_; (intro A3 c3 V3 ho3 hB3 hg3)))
      all_goals
        (try simp only [Nat.zero_add] at ho3)
        go_wp2
        all_goals (go_ret; exact retOwn_mk (by rw [HZ.out, insAt_mk]; simp; have := HL.out; omega) (by rw [HZ.out, insAt_mk]; exact ho3.mono hwz) (bl_trans hwX hB3))
    · obtain rfl : k = n := by omega
      have hsd : Hid (∀ B, Sl V0 B 0 (xs.drop k)) := fun B => by
        have e : xs.drop k = [] := List.eq_nil_of_length_eq_zero (by rw [List.length_drop]; have := HL.out; omega)
        rw [e]; exact Sl.nil _ _
      have hst := Lib.hid (hst.out.below hV)
      clear hs
      obtain ⟨V, hVV⟩ : ∃ W, W = V0 := ⟨_, rfl⟩
      subst hVV
      obtain ⟨y, hy⟩ : ∃ y, y = t := ⟨_, rfl⟩
      subst hy
      have hwX := hV
      have hwz := hwX.size
      by_cases hck : c = k
      · go_wp2_with fail
        go_region_held3 (fun w' => w'.cell? ⟨w.heap.size, 0, none⟩ = some (.string y.Name) ∧ w'.cell? ⟨w.heap.size, 1, none⟩ = some (.int .i64 y.Count) ∧ w'.cell? ⟨w.heap.size, 2, none⟩ = some (.int .i64 y.Day)) (refine ⟨cell_later (?_ : Below V.heap.size V _) y0, cell_later (?_ : Below V.heap.size V _) y1, cell_later (?_ : Below V.heap.size V _) y2⟩ <;> (repeat' (first | assumption | exact bl_refl _ | refine bl_alloc ?_ _ | refine bl_drew ?_)))
          (first
            | (refine step_appB rfl (.tmp 41) (.tmp 44) _ _ rfl el_thing (xs := ([] : List Thing)) (ys := xs.take k) (w0 := V) rfl rfl ?_ ?_ ?_ (by omega) ?_; (first | (focus (refine Own.below (w := V.alloc (.cells #[] 59)) (Own.built V _ (Nat.le_refl _)) ?_; (repeat' (first | assumption | exact bl_refl _ | refine bl_alloc ?_ _ | refine bl_drew ?_)); done)) | (focus (refine Own.below (w := (V.alloc (.cells #[.string y.Name, .int .i64 y.Count, .int .i64 y.Day] 59)).alloc (.cells #[] 59)) ?_ ?_; (focus (have hbu := Own.built (α := Thing) (V.alloc (.cells #[.string y.Name, .int .i64 y.Count, .int .i64 y.Day] 59)) 59 (base := V.heap.size) (by simp); simpa using hbu)); (repeat' (first | assumption | exact bl_refl _ | refine bl_alloc ?_ _ | refine bl_drew ?_)); done))); (repeat' (first | assumption | exact bl_refl _ | refine bl_alloc ?_ _ | refine bl_drew ?_)); (exact hst.out.below (by repeat' (first | assumption | exact bl_refl _ | refine bl_alloc ?_ _ | refine bl_drew ?_))); (intro A1 c1 V1 ho1 hB1 hg1))
            | (refine step_appB rfl (.tmp 45) (.tmp 47) _ _ rfl el_thing (xs := xs.take k) (ys := [y]) (w0 := V) rfl rfl ?_ ?_ ?_ (by omega) ?_; (first | (simpa using ho1) | (exact Own.alloc (by simpa using ho1) _)); (repeat' (first | assumption | exact bl_refl _ | refine bl_alloc ?_ _ | refine bl_drew ?_)); (refine sl_thing1 ?_ ?_ ?_ <;> (first | (focus (go_simp; done)) | (focus (refine (hg1.cell_far _ ?_ ?_).trans ?_ <;> first | (simp; done) | (simp [Value.ownBlock]; done) | (go_simp; done) | (simp [Value.ownBlock]; omega))))); (intro A2 c2 V2 ho2 hB2 hg2))
            | (refine step_appB rfl (.tmp 48) (.tmp 49) _ _ rfl el_thing (xs := xs.take k ++ [y]) (ys := xs.drop k) (w0 := V) rfl rfl ho2 hB2 ((hsd.out _).below hB2) (by omega) ?_; (intro A3 c3 V3 ho3 hB3 hg3)))
        all_goals
          (try simp only [Nat.zero_add] at ho3)
          go_wp2
          all_goals (go_ret; exact retOwn_mk (by rw [HZ.out, insAt_mk]; simp; have := HL.out; omega) (by rw [HZ.out, insAt_mk]; exact ho3.mono hwz) (bl_trans hwX hB3))
      · go_wp2_with fail
        go_region_held3 (fun w' => w'.cell? ⟨w.heap.size, 0, none⟩ = some (.string y.Name) ∧ w'.cell? ⟨w.heap.size, 1, none⟩ = some (.int .i64 y.Count) ∧ w'.cell? ⟨w.heap.size, 2, none⟩ = some (.int .i64 y.Day)) (refine ⟨cell_later (?_ : Below V.heap.size V _) y0, cell_later (?_ : Below V.heap.size V _) y1, cell_later (?_ : Below V.heap.size V _) y2⟩ <;> (repeat' (first | assumption | exact bl_refl _ | refine bl_alloc ?_ _ | refine bl_drew ?_)))
          (first
            | (refine step_appB rfl (.tmp 41) (.tmp 44) _ _ rfl el_thing (xs := ([] : List Thing)) (ys := xs.take k) (w0 := V) rfl rfl ?_ ?_ ?_ (by omega) ?_; (first | (focus (refine Own.below (w := V.alloc (.cells #[] 59)) (Own.built V _ (Nat.le_refl _)) ?_; (repeat' (first | assumption | exact bl_refl _ | refine bl_alloc ?_ _ | refine bl_drew ?_)); done)) | (focus (refine Own.below (w := (V.alloc (.cells #[.string y.Name, .int .i64 y.Count, .int .i64 y.Day] 59)).alloc (.cells #[] 59)) ?_ ?_; (focus (have hbu := Own.built (α := Thing) (V.alloc (.cells #[.string y.Name, .int .i64 y.Count, .int .i64 y.Day] 59)) 59 (base := V.heap.size) (by simp); simpa using hbu)); (repeat' (first | assumption | exact bl_refl _ | refine bl_alloc ?_ _ | refine bl_drew ?_)); done))); (repeat' (first | assumption | exact bl_refl _ | refine bl_alloc ?_ _ | refine bl_drew ?_)); (exact hst.out.below (by repeat' (first | assumption | exact bl_refl _ | refine bl_alloc ?_ _ | refine bl_drew ?_))); (intro A1 c1 V1 ho1 hB1 hg1))
            | (refine step_appB rfl (.tmp 45) (.tmp 47) _ _ rfl el_thing (xs := xs.take k) (ys := [y]) (w0 := V) rfl rfl ?_ ?_ ?_ (by omega) ?_; (first | (simpa using ho1) | (exact Own.alloc (by simpa using ho1) _)); (repeat' (first | assumption | exact bl_refl _ | refine bl_alloc ?_ _ | refine bl_drew ?_)); (refine sl_thing1 ?_ ?_ ?_ <;> (first | (focus (go_simp; done)) | (focus (refine (hg1.cell_far _ ?_ ?_).trans ?_ <;> first | (simp; done) | (simp [Value.ownBlock]; done) | (go_simp; done) | (simp [Value.ownBlock]; omega))))); (intro A2 c2 V2 ho2 hB2 hg2))
            | (refine step_appB rfl (.tmp 48) (.tmp 49) _ _ rfl el_thing (xs := xs.take k ++ [y]) (ys := xs.drop k) (w0 := V) rfl rfl ho2 hB2 ((hsd.out _).below hB2) (by omega) ?_; (intro A3 c3 V3 ho3 hB3 hg3)))
        all_goals
          (try simp only [Nat.zero_add] at ho3)
          go_wp2
          all_goals (go_ret; exact retOwn_mk (by rw [HZ.out, insAt_mk]; simp; have := HL.out; omega) (by rw [HZ.out, insAt_mk]; exact ho3.mono hwz) (bl_trans hwX hB3))
  · have HZ := Lib.hid (putT_hit hle hh)
    have hkx : k < n := by
      unfold hitT at hh
      simp only [Bool.and_eq_true, decide_eq_true_eq] at hh
      have := HL.out; omega
    have hct := HCT.out k (by rw [HL.out]; exact hkx)
    obtain ⟨b, o, rfl, hbz, c0, c1, c2⟩ := hs.thing hkx
    have c1 := cell_later hV c1
    have c2 := cell_later hV c2
    have hbn : b ≠ w.heap.size := by omega
    have hbn2 : w.heap.size ≠ b := by omega
    have hbV : b < V0.heap.size := by omega
    have hw1 : IntKind.i64.wrap (t.Count + (nth xs k).Count) = t.Count + (nth xs k).Count := IntWalk.i64_in _ (by omega)
    clear hh hle c0 hs
    go_wp2_with fail
    go_still_tail 9, (by kernel_rfl)
    change wpList _ _ _ _ _ V0.drew
    obtain ⟨V1, hV1⟩ : ∃ U, U = V0.drew := ⟨_, rfl⟩
    rw [← hV1]
    have hd1 : Below V0.heap.size V0 V1 := by rw [hV1]; exact bl_drew (bl_refl _)
    have y0 := cell_later hd1 y0
    have y1 := cell_later hd1 y1
    have y2 := cell_later hd1 y2
    have c2 := cell_later hd1 c2
    have f0 := frozen_later hd1 hwV f0
    have f1 := frozen_later hd1 hwV f1
    have hV := bl_trans hV hd1
    have hwV1 : w.heap.size < V1.heap.size := World.block_lt_of_cell? _ _ y0
    clear c1 hd1 hV1
    go_upto_region 5 with fail
    refine wp_hide (R := fun X => Below w.heap.size w X ∧ w.heap.size < X.heap.size ∧ X.cell? ⟨w.heap.size, 0, none⟩ = some (.string t.Name) ∧ X.cell? ⟨w.heap.size, 1, none⟩ = some (.int .i64 (t.Count + (nth xs k).Count)) ∧ X.cell? ⟨w.heap.size, 2, none⟩ = some (.int .i64 t.Day) ∧ X.cell? ⟨b, o + k * 3 + 2, none⟩ = some (.int .i64 (nth xs k).Day) ∧ X.frozen? ⟨w.heap.size, 2, none⟩ = false) ⟨by repeat' (first | exact hV | refine bl_drew ?_ | refine bl_set ?_ (Nat.le_refl _) _), by simp; omega, by go_simp, by go_simp, by go_simp, by go_simp, by go_simp⟩ (fun X ⟨hXV, hXz, y0, y1, y2, c2, f1⟩ => ?_)
    refine wp_region_still_tail 9 (by kernel_rfl) (by kernel_rfl) ?_
    simp only [List.take_succ_cons, List.take_zero, List.drop_succ_cons, List.drop_zero]
    repeat still_step
    still_call (l1Least_any _ _ _)
    repeat still_step
    refine wpStill_nil ?_
    change wpList _ _ _ _ _ X.drew
    obtain ⟨X1, hX1⟩ : ∃ U, U = X.drew := ⟨_, rfl⟩
    rw [← hX1]
    have hd2 : Below X.heap.size X X1 := by rw [hX1]; exact bl_drew (bl_refl _)
    obtain ⟨y, hy⟩ : ∃ y, y = putY xs t k := ⟨_, rfl⟩
    have y0 : X1.cell? ⟨w.heap.size, 0, none⟩ = some (.string y.Name) := by rw [hy]; exact cell_later hd2 y0
    have y1 : X1.cell? ⟨w.heap.size, 1, none⟩ = some (.int .i64 y.Count) := by rw [hy]; exact cell_later hd2 y1
    have y2 := cell_later hd2 y2
    have f1 := frozen_later hd2 hXz f1
    have hXV := bl_trans hXV hd2
    have hXz : w.heap.size < X1.heap.size := World.block_lt_of_cell? _ _ y0
    have e2 : lessI t.Day (nth xs k).Day = y.Day := by rw [hy]; rfl
    rw [e2]
    have HZ : Hid (putT xs t = xs.take k ++ [y] ++ xs.drop (k + 1)) := by rw [Hid, hy, HZ.out, List.set_eq_take_append_cons_drop, if_pos (by rw [HL.out]; exact hkx)]; simp
    have hk1I : (k : Int) + 1 ≤ n := by omega
    have hk0 : (0 : Int) ≤ (k : Int) + 1 := by omega
    have hk1c : (k : Int) + 1 ≤ c := by omega
    have hkt : ((k : Int) + 1).toNat = k + 1 := by omega
    have hsd : Hid (∀ B, (n - (k + 1) = 0 ∨ B = some ⟨b, o + (k + 1) * 3, none⟩) → Sl w B (n - (k + 1)) (xs.drop (k + 1))) := fun B hB => by
      rcases hB with h0 | rfl
      · have e : xs.drop (k + 1) = [] := List.eq_nil_of_length_eq_zero (by rw [List.length_drop]; have := HL.out; omega)
        rw [e, h0]; exact Sl.nil _ _
      · have e2 : (k + 1) * Flat.sz Thing = (k + 1) * 3 := rfl
        have h := HS.out.dropK (i := k + 1)
        rw [e2] at h
        exact h
    clear c2 hd2 hX1 hy e2
    by_cases hcc : c = k + 1
    · have hk2 : (k : Int) ≤ (k : Int) + 1 := by omega
      go_upto_region 7 with fail
      refine wp_hide (R := fun X => Below w.heap.size w X ∧ w.heap.size < X.heap.size ∧ X.cell? ⟨w.heap.size, 0, none⟩ = some (.string y.Name) ∧ X.cell? ⟨w.heap.size, 1, none⟩ = some (.int .i64 y.Count) ∧ X.cell? ⟨w.heap.size, 2, none⟩ = some (.int .i64 y.Day)) ⟨by repeat' (first | exact hXV | refine bl_set ?_ (Nat.le_refl _) _), by simp; omega, by go_simp, by go_simp, by go_simp⟩ (fun V ⟨hwX, hVz, y0, y1, y2⟩ => ?_)
      have hwz := hwX.size
      have hst := Lib.hid (hst.out.below hwX)
      clear f0 f1 hXV hXz
      go_region_held3 (fun w' => w'.cell? ⟨w.heap.size, 0, none⟩ = some (.string y.Name) ∧ w'.cell? ⟨w.heap.size, 1, none⟩ = some (.int .i64 y.Count) ∧ w'.cell? ⟨w.heap.size, 2, none⟩ = some (.int .i64 y.Day)) (refine ⟨cell_later (?_ : Below V.heap.size V _) y0, cell_later (?_ : Below V.heap.size V _) y1, cell_later (?_ : Below V.heap.size V _) y2⟩ <;> (repeat' (first | assumption | exact bl_refl _ | refine bl_alloc ?_ _ | refine bl_drew ?_)))
        (first
          | (refine step_appB rfl (.tmp 41) (.tmp 44) _ _ rfl el_thing (xs := ([] : List Thing)) (ys := xs.take k) (w0 := V) rfl rfl ?_ ?_ ?_ (by omega) ?_; (first | (focus (refine Own.below (w := V.alloc (.cells #[] 59)) (Own.built V _ (Nat.le_refl _)) ?_; (repeat' (first | assumption | exact bl_refl _ | refine bl_alloc ?_ _ | refine bl_drew ?_)); done)) | (focus (refine Own.below (w := (V.alloc (.cells #[.string y.Name, .int .i64 y.Count, .int .i64 y.Day] 59)).alloc (.cells #[] 59)) ?_ ?_; (focus (have hbu := Own.built (α := Thing) (V.alloc (.cells #[.string y.Name, .int .i64 y.Count, .int .i64 y.Day] 59)) 59 (base := V.heap.size) (by simp); simpa using hbu)); (repeat' (first | assumption | exact bl_refl _ | refine bl_alloc ?_ _ | refine bl_drew ?_)); done))); (repeat' (first | assumption | exact bl_refl _ | refine bl_alloc ?_ _ | refine bl_drew ?_)); (exact hst.out.below (by repeat' (first | assumption | exact bl_refl _ | refine bl_alloc ?_ _ | refine bl_drew ?_))); (intro A1 c1 V1 ho1 hB1 hg1))
          | (refine step_appB rfl (.tmp 45) (.tmp 47) _ _ rfl el_thing (xs := xs.take k) (ys := [y]) (w0 := V) rfl rfl ?_ ?_ ?_ (by omega) ?_; (first | (simpa using ho1) | (exact Own.alloc (by simpa using ho1) _)); (repeat' (first | assumption | exact bl_refl _ | refine bl_alloc ?_ _ | refine bl_drew ?_)); (refine sl_thing1 ?_ ?_ ?_ <;> (first | (focus (go_simp; done)) | (focus (refine (hg1.cell_far _ ?_ ?_).trans ?_ <;> first | (simp; done) | (simp [Value.ownBlock]; done) | (go_simp; done) | (simp [Value.ownBlock]; omega))))); (intro A2 c2 V2 ho2 hB2 hg2))
          | (refine step_appB rfl (.tmp 48) (.tmp 49) _ _ rfl el_thing (xs := xs.take k ++ [y]) (ys := xs.drop (k + 1)) (w0 := V) rfl rfl ho2 hB2 (((hsd.out _ (by first | exact .inr rfl | (left; omega))).below hwX).below hB2) (by omega) ?_; (intro A3 c3 V3 ho3 hB3 hg3)))
      all_goals
        (try simp only [Nat.zero_add] at ho3)
        go_wp2
        all_goals (go_ret; exact retOwn_mk (by rw [HZ.out]; simp; have := HL.out; omega) (by rw [HZ.out]; exact ho3.mono hwz) (bl_trans hwX hB3))
    · go_upto_region 7 with fail
      refine wp_hide (R := fun X => Below w.heap.size w X ∧ w.heap.size < X.heap.size ∧ X.cell? ⟨w.heap.size, 0, none⟩ = some (.string y.Name) ∧ X.cell? ⟨w.heap.size, 1, none⟩ = some (.int .i64 y.Count) ∧ X.cell? ⟨w.heap.size, 2, none⟩ = some (.int .i64 y.Day)) ⟨by repeat' (first | exact hXV | refine bl_set ?_ (Nat.le_refl _) _), by simp; omega, by go_simp, by go_simp, by go_simp⟩ (fun V ⟨hwX, hVz, y0, y1, y2⟩ => ?_)
      have hwz := hwX.size
      have hst := Lib.hid (hst.out.below hwX)
      clear f0 f1 hXV hXz
      go_region_held3 (fun w' => w'.cell? ⟨w.heap.size, 0, none⟩ = some (.string y.Name) ∧ w'.cell? ⟨w.heap.size, 1, none⟩ = some (.int .i64 y.Count) ∧ w'.cell? ⟨w.heap.size, 2, none⟩ = some (.int .i64 y.Day)) (refine ⟨cell_later (?_ : Below V.heap.size V _) y0, cell_later (?_ : Below V.heap.size V _) y1, cell_later (?_ : Below V.heap.size V _) y2⟩ <;> (repeat' (first | assumption | exact bl_refl _ | refine bl_alloc ?_ _ | refine bl_drew ?_)))
        (first
          | (refine step_appB rfl (.tmp 41) (.tmp 44) _ _ rfl el_thing (xs := ([] : List Thing)) (ys := xs.take k) (w0 := V) rfl rfl ?_ ?_ ?_ (by omega) ?_; (first | (focus (refine Own.below (w := V.alloc (.cells #[] 59)) (Own.built V _ (Nat.le_refl _)) ?_; (repeat' (first | assumption | exact bl_refl _ | refine bl_alloc ?_ _ | refine bl_drew ?_)); done)) | (focus (refine Own.below (w := (V.alloc (.cells #[.string y.Name, .int .i64 y.Count, .int .i64 y.Day] 59)).alloc (.cells #[] 59)) ?_ ?_; (focus (have hbu := Own.built (α := Thing) (V.alloc (.cells #[.string y.Name, .int .i64 y.Count, .int .i64 y.Day] 59)) 59 (base := V.heap.size) (by simp); simpa using hbu)); (repeat' (first | assumption | exact bl_refl _ | refine bl_alloc ?_ _ | refine bl_drew ?_)); done))); (repeat' (first | assumption | exact bl_refl _ | refine bl_alloc ?_ _ | refine bl_drew ?_)); (exact hst.out.below (by repeat' (first | assumption | exact bl_refl _ | refine bl_alloc ?_ _ | refine bl_drew ?_))); (intro A1 c1 V1 ho1 hB1 hg1))
          | (refine step_appB rfl (.tmp 45) (.tmp 47) _ _ rfl el_thing (xs := xs.take k) (ys := [y]) (w0 := V) rfl rfl ?_ ?_ ?_ (by omega) ?_; (first | (simpa using ho1) | (exact Own.alloc (by simpa using ho1) _)); (repeat' (first | assumption | exact bl_refl _ | refine bl_alloc ?_ _ | refine bl_drew ?_)); (refine sl_thing1 ?_ ?_ ?_ <;> (first | (focus (go_simp; done)) | (focus (refine (hg1.cell_far _ ?_ ?_).trans ?_ <;> first | (simp; done) | (simp [Value.ownBlock]; done) | (go_simp; done) | (simp [Value.ownBlock]; omega))))); (intro A2 c2 V2 ho2 hB2 hg2))
          | (refine step_appB rfl (.tmp 48) (.tmp 49) _ _ rfl el_thing (xs := xs.take k ++ [y]) (ys := xs.drop (k + 1)) (w0 := V) rfl rfl ho2 hB2 (((hsd.out _ (by first | exact .inr rfl | (left; omega))).below hwX).below hB2) (by omega) ?_; (intro A3 c3 V3 ho3 hB3 hg3)))
      all_goals
        (try simp only [Nat.zero_add] at ho3)
        go_wp2
        all_goals (go_ret; exact retOwn_mk (by rw [HZ.out]; simp; have := HL.out; omega) (by rw [HZ.out]; exact ho3.mono hwz) (bl_trans hwX hB3))

end Go.Proofs.Ytokcgjjnljflaaa
