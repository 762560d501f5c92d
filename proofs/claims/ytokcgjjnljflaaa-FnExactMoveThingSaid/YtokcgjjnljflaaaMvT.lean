/-
  Things with fewer pieces of one of them. No conditions.
-/
import Derived.Test.YtokcgjjnljflaaaMvF
namespace Go.Proofs.Ytokcgjjnljflaaa
open Go.RowKit

theorem wp_hide {P : Program} {c : Code} {Q : Exit → Act → World → Prop} {a : Act} {w : World} {R : World → Prop} (hR : R w) (h : ∀ V, R V → c.wp P Q a V) : c.wp P Q a w := h w hR
set_option maxRecDepth 100000 in
set_option maxHeartbeats 4000000 in
theorem eqTake_any (xs : List Thing) (A : Option Addr) (n c k : Nat) (nm : ByteArray) (q : Int) (w : World) (hn : n ≤ 1048576) (hc : n ≤ c) (hcm : (c : Int) ≤ 9223372036854775807) (hs : Sl w A n xs) (hx : thingsB xs = true) (hk : indexF (nmT nm) xs = k) (hq : 1 ≤ q ∧ q ≤ 99) :
    Calls Try.prog 51 #[.slice A n c, .string nm, .int .i64 q] w (RetOwn w 59 (takeT xs k q)) := by
  have HL := Lib.hid hs.1
  have hkx := index_at hk
  have hkn : k < n := by have := HL.out; omega
  have hct := count_in hx hkx
  have hlx := thingsB_len hx
  have HR := Lib.hid (things_rise hx)
  have hst := Lib.hid (hs.take (n := n) (by omega : k ≤ n))
  have HK := Lib.hid hk
  have HS := Lib.hid hs
  obtain ⟨b, o, rfl, hbz, c0, c1, c2⟩ := hs.thing hkn
  have hsd : Hid (∀ B, (n - (k + 1) = 0 ∨ B = some ⟨b, o + (k + 1) * 3, none⟩) → Sl w B (n - (k + 1)) (xs.drop (k + 1))) := fun B hB => by
    rcases hB with h0 | rfl
    · have e : xs.drop (k + 1) = [] := List.eq_nil_of_length_eq_zero (by rw [List.length_drop]; have := HL.out; omega)
      rw [e, h0]; exact Sl.nil _ _
    · have e2 : (k + 1) * Flat.sz Thing = (k + 1) * 3 := rfl
      have h := HS.out.dropK (i := k + 1)
      rw [e2] at h
      exact h
  have hct1 : IntKind.i64.wrap ((nth xs k).Count - q) = (nth xs k).Count - q := IntWalk.i64_in _ (by omega)
  have HY : Hid (xs.set k (lessY xs k q) = xs.take k ++ [lessY xs k q] ++ xs.drop (k + 1)) := by rw [Hid, List.set_eq_take_append_cons_drop, if_pos hkx]; simp
  have HTS := Lib.hid (fun h => takeT_set (xs := xs) (k := k) (n := q) h)
  have HTC := Lib.hid (fun h => takeT_cut (xs := xs) (k := k) (n := q) h)
  have hkc : k ≤ c := by omega
  have hkI : (k : Int) ≤ c := by omega
  have hkI2 : (k : Int) ≤ n := by omega
  have hkI3 : (k : Int) < n := by omega
  have hk1I : (k : Int) + 1 ≤ n := by omega
  have hk0 : (0 : Int) ≤ (k : Int) + 1 := by omega
  have hk1c : (k : Int) + 1 ≤ c := by omega
  have hkt : ((k : Int) + 1).toNat = k + 1 := by omega
  have hlk : (xs.take k).length = k := by rw [List.length_take]; omega
  clear hx hk hs hkx
  go_enter Try.func51, Try.ntmps51
  go_wp2_with fail
  refine (eqFind_at xs _ _ _ nm _ (by omega) (HS.out)).mono ?_
  rintro e V ⟨j, rfl, hle, hb1⟩
  obtain rfl : j = k := by
    cases hh : hitT xs nm j with
    | true => have h1 := find_index hle hh; have h2 := HK.out; omega
    | false => have h1 := find_none HR.out hle hh; have h2 := HK.out; omega
  have hV := hb1
  have c0 := cell_later hb1 c0
  have c1 := cell_later hb1 c1
  have c2 := cell_later hb1 c2
  have hbz2 : b < V.heap.size := World.block_lt_of_cell? _ _ c0
  clear hle hb1 HK HR HS
  by_cases hpos : 0 < (nth xs j).Count - q
  · have hp : decide (0 < (nth xs j).Count - q) = true := decide_eq_true hpos
    have HZ := Lib.hid ((HTS.out hpos).trans HY.out)
    go_upto_region 4 with fail
    refine wp_hide (R := fun X => Below w.heap.size w X ∧ V.heap.size < X.heap.size ∧ X.cell? ⟨V.heap.size, 0, none⟩ = some (.string (nth xs j).Name) ∧ X.cell? ⟨V.heap.size, 1, none⟩ = some (.int .i64 ((nth xs j).Count - q)) ∧ X.cell? ⟨V.heap.size, 2, none⟩ = some (.int .i64 (nth xs j).Day)) ⟨by repeat' (first | exact hV | refine bl_alloc ?_ _ | refine bl_set ?_ (hV.size) _), by simp, by go_simp, by go_simp, by go_simp⟩ (fun X ⟨hwX, hXz, b0, b1, b2⟩ => ?_)
    have hwz := hwX.size
    clear c0 c1 c2 hV hbz2
    by_cases hcc : c = j + 1
    · go_wp2_with (first | (at_builtin; refine wpList_appN rfl (.tmp 26) (.tmp 29) _ _ rfl el_thing (w0 := X) (xs := ([] : List Thing)) (ys := xs.take j) rfl (Own.built X _ (Nat.le_refl _)) (bl_alloc (bl_refl _) _) rfl (hst.out.below (bl_trans hwX (bl_alloc (bl_refl _) _))) (by omega) ?_; intro A1 e1 V1 ho1 hb1 hg1; have ho1 : Own V1 X.heap.size 59 (.slice A1 j e1) (xs.take j) := (by simpa using ho1); have b0 := cell_later hb1 b0; have b1 := cell_later hb1 b1; have b2 := cell_later hb1 b2; clear hg1) | (at_builtin; refine wpList_app1g rfl (.tmp 34) (.tmp 36) _ _ rfl el_thing (lessY xs j q) rfl ho1 hb1 rfl (by simp) (by omega) ?_; intro A2 e2 V2 ho2 hb2 hg2; clear hg2) | (at_builtin; refine wpList_appN rfl (.tmp 38) (.tmp 42) _ _ rfl el_thing (w0 := X) (xs := xs.take j ++ [lessY xs j q]) (ys := xs.drop (j + 1)) rfl ho2 hb2 rfl ((hsd.out _ (by first | exact .inr rfl | (left; omega))).below (bl_trans hwX hb2)) (by omega) ?_; intro A3 e3 V3 ho3 hb3 hg3))
      go_ret
      exact retOwn_mk (by rw [HZ.out]; simp only [List.length_append, List.length_take, List.length_drop, List.length_cons, List.length_nil]; have := HL.out; omega) (by rw [HZ.out]; exact ho3.mono hwz) (bl_trans hwX hb3)
    · go_wp2_with (first | (at_builtin; refine wpList_appN rfl (.tmp 26) (.tmp 29) _ _ rfl el_thing (w0 := X) (xs := ([] : List Thing)) (ys := xs.take j) rfl (Own.built X _ (Nat.le_refl _)) (bl_alloc (bl_refl _) _) rfl (hst.out.below (bl_trans hwX (bl_alloc (bl_refl _) _))) (by omega) ?_; intro A1 e1 V1 ho1 hb1 hg1; have ho1 : Own V1 X.heap.size 59 (.slice A1 j e1) (xs.take j) := (by simpa using ho1); have b0 := cell_later hb1 b0; have b1 := cell_later hb1 b1; have b2 := cell_later hb1 b2; clear hg1) | (at_builtin; refine wpList_app1g rfl (.tmp 34) (.tmp 36) _ _ rfl el_thing (lessY xs j q) rfl ho1 hb1 rfl (by simp) (by omega) ?_; intro A2 e2 V2 ho2 hb2 hg2; clear hg2) | (at_builtin; refine wpList_appN rfl (.tmp 38) (.tmp 42) _ _ rfl el_thing (w0 := X) (xs := xs.take j ++ [lessY xs j q]) (ys := xs.drop (j + 1)) rfl ho2 hb2 rfl ((hsd.out _ (by first | exact .inr rfl | (left; omega))).below (bl_trans hwX hb2)) (by omega) ?_; intro A3 e3 V3 ho3 hb3 hg3))
      go_ret
      exact retOwn_mk (by rw [HZ.out]; simp only [List.length_append, List.length_take, List.length_drop, List.length_cons, List.length_nil]; have := HL.out; omega) (by rw [HZ.out]; exact ho3.mono hwz) (bl_trans hwX hb3)
  · have hp : decide (0 < (nth xs j).Count - q) = false := decide_eq_false hpos
    have HZ := Lib.hid (HTC.out (by omega))
    go_upto_region 4 with fail
    refine wp_hide (R := fun X => Below w.heap.size w X ∧ V.heap.size < X.heap.size ∧ X.cell? ⟨V.heap.size, 0, none⟩ = some (.string (nth xs j).Name) ∧ X.cell? ⟨V.heap.size, 1, none⟩ = some (.int .i64 ((nth xs j).Count - q)) ∧ X.cell? ⟨V.heap.size, 2, none⟩ = some (.int .i64 (nth xs j).Day)) ⟨by repeat' (first | exact hV | refine bl_alloc ?_ _ | refine bl_set ?_ (hV.size) _), by simp, by go_simp, by go_simp, by go_simp⟩ (fun X ⟨hwX, hXz, b0, b1, b2⟩ => ?_)
    have hwz := hwX.size
    clear c0 c1 c2 hV hbz2
    by_cases hcc : c = j + 1
    · go_wp2_with (first | (at_builtin; refine wpList_appN rfl (.tmp 26) (.tmp 29) _ _ rfl el_thing (w0 := X) (xs := ([] : List Thing)) (ys := xs.take j) rfl (Own.built X _ (Nat.le_refl _)) (bl_alloc (bl_refl _) _) rfl (hst.out.below (bl_trans hwX (bl_alloc (bl_refl _) _))) (by omega) ?_; intro A1 e1 V1 ho1 hb1 hg1; have ho1 : Own V1 X.heap.size 59 (.slice A1 j e1) (xs.take j) := (by simpa using ho1); have b0 := cell_later hb1 b0; have b1 := cell_later hb1 b1; have b2 := cell_later hb1 b2; clear hg1) | (at_builtin; refine wpList_app1g rfl (.tmp 34) (.tmp 36) _ _ rfl el_thing (lessY xs j q) rfl ho1 hb1 rfl (by simp) (by omega) ?_; intro A2 e2 V2 ho2 hb2 hg2; clear hg2) | (at_builtin; refine wpList_appN rfl (.tmp 38) (.tmp 42) _ _ rfl el_thing (w0 := X) (xs := xs.take j) (ys := xs.drop (j + 1)) rfl ho1 hb1 rfl ((hsd.out _ (by first | exact .inr rfl | (left; omega))).below (bl_trans hwX hb1)) (by omega) ?_; intro A3 e3 V3 ho3 hb3 hg3))
      go_ret
      exact retOwn_mk (by rw [HZ.out]; simp only [List.length_append, List.length_take, List.length_drop]; have := HL.out; omega) (by rw [HZ.out]; exact ho3.mono hwz) (bl_trans hwX hb3)
    · go_wp2_with (first | (at_builtin; refine wpList_appN rfl (.tmp 26) (.tmp 29) _ _ rfl el_thing (w0 := X) (xs := ([] : List Thing)) (ys := xs.take j) rfl (Own.built X _ (Nat.le_refl _)) (bl_alloc (bl_refl _) _) rfl (hst.out.below (bl_trans hwX (bl_alloc (bl_refl _) _))) (by omega) ?_; intro A1 e1 V1 ho1 hb1 hg1; have ho1 : Own V1 X.heap.size 59 (.slice A1 j e1) (xs.take j) := (by simpa using ho1); have b0 := cell_later hb1 b0; have b1 := cell_later hb1 b1; have b2 := cell_later hb1 b2; clear hg1) | (at_builtin; refine wpList_app1g rfl (.tmp 34) (.tmp 36) _ _ rfl el_thing (lessY xs j q) rfl ho1 hb1 rfl (by simp) (by omega) ?_; intro A2 e2 V2 ho2 hb2 hg2; clear hg2) | (at_builtin; refine wpList_appN rfl (.tmp 38) (.tmp 42) _ _ rfl el_thing (w0 := X) (xs := xs.take j) (ys := xs.drop (j + 1)) rfl ho1 hb1 rfl ((hsd.out _ (by first | exact .inr rfl | (left; omega))).below (bl_trans hwX hb1)) (by omega) ?_; intro A3 e3 V3 ho3 hb3 hg3))
      go_ret
      exact retOwn_mk (by rw [HZ.out]; simp only [List.length_append, List.length_take, List.length_drop]; have := HL.out; omega) (by rw [HZ.out]; exact ho3.mono hwz) (bl_trans hwX hb3)

end Go.Proofs.Ytokcgjjnljflaaa
