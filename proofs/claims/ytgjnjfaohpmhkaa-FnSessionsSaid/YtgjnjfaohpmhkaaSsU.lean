/-
  slices.symMergeCmpFunc at int, one put into a run from the left. No conditions.
-/
import Derived.Test.YtgjnjfaohpmhkaaSsI
namespace Go.Proofs.Ytgjnjfaohpmhkaa
open Go.RowKit

/-- what a merge leaves -/
def RetMerge (w : World) (base g n c : Nat) (key : Int → Int) (P N Q : List Int) (e : Ending) (w' : World) : Prop :=
  e = .returned (.tuple #[]) ∧ (∃ M, M.Perm N ∧ SrtK key M ∧ Own w' base 3 (.slice (some ⟨g, 0, none⟩) n c) (P ++ (M ++ Q))) ∧ OnlyF [g] w w'
theorem cut_left {key : Int → Int} {x : Int} {B : List Int} {s : Nat} (hs : SrtK key B) (hX : ∀ y, y ∈ B → key x = key y → x < y) (hl : s ≤ B.length)
    (h1 : ∀ q, q < s → key (nth B q) < key x) (h2 : ∀ q, s ≤ q → q < B.length → key x ≤ key (nth B q)) : ∃ B1 B2, B = B1 ++ B2 ∧ B1.length = s ∧ (B1 ++ x :: B2).Perm (x :: B) ∧ SrtK key (B1 ++ x :: B2) := by
  have hB := (List.take_append_drop s B).symm
  refine ⟨B.take s, B.drop s, hB, by rw [List.length_take]; omega, ?_⟩
  have hp := put_left (key := key) (x := x) (B1 := B.take s) (B2 := B.drop s) (by rw [← hB]; exact hs) (by
      rw [← hB]; intro u hu v hv e
      obtain rfl := List.mem_singleton.1 hu
      exact hX v hv e) (fun y hy => by
      obtain ⟨q, hq, rfl⟩ := mem_nth hy
      rw [List.length_take] at hq
      rw [nth_take (by omega)]; exact h1 q (by omega)) (fun y hy => by
      obtain ⟨q, hq, rfl⟩ := mem_nth hy
      rw [List.length_drop] at hq
      rw [nth_dropK]; exact h2 (s + q) (by omega) (by omega))
  rw [← hB] at hp
  exact hp
set_option maxRecDepth 100000 in
set_option maxHeartbeats 8000000 in
theorem symL_any (base g n c : Nat) (P B Q L0 : List Int) (x : Int) (a m b : Nat) (fg : FuncId) (caps : Array Value) (cf : Int → Int → Int) (key : Int → Int) (D : Int → Prop) (w0 w : World) (hen : Enters Try.prog fg) (hc : CmpI g fg caps cf D w0) (hk : ∀ x y, cf x y < 0 ↔ key x < key y)
    (ha : P.length = a) (hm : a + 1 = m) (hb : m + B.length = b) (hn : n ≤ 1000) (hL : L0 = P ++ (x :: (B ++ Q))) (hDx : D x) (hD : ∀ x, x ∈ B → D x) (hs : SrtK key B) (hX : ∀ y, y ∈ B → key x = key y → x < y) (hw : OnlyF [g] w0 w) (ho : Own w base 3 (.slice (some ⟨g, 0, none⟩) n c) L0) :
    Calls Try.prog 90 #[.slice (some ⟨g, 0, none⟩) n c, .int .i64 (a : Int), .int .i64 (m : Int), .int .i64 (b : Int), .func (.func fg) #[] caps] w (RetMerge w base g n c key P (x :: B) Q) := by
  have hl := ho.sl.1
  rw [hL] at hl
  simp only [List.length_append, List.length_cons] at hl
  have w1 : IntKind.i64.wrap ((m : Int) - (a : Int)) = 1 := by rw [IntWalk.i64_in _ (by omega)]; omega
  have hbn : b ≤ n := by omega
  have ham : a < m := by omega
  have hmb : m ≤ b := by omega
  have han : a < n := by omega
  have HNa : Hid (nth L0 a = x) := by rw [Hid, hL, ← ha]; unfold nth; simp
  have HNB : Hid (∀ h, m ≤ h → h < b → nth L0 h = nth B (h - m)) := by
    intro h h1 h2
    rw [hL, nth_right (by omega), show h - P.length = (h - m) + 1 by omega]
    show nth (x :: (B ++ Q)) ((h - m) + 1) = nth B (h - m)
    have : nth (x :: (B ++ Q)) ((h - m) + 1) = nth (B ++ Q) (h - m) := by unfold nth; simp
    rw [this, nth_left (by omega)]
  have HC := Lib.hid hc
  have HK := Lib.hid hk
  have HP := Lib.hid ha
  have HM := Lib.hid hm
  have HB := Lib.hid hb
  have HX := Lib.hid hX
  have HD := Lib.hid hD
  have HDx := Lib.hid hDx
  have HS := Lib.hid hs
  have HL := Lib.hid hL
  have hcf : ∀ (args : Array Value) (W : World), (callFunc fg args).run Try.prog W = .ok (.enter fg args) W := hen
  clear hen hc hk ha hb hX hD hDx hL hl hm hs
  go_enter Try.func90, Try.ntmps90
  go_wp2
  go_loopw [10, 11] (fun iv jv wr => ∃ i j : Nat, iv = .int .i64 i ∧ jv = .int .i64 j ∧ m ≤ i ∧ i ≤ j ∧ j ≤ b ∧ Hid ((∀ q, q < i - m → key (nth B q) < key x) ∧ (∀ q, j - m ≤ q → q < B.length → key x ≤ key (nth B q))) ∧ Below w.heap.size w wr) (fun iv jv _ => (intOf jv).toNat - (intOf iv).toNat)
  case atStart => exact ⟨m, b, rfl, rfl, Nat.le_refl _, hmb, Nat.le_refl _, ⟨fun q hq => absurd hq (by omega), fun q h1 h2 => absurd h1 (by have := HB.out; omega)⟩, bl_refl _⟩
  case round =>
    obtain ⟨i, j, rfl, rfl, hmi, hij, hjb, HH, hbr⟩ := hrel
    by_cases hlt : i < j
    · have hd : decide (i < j) = true := decide_eq_true hlt
      have hor := ho.below hbr
      obtain ⟨h, hh⟩ : ∃ h : Nat, (i + j) / 2 = h := ⟨_, rfl⟩
      have hhi : ((i : Int) + (j : Int)) / 2 = (h : Int) := by omega
      have hh1 : i ≤ h := by omega
      have hh2 : h < j := by omega
      have hhn : h < n := by omega
      obtain ⟨y, hy⟩ : ∃ y, nth B (h - m) = y := ⟨_, rfl⟩
      have c1 := hor.icell hhn
      rw [HNB.out h (by omega) (by omega), hy] at c1
      have c2 := hor.icell han
      rw [HNa.out] at c2
      have HDy : Hid (D y) := HD.out y (by rw [← hy]; exact nth_mem (by have := HB.out; omega))
      have HY := Lib.hid hy
      have HHh := Lib.hid hh
      have hwr := Lib.hid (hw.trans (.below hbr))
      clear hor hy hh
      by_cases hcc : cf y x < 0
      · have hcd : decide (cf y x < 0) = true := decide_eq_true hcc
        have HCC : Hid (key y < key x) := (HK.out _ _).1 hcc
        clear hcc
        go_wp2_with fail
        refine wp_region_grow (by kernel_rfl) (by kernel_rfl) (fun X hX => ?_)
        have hbX : Below wr.heap.size wr X := by rw [hX]; exact bl_refl _
        have r1 := Gw.cell (cell_later hbX c1)
        have r2 := Gw.cell (cell_later hbX c2)
        have hwX := Lib.hid (hwr.out.trans (.below hbX))
        have HX' := Lib.hid hX
        clear hX
        repeat (go_big_quiet_step (exact Calls.grow_of (HC.out y x HDy.out HDx.out _ (hwX.out.trans (.below (Subtype.property _))))))
        refine wpGrow_nil (fun V hV => ?_)
        have hbV := bl_trans hbr (bl_trans hbX hV)
        clear r1 r2 c1 c2 hbX hV
        go_wp2
        go_roundw
        case rel => exact ⟨h + 1, j, by go_num, rfl, by omega, by omega, hjb, ⟨fun q hq => by
              have := srt_key HS.out (i := q) (j := h - m) (by omega) (by have := HB.out; omega)
              rw [HY.out] at this; have := HCC.out; omega, HH.out.2⟩, hbV⟩
        case measure => simp [intOf]; omega
      · have hcd : decide (cf y x < 0) = false := decide_eq_false hcc
        have HCC : Hid (key x ≤ key y) := Int.not_lt.1 (fun h => hcc ((HK.out _ _).2 h))
        clear hcc
        go_wp2_with fail
        refine wp_region_grow (by kernel_rfl) (by kernel_rfl) (fun X hX => ?_)
        have hbX : Below wr.heap.size wr X := by rw [hX]; exact bl_refl _
        have r1 := Gw.cell (cell_later hbX c1)
        have r2 := Gw.cell (cell_later hbX c2)
        have hwX := Lib.hid (hwr.out.trans (.below hbX))
        have HX' := Lib.hid hX
        clear hX
        repeat (go_big_quiet_step (exact Calls.grow_of (HC.out y x HDy.out HDx.out _ (hwX.out.trans (.below (Subtype.property _))))))
        refine wpGrow_nil (fun V hV => ?_)
        have hbV := bl_trans hbr (bl_trans hbX hV)
        clear r1 r2 c1 c2 hbX hV
        go_wp2
        go_roundw
        case rel => exact ⟨i, h, rfl, by go_num, hmi, by omega, by omega, ⟨HH.out.1, fun q h1 h2 => by
              have := srt_key HS.out (i := h - m) (j := q) (by omega) h2
              rw [HY.out] at this; have := HCC.out; omega⟩, hbV⟩
        case measure => simp [intOf]; omega
    · obtain rfl : i = j := by omega
      have hd : decide (i < i) = false := decide_eq_false (Nat.lt_irrefl _)
      have hor := ho.below hbr
      obtain ⟨B1, B2, hBB, hB1, hM1, hM2⟩ := cut_left (s := i - m) HS.out HX.out (by have := HB.out; omega) HH.out.1 HH.out.2
      obtain ⟨i1, hi1⟩ : ∃ i1 : Nat, i = i1 + 1 := ⟨i - 1, by omega⟩
      have w2 : IntKind.i64.wrap ((i : Int) - 1) = (i1 : Int) := by rw [IntWalk.i64_in _ (by omega)]; omega
      have hai1 : a ≤ i1 := by omega
      have HBB : Hid (B1.length = i - m ∧ i = i1 + 1) := ⟨hB1, hi1⟩
      have hi1n : i1 < n := by omega
      have HM1 := Lib.hid hM1
      have HM2 := Lib.hid hM2
      have HLL : Hid (L0 = P ++ (x :: (B1 ++ (B2 ++ Q)))) := by rw [Hid, HL.out, hBB]; simp
      clear hBB hB1 hi1 hM1 hM2 HH ho
      obtain ⟨wo, hwo⟩ : ∃ wo, wo = wr := ⟨_, rfl⟩
      subst hwo
      go_wp2
      go_loopw [13] (fun kv wr => ∃ (k : Nat) (C1 C2 M : List Int), kv = .int .i64 k ∧ a ≤ k ∧ k ≤ i1 ∧ Hid (B1 = C1 ++ C2 ∧ a + C1.length = k ∧ M = P ++ (C1 ++ (x :: (C2 ++ (B2 ++ Q))))) ∧ Own wr base 3 (.slice (some ⟨g, 0, none⟩) n c) M ∧ OnlyF [g] w wr) (fun kv _ => i1 - (intOf kv).toNat)
      case atStart => exact ⟨a, [], B1, L0, rfl, Nat.le_refl _, hai1, ⟨by simp, by simp, by rw [HLL.out]; rfl⟩, hor, .below hbr⟩
      case round =>
        obtain ⟨k, C1, C2, M, rfl, hak, hki, HI, ho2, hf2⟩ := hrel
        clear hor
        by_cases hkl : k < i1
        · have hd2 : decide (k < i1) = true := decide_eq_true hkl
          obtain ⟨y, C2', hC2⟩ := split_first (S := C2) (by have := HI.out.1; have h3 := HBB.out.1; rw [this, List.length_append] at h3; have := HBB.out.2; have := HM.out; have := HI.out.2.1; omega)
          obtain ⟨k1, hk1⟩ : ∃ k1 : Nat, k1 = k + 1 := ⟨k + 1, rfl⟩
          obtain ⟨-, hsw, n1, n2, -⟩ := swap_adj (P := P ++ C1) (s := x) (x := y) (R := C2' ++ (B2 ++ Q)) (L := M) (p := k) (j := k1) (by rw [HI.out.2.2, hC2]; simp) (by rw [List.length_append, HP.out]; have := HI.out.2.1; omega) hk1
          have hkn : k < n := by omega
          have hkn1 : k1 < n := by omega
          have c1 := ho2.icell hkn1
          have c2 := ho2.icell hkn
          have f1 := ho2.frozenAt k
          have f2 := ho2.frozenAt k1
          have hs2 := ho2.swap hkn hkn1
          rw [n1, n2, hsw] at hs2
          rw [n2] at c1
          rw [n1] at c2
          have v1 : IntKind.i64.wrap ((k : Int) + 1) = (k1 : Int) := by rw [IntWalk.i64_in _ (by omega)]; omega
          have HS2 := Lib.hid hs2
          have HF3 : Hid (OnlyF [g] w ((wr.setCell ⟨g, k, none⟩ (.int .i64 y)).setCell ⟨g, k1, none⟩ (.int .i64 x))) := (hf2.set (List.mem_singleton.2 rfl) _).set (List.mem_singleton.2 rfl) _
          have HC2 := Lib.hid hC2
          have HK1 := Lib.hid hk1
          have hkl1 : k1 ≤ i1 := by omega
          have hak1 : a ≤ k1 := by omega
          have ne1 : ¬ (k1 = k) := by omega
          have ne2 : ¬ (k = k1) := by omega
          clear hsw n1 n2 hC2 hk1 hs2 ho2 hf2
          go_wp2
          go_region
          all_goals
            go_wp2
            go_roundw
            case rel => exact ⟨k1, C1 ++ [y], C2', _, rfl, hak1, hkl1, ⟨by rw [HI.out.1, HC2.out]; simp, by rw [List.length_append]; simp; have := HI.out.2.1; have := HK1.out; omega, by simp⟩, HS2.out.below (by repeat' (first | exact bl_refl _ | refine bl_drew ?_)), HF3.out.trans (.below (by repeat' (first | exact bl_refl _ | refine bl_drew ?_)))⟩
            case measure => have := HK1.out; simp only [intOf]; omega
        · obtain rfl : k = i1 := by omega
          have hd2 : decide (k < k) = false := decide_eq_false (Nat.lt_irrefl _)
          have hC : C2 = [] := List.eq_nil_of_length_eq_zero (by have := HI.out.1; have h3 := HBB.out.1; rw [this, List.length_append] at h3; have := HBB.out.2; have := HM.out; have := HI.out.2.1; omega)
          have HFin : Hid (M = P ++ ((B1 ++ x :: B2) ++ Q)) := by rw [Hid, HI.out.2.2, HI.out.1, hC]; simp
          clear hC
          go_wp2
          (try simp only [Exit.inBlock, Exit.then]); refine bodyPost_ret (results_none rfl _ _ _) rfl ?_
          exact ⟨rfl, ⟨_, HM1.out, HM2.out, by rw [← HFin.out]; exact ho2⟩, hf2⟩
end Go.Proofs.Ytgjnjfaohpmhkaa
