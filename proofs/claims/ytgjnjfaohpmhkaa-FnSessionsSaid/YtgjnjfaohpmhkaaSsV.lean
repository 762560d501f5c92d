/-
  slices.symMergeCmpFunc at int, one put into a run from the right. No conditions.
-/
import Derived.Test.YtgjnjfaohpmhkaaSsU
namespace Go.Proofs.Ytgjnjfaohpmhkaa
open Go.RowKit

theorem cut_right {key : Int → Int} {y : Int} {A : List Int} {s : Nat} (hs : SrtK key A) (hX : ∀ x, x ∈ A → key x = key y → x < y) (hl : s ≤ A.length)
    (h1 : ∀ q, q < s → key (nth A q) ≤ key y) (h2 : ∀ q, s ≤ q → q < A.length → key y < key (nth A q)) : ∃ A1 A2, A = A1 ++ A2 ∧ A1.length = s ∧ (A1 ++ y :: A2).Perm (A ++ [y]) ∧ SrtK key (A1 ++ y :: A2) := by
  have hA := (List.take_append_drop s A).symm
  refine ⟨A.take s, A.drop s, hA, by rw [List.length_take]; omega, ?_⟩
  have hp := put_right (key := key) (y := y) (A1 := A.take s) (A2 := A.drop s) (by rw [← hA]; exact hs) (by
      rw [← hA]; intro u hu v hv e
      obtain rfl := List.mem_singleton.1 hv
      exact hX u hu e) (fun x hx => by
      obtain ⟨q, hq, rfl⟩ := mem_nth hx
      rw [List.length_take] at hq
      rw [nth_take (by omega)]; exact h1 q (by omega)) (fun x hx => by
      obtain ⟨q, hq, rfl⟩ := mem_nth hx
      rw [List.length_drop] at hq
      rw [nth_dropK]; exact h2 (s + q) (by omega) (by omega))
  rw [← hA] at hp
  exact hp
set_option maxRecDepth 100000 in
set_option maxHeartbeats 8000000 in
theorem symR_any (base g n c : Nat) (P A Q L0 : List Int) (x : Int) (a m b : Nat) (fg : FuncId) (caps : Array Value) (cf : Int → Int → Int) (key : Int → Int) (D : Int → Prop) (w0 w : World) (hen : Enters Try.prog fg) (hc : CmpI g fg caps cf D w0) (hk : ∀ x y, cf x y < 0 ↔ key x < key y)
    (ha : P.length = a) (hA2 : 2 ≤ A.length) (hm : a + A.length = m) (hb : m + 1 = b) (hn : n ≤ 1000) (hL : L0 = P ++ (A ++ (x :: Q))) (hDx : D x) (hD : ∀ x, x ∈ A → D x) (hs : SrtK key A) (hX : ∀ u, u ∈ A → key u = key x → u < x) (hw : OnlyF [g] w0 w) (ho : Own w base 3 (.slice (some ⟨g, 0, none⟩) n c) L0) :
    Calls Try.prog 90 #[.slice (some ⟨g, 0, none⟩) n c, .int .i64 (a : Int), .int .i64 (m : Int), .int .i64 (b : Int), .func (.func fg) #[] caps] w (RetMerge w base g n c key P (A ++ [x]) Q) := by
  have hl := ho.sl.1
  rw [hL] at hl
  simp only [List.length_append, List.length_cons] at hl
  obtain ⟨d, hd0⟩ : ∃ d : Nat, m - a = d := ⟨_, rfl⟩
  have w1 : IntKind.i64.wrap ((m : Int) - (a : Int)) = (d : Int) := by rw [IntWalk.i64_in _ (by omega)]; omega
  have w1b : ((d : Int) == 1) = false := by simp; omega
  have w1c : ¬ (d : Int) = 1 := by omega
  have w1d : decide ((d : Int) = 1) = false := decide_eq_false w1c
  have w2 : IntKind.i64.wrap ((b : Int) - (m : Int)) = 1 := by rw [IntWalk.i64_in _ (by omega)]; omega
  have hbn : b ≤ n := by omega
  have ham : a < m := by omega
  have hmb : m < b := by omega
  have hmn : m < n := by omega
  have HNm : Hid (nth L0 m = x) := by rw [Hid, hL, nth_right (by omega), nth_right (by omega), show m - P.length - A.length = 0 by omega]; rfl
  have HNA : Hid (∀ h, a ≤ h → h < m → nth L0 h = nth A (h - a)) := by
    intro h h1 h2
    rw [hL, nth_right (by omega), nth_left (by omega), ha]
  have HC := Lib.hid hc
  have HK := Lib.hid hk
  have HP := Lib.hid ha
  have HM := Lib.hid hm
  have HB := Lib.hid hb
  have HX := Lib.hid hX
  have HD := Lib.hid hD
  have HDx := Lib.hid hDx
  have HS := Lib.hid hs
  have HL := Lib.hid hL
  have hcf : ∀ (args : Array Value) (W : World), (callFunc fg args).run Try.prog W = .ok (.enter fg args) W := hen
  clear hen hc hk ha hb hX hD hDx hL hl hm hs hA2 hd0 w1c
  go_enter Try.func90, Try.ntmps90
  go_wp2
  go_loopw [14, 15] (fun iv jv wr => ∃ i j : Nat, iv = .int .i64 i ∧ jv = .int .i64 j ∧ a ≤ i ∧ i ≤ j ∧ j ≤ m ∧ Hid ((∀ q, q < i - a → key (nth A q) ≤ key x) ∧ (∀ q, j - a ≤ q → q < A.length → key x < key (nth A q))) ∧ Below w.heap.size w wr) (fun iv jv _ => (intOf jv).toNat - (intOf iv).toNat)
  case atStart => exact ⟨a, m, rfl, rfl, Nat.le_refl _, by omega, Nat.le_refl _, ⟨fun q hq => absurd hq (by omega), fun q h1 h2 => absurd h1 (by have := HM.out; omega)⟩, bl_refl _⟩
  case round =>
    obtain ⟨i, j, rfl, rfl, hmi, hij, hjb, HH, hbr⟩ := hrel
    clear w1 w1b w1d w2
    by_cases hlt : i < j
    · have hd : decide (i < j) = true := decide_eq_true hlt
      have hor := ho.below hbr
      obtain ⟨h, hh⟩ : ∃ h : Nat, (i + j) / 2 = h := ⟨_, rfl⟩
      have hhi : ((i : Int) + (j : Int)) / 2 = (h : Int) := by omega
      have hh1 : i ≤ h := by omega
      have hh2 : h < j := by omega
      have hhn : h < n := by omega
      obtain ⟨y, hy⟩ : ∃ y, nth A (h - a) = y := ⟨_, rfl⟩
      have c1 := hor.icell hhn
      rw [HNA.out h (by omega) (by omega), hy] at c1
      have c2 := hor.icell hmn
      rw [HNm.out] at c2
      have HDy : Hid (D y) := HD.out y (by rw [← hy]; exact nth_mem (by have := HM.out; omega))
      have HY := Lib.hid hy
      have HHh := Lib.hid hh
      have hwr := Lib.hid (hw.trans (.below hbr))
      clear hor hy hh
      by_cases hcc : cf x y < 0
      · have hcd : decide (cf x y < 0) = true := decide_eq_true hcc
        have HCC : Hid (key x < key y) := (HK.out _ _).1 hcc
        clear hcc
        go_wp2_with fail
        refine wp_region_grow (by kernel_rfl) (by kernel_rfl) (fun X hX => ?_)
        have hbX : Below wr.heap.size wr X := by rw [hX]; exact bl_refl _
        have r1 := Gw.cell (cell_later hbX c1)
        have r2 := Gw.cell (cell_later hbX c2)
        have hwX := Lib.hid (hwr.out.trans (.below hbX))
        have HX' := Lib.hid hX
        clear hX
        repeat (go_big_quiet_step (exact Calls.grow_of (HC.out x y HDx.out HDy.out _ (hwX.out.trans (.below (Subtype.property _))))))
        refine wpGrow_nil (fun V hV => ?_)
        have hbV := bl_trans hbr (bl_trans hbX hV)
        clear r1 r2 c1 c2 hbX hV
        go_wp2
        go_roundw
        case rel => exact ⟨i, h, rfl, by go_num, hmi, by omega, by omega, ⟨HH.out.1, fun q h1 h2 => by
              have := srt_key HS.out (i := h - a) (j := q) (by omega) h2
              rw [HY.out] at this; have := HCC.out; omega⟩, hbV⟩
        case measure => simp [intOf]; omega
      · have hcd : decide (cf x y < 0) = false := decide_eq_false hcc
        have HCC : Hid (key y ≤ key x) := Int.not_lt.1 (fun h => hcc ((HK.out _ _).2 h))
        clear hcc
        go_wp2_with fail
        refine wp_region_grow (by kernel_rfl) (by kernel_rfl) (fun X hX => ?_)
        have hbX : Below wr.heap.size wr X := by rw [hX]; exact bl_refl _
        have r1 := Gw.cell (cell_later hbX c1)
        have r2 := Gw.cell (cell_later hbX c2)
        have hwX := Lib.hid (hwr.out.trans (.below hbX))
        have HX' := Lib.hid hX
        clear hX
        repeat (go_big_quiet_step (exact Calls.grow_of (HC.out x y HDx.out HDy.out _ (hwX.out.trans (.below (Subtype.property _))))))
        refine wpGrow_nil (fun V hV => ?_)
        have hbV := bl_trans hbr (bl_trans hbX hV)
        clear r1 r2 c1 c2 hbX hV
        go_wp2
        go_roundw
        case rel => exact ⟨h + 1, j, by go_num, rfl, by omega, by omega, hjb, ⟨fun q hq => by
              have := srt_key HS.out (i := q) (j := h - a) (by omega) (by have := HM.out; omega)
              rw [HY.out] at this; have := HCC.out; omega, HH.out.2⟩, hbV⟩
        case measure => simp [intOf]; omega
    · obtain rfl : i = j := by omega
      have hd : decide (i < i) = false := decide_eq_false (Nat.lt_irrefl _)
      have hor := ho.below hbr
      obtain ⟨A1, A2, hAA, hA1, hM1, hM2⟩ := cut_right (s := i - a) HS.out HX.out (by have := HM.out; omega) HH.out.1 HH.out.2
      have HAA : Hid (A1.length = i - a) := hA1
      have HM1 := Lib.hid hM1
      have HM2 := Lib.hid hM2
      have HAl : Hid (A1.length + A2.length = A.length) := by rw [Hid, hAA, List.length_append]
      have HLL : Hid (L0 = P ++ (A1 ++ (A2 ++ (x :: Q)))) := by rw [Hid, HL.out, hAA]; simp
      clear hAA hA1 hM1 hM2 HH ho
      obtain ⟨wo, hwo⟩ : ∃ wo, wo = wr := ⟨_, rfl⟩
      subst hwo
      go_wp2
      go_loopw [17] (fun kv wr => ∃ (k : Nat) (C1 C2 M : List Int), kv = .int .i64 k ∧ i ≤ k ∧ k ≤ m ∧ Hid (A2 = C1 ++ C2 ∧ i + C1.length = k ∧ M = P ++ (A1 ++ (C1 ++ (x :: (C2 ++ Q))))) ∧ Own wr base 3 (.slice (some ⟨g, 0, none⟩) n c) M ∧ OnlyF [g] w wr) (fun kv _ => (intOf kv).toNat)
      case atStart => exact ⟨m, A2, [], L0, rfl, by omega, Nat.le_refl _, ⟨by simp, by have := HAl.out; have := HM.out; have := HAA.out; omega, by rw [HLL.out]; rfl⟩, hor, .below hbr⟩
      case round =>
        obtain ⟨k, C1, C2, M, rfl, hik, hki, HI, ho2, hf2⟩ := hrel
        clear hor
        by_cases hkl : i < k
        · have hd2 : decide (i < k) = true := decide_eq_true hkl
          obtain ⟨C1', y, hC1⟩ := split_last (S := C1) (by have := HI.out.2.1; omega)
          have hC1l : C1.length = C1'.length + 1 := by rw [hC1]; simp
          obtain ⟨p, hp⟩ : ∃ p : Nat, k = p + 1 := ⟨k - 1, by omega⟩
          obtain ⟨hsw, -, n1, n2, -⟩ := swap_adj (P := P ++ (A1 ++ C1')) (s := y) (x := x) (R := C2 ++ Q) (L := M) (p := p) (j := k) (by rw [HI.out.2.2, hC1]; simp) (by rw [List.length_append, List.length_append, HP.out]; have := HI.out.2.1; have := HAA.out; omega) hp
          have hkn : k < n := by omega
          have hpn : p < n := by omega
          have c1 := ho2.icell hkn
          have c2 := ho2.icell hpn
          have f1 := ho2.frozenAt k
          have f2 := ho2.frozenAt p
          have hs2 := ho2.swap hkn hpn
          rw [n1, n2, hsw] at hs2
          rw [n2] at c1
          rw [n1] at c2
          have v1 : IntKind.i64.wrap ((k : Int) - 1) = (p : Int) := by rw [IntWalk.i64_in _ (by omega)]; omega
          have HS2 := Lib.hid hs2
          have HF3 : Hid (OnlyF [g] w ((wr.setCell ⟨g, k, none⟩ (.int .i64 y)).setCell ⟨g, p, none⟩ (.int .i64 x))) := (hf2.set (List.mem_singleton.2 rfl) _).set (List.mem_singleton.2 rfl) _
          have HC1 := Lib.hid hC1
          have HK1 := Lib.hid hp
          have HCl := Lib.hid hC1l
          have hip : i ≤ p := by omega
          have hpm : p ≤ m := by omega
          have ne1 : ¬ (p = k) := by omega
          have ne2 : ¬ (k = p) := by omega
          clear hsw n1 n2 hC1 hp hs2 ho2 hf2 hC1l
          go_wp2
          go_region
          all_goals
            go_wp2
            go_roundw
            case rel => exact ⟨p, C1', y :: C2, _, rfl, hip, hpm, ⟨by rw [HI.out.1, HC1.out]; simp, by have := HI.out.2.1; have := HK1.out; have := HCl.out; omega, by simp⟩, HS2.out.below (by repeat' (first | exact bl_refl _ | refine bl_drew ?_)), HF3.out.trans (.below (by repeat' (first | exact bl_refl _ | refine bl_drew ?_)))⟩
            case measure => have := HK1.out; simp only [intOf]; omega
        · obtain rfl : i = k := by omega
          have hd2 : decide (i < i) = false := decide_eq_false (Nat.lt_irrefl _)
          have hC : C1 = [] := List.eq_nil_of_length_eq_zero (by have := HI.out.2.1; omega)
          have HFin : Hid (M = P ++ ((A1 ++ x :: A2) ++ Q)) := by rw [Hid, HI.out.2.2, HI.out.1, hC]; simp
          clear hC
          go_wp2
          (try simp only [Exit.inBlock, Exit.then]); refine bodyPost_ret (results_none rfl _ _ _) rfl ?_
          exact ⟨rfl, ⟨_, HM1.out, HM2.out, by rw [← HFin.out]; exact ho2⟩, hf2⟩
end Go.Proofs.Ytgjnjfaohpmhkaa
