/-
  slices.symMergeCmpFunc at int, one step of its recursion. No conditions.
-/
import Derived.Test.YtgjnjfaohpmhkaaSsX0
import Derived.Deep.DeepCutAuto
namespace Go.Proofs.Ytgjnjfaohpmhkaa
open Go.RowKit

set_option maxRecDepth 100000 in
set_option maxHeartbeats 16000000 in
theorem sym_step (base g n c : Nat) (P A B Q L0 : List Int) (a m b N : Nat) (fg : FuncId) (caps : Array Value) (cf : Int → Int → Int) (key : Int → Int) (D : Int → Prop) (w0 w : World) (IH : SymOk base g n c fg caps key D w0 N) (hen : Enters Try.prog fg) (hc : CmpI g fg caps cf D w0) (hk : ∀ x y, cf x y < 0 ↔ key x < key y)
    (hN : A.length + B.length ≤ N + 1) (ha : P.length = a) (hm : a + A.length = m) (hb : m + B.length = b) (hA2 : 2 ≤ A.length) (hB2 : 2 ≤ B.length) (hn : n ≤ 1000) (hL : L0 = P ++ (A ++ (B ++ Q))) (hD : ∀ x, x ∈ A ++ B → D x) (hs1 : SrtK key A) (hs2 : SrtK key B) (hX : Cross key A B) (hw : OnlyF [g] w0 w) (ho : Own w base 3 (.slice (some ⟨g, 0, none⟩) n c) L0) :
    Calls Try.prog 90 #[.slice (some ⟨g, 0, none⟩) n c, .int .i64 (a : Int), .int .i64 (m : Int), .int .i64 (b : Int), .func (.func fg) #[] caps] w (RetMerge w base g n c key P (A ++ B) Q) := by
  have hl := ho.sl.1
  rw [hL] at hl
  simp only [List.length_append] at hl
  have hDL : ∀ i, a ≤ i → i < b → D (nth L0 i) := fun i i1 i2 => hD _ (by
    by_cases h : i < m
    · rw [hL, nth_right (by omega), nth_left (by omega)]; exact List.mem_append.2 (.inl (nth_mem (by omega)))
    · rw [hL, nth_right (by omega), nth_right (by omega), nth_left (by omega)]; exact List.mem_append.2 (.inr (nth_mem (by omega))))
  obtain ⟨d, hd0⟩ : ∃ d : Nat, m - a = d := ⟨_, rfl⟩
  obtain ⟨d', hd1⟩ : ∃ d' : Nat, b - m = d' := ⟨_, rfl⟩
  have w1 : IntKind.i64.wrap ((m : Int) - (a : Int)) = (d : Int) := by rw [IntWalk.i64_in _ (by omega)]; omega
  have w1b : ((d : Int) == 1) = false := by simp; omega
  have w1d : decide ((d : Int) = 1) = false := decide_eq_false (by omega)
  have w2 : IntKind.i64.wrap ((b : Int) - (m : Int)) = (d' : Int) := by rw [IntWalk.i64_in _ (by omega)]; omega
  have w2b : ((d' : Int) == 1) = false := by simp; omega
  have w2d : decide ((d' : Int) = 1) = false := decide_eq_false (by omega)
  have hbn : b ≤ n := by omega
  have ham : a < m := by omega
  have hmb : m < b := by omega
  obtain ⟨mid, hmid⟩ : ∃ mid : Nat, (a + b) / 2 = mid := ⟨_, rfl⟩
  have hmi : ((a : Int) + (b : Int)) / 2 = (mid : Int) := by omega
  obtain ⟨nn, hnn⟩ : ∃ nn : Nat, mid + m = nn := ⟨_, rfl⟩
  have v1 : IntKind.i64.wrap ((mid : Int) + (m : Int)) = (nn : Int) := by rw [IntWalk.i64_in _ (by omega)]; omega
  obtain ⟨p, hp⟩ : ∃ p : Nat, nn - 1 = p := ⟨_, rfl⟩
  have v2 : IntKind.i64.wrap ((nn : Int) - 1) = (p : Int) := by rw [IntWalk.i64_in _ (by omega)]; omega
  have hlh : ∃ lo hi : Nat, ((mid < m ∧ lo = nn - b ∧ hi = mid) ∨ (m ≤ mid ∧ lo = a ∧ hi = m)) ∧ a ≤ lo ∧ lo ≤ hi ∧ hi ≤ m ∧ hi ≤ mid ∧ nn ≤ lo + b := by
    by_cases h : mid < m
    · exact ⟨nn - b, mid, .inl ⟨h, rfl, rfl⟩, by omega, by omega, by omega, by omega, by omega⟩
    · exact ⟨a, m, .inr ⟨by omega, rfl, rfl⟩, by omega, by omega, by omega, by omega, by omega⟩
  obtain ⟨lo, hi, hLH, u1, u2, u3, u4, u5⟩ := hlh
  have u6 : mid < b := by omega
  have u7 : a < mid := by omega
  have u8 : mid + m ≤ nn := by omega
  have u9 : nn ≤ mid + m := by omega
  have HLH := Lib.hid hLH
  have HPp := Lib.hid hp
  have HMid := Lib.hid hmid
  have HNn := Lib.hid hnn
  have HDL := Lib.hid hDL
  have HC := Lib.hid hc
  have HK := Lib.hid hk
  have HP := Lib.hid ha
  have HM := Lib.hid hm
  have HB := Lib.hid hb
  have HX := Lib.hid hX
  have HD := Lib.hid hD
  have HS1 := Lib.hid hs1
  have HS2 := Lib.hid hs2
  have HL := Lib.hid hL
  have HIH := Lib.hid IH
  have HN := Lib.hid hN
  have hcf : ∀ (args : Array Value) (W : World), (callFunc fg args).run Try.prog W = .ok (.enter fg args) W := hen
  have HEN := Lib.hid hen
  clear hen hc hk ha hb hX hD hDL hL hl hm hs1 hs2 hA2 hB2 hd0 hd1 hLH hp hmid hnn IH hN
  go_enter Try.func90, Try.ntmps90
  go_upto_if 140 with fail
  go_cut [20, 21] (fun s r wx => s = .int .i64 (lo : Int) ∧ r = .int .i64 (hi : Int) ∧ w = wx)
  case first => as_aux_lemma =>
    by_cases h : mid < m
    · have hd : decide (mid < m) = true := decide_eq_true h
      have hlo : Hid (nn - b = lo ∧ mid = hi) := by have q := HLH.out; rw [Hid]; clear HLH; omega
      have v3 : IntKind.i64.wrap ((nn : Int) - (b : Int)) = (lo : Int) := by rw [IntWalk.i64_in _ (by omega)]; have := hlo.out; omega
      have v4 : (mid : Int) = hi := by have := hlo.out; omega
      go_wp2_with fail
      go_meet
      exact ⟨rfl, by rw [hlo.out.2], rfl⟩
    · have hd : decide (mid < m) = false := decide_eq_false h
      have hlo : Hid (a = lo ∧ m = hi) := by have q := HLH.out; rw [Hid]; clear HLH; omega
      go_wp2_with fail
      go_meet
      exact ⟨by rw [hlo.out.1], by rw [hlo.out.2], rfl⟩
  case rest => as_aux_lemma =>
    obtain ⟨rfl, rfl, rfl⟩ := hcut
    clear w1 w1b w1d w2 w2b w2d v1 hmi
    go_wp2
    go_loopw [20, 21] (fun sv rv wr => ∃ s r : Nat, sv = .int .i64 s ∧ rv = .int .i64 r ∧ lo ≤ s ∧ s ≤ r ∧ r ≤ hi ∧ Hid ((s = lo ∨ key (nth L0 (s - 1)) ≤ key (nth L0 (nn - s))) ∧ (r = hi ∨ key (nth L0 (nn - 1 - r)) < key (nth L0 r))) ∧ Below w.heap.size w wr) (fun iv jv _ => (intOf jv).toNat - (intOf iv).toNat)
    case atStart => exact ⟨lo, hi, rfl, rfl, Nat.le_refl _, u2, Nat.le_refl _, ⟨.inl rfl, .inl rfl⟩, bl_refl _⟩
    case round =>
      obtain ⟨s, r, rfl, rfl, hls, hsr, hrh, HH, hbr⟩ := hrel
      clear v2
      by_cases hlt : s < r
      · have hd : decide (s < r) = true := decide_eq_true hlt
        have hor := ho.below hbr
        obtain ⟨h, hh⟩ : ∃ h : Nat, (s + r) / 2 = h := ⟨_, rfl⟩
        have hhi : ((s : Int) + (r : Int)) / 2 = (h : Int) := by omega
        have hh1 : s ≤ h := by omega
        have hh2 : h < r := by omega
        have hhn : h < n := by omega
        obtain ⟨pc, hpc⟩ : ∃ pc : Nat, p - h = pc := ⟨_, rfl⟩
        have hpp := HPp.out
        have hpn : pc < n := by omega
        have hpm : m ≤ pc := by omega
        have hpb : pc < b := by omega
        have v5 : IntKind.i64.wrap ((p : Int) - (h : Int)) = (pc : Int) := by rw [IntWalk.i64_in _ (by omega)]; omega
        have HPC : Hid (nn - 1 - h = pc ∧ nn - (h + 1) = pc) := ⟨by omega, by omega⟩
        obtain ⟨x, hx⟩ : ∃ x, nth L0 h = x := ⟨_, rfl⟩
        obtain ⟨y, hy⟩ : ∃ y, nth L0 pc = y := ⟨_, rfl⟩
        have c1 := hor.icell hpn
        rw [hy] at c1
        have c2 := hor.icell hhn
        rw [hx] at c2
        have HDx : Hid (D x) := by rw [Hid, ← hx]; exact HDL.out h (by omega) (by omega)
        have HDy : Hid (D y) := by rw [Hid, ← hy]; exact HDL.out pc (by omega) (by omega)
        have HXx := Lib.hid hx
        have HYy := Lib.hid hy
        have hwr := Lib.hid (hw.trans (.below hbr))
        clear hor hy hx hh hpc hpp
        by_cases hcc : cf y x < 0
        · have hcd : decide (cf y x < 0) = true := decide_eq_true hcc
          have HCC : Hid (key y < key x) := (HK.out _ _).1 hcc
          clear hcc
          go_wp2_with fail
          refine wp_region_grow (by kernel_rfl) (by kernel_rfl) (fun X hX => ?_)
          have hbX : Below wr.heap.size wr X := by rw [hX]; exact bl_refl _
          have r1 := Gw.cell (cell_later hbX c1)
          have r2 := Gw.cell (cell_later hbX c2)
          have hwX := Lib.hid (hwr.out.trans (.below hbX))
          have HX' := Lib.hid hX
          clear hX
          repeat (go_big_quiet_step (exact Calls.grow_of (HC.out y x HDy.out HDx.out _ (hwX.out.trans (.below (Subtype.property _))))))
          refine wpGrow_nil (fun V hV => ?_)
          have hbV := bl_trans hbr (bl_trans hbX hV)
          clear r1 r2 c1 c2 hbX hV
          go_wp2
          go_roundw
          case rel => exact ⟨s, h, rfl, by go_num, hls, hh1, by omega, ⟨HH.out.1, .inr (by rw [HPC.out.1, HYy.out, HXx.out]; exact HCC.out)⟩, hbV⟩
          case measure => simp only [intOf]; omega
        · have hcd : decide (cf y x < 0) = false := decide_eq_false hcc
          have HCC : Hid (key x ≤ key y) := Int.not_lt.1 (fun h => hcc ((HK.out _ _).2 h))
          clear hcc
          go_wp2_with fail
          refine wp_region_grow (by kernel_rfl) (by kernel_rfl) (fun X hX => ?_)
          have hbX : Below wr.heap.size wr X := by rw [hX]; exact bl_refl _
          have r1 := Gw.cell (cell_later hbX c1)
          have r2 := Gw.cell (cell_later hbX c2)
          have hwX := Lib.hid (hwr.out.trans (.below hbX))
          have HX' := Lib.hid hX
          clear hX
          repeat (go_big_quiet_step (exact Calls.grow_of (HC.out y x HDy.out HDx.out _ (hwX.out.trans (.below (Subtype.property _))))))
          refine wpGrow_nil (fun V hV => ?_)
          have hbV := bl_trans hbr (bl_trans hbX hV)
          clear r1 r2 c1 c2 hbX hV
          go_wp2
          go_roundw
          case rel => exact ⟨h + 1, r, by go_num, rfl, by omega, by omega, hrh, ⟨.inr (by rw [HPC.out.2, HYy.out, show h + 1 - 1 = h by omega, HXx.out]; exact HCC.out), HH.out.2⟩, hbV⟩
          case measure => simp [intOf]; omega
      · obtain rfl : s = r := by omega
        have hd : decide (s < s) = false := decide_eq_false (Nat.lt_irrefl _)
        have hor := ho.below hbr
        obtain ⟨e1, he1⟩ : ∃ e1 : Nat, nn - s = e1 := ⟨_, rfl⟩
        have v5 : IntKind.i64.wrap ((nn : Int) - (s : Int)) = (e1 : Int) := by rw [IntWalk.i64_in _ (by omega)]; omega
        have hall := sym_cut hmb ham HP.out HM.out HB.out HL.out HS1.out HS2.out HMid.out HNn.out HLH.out hls hrh he1 HH.out.1 HH.out.2
        obtain ⟨A1, A2, B1, B2, hAA, hBB, l1, l2, l3, l4, l5, x1, x2⟩ := hall
        have t1 : SrtK key (A1 ++ A2) := by rw [← hAA]; exact HS1.out
        have t2 : SrtK key (B1 ++ B2) := by rw [← hBB]; exact HS2.out
        have t3 : Cross key (A1 ++ A2) (B1 ++ B2) := by rw [← hAA, ← hBB]; exact HX.out
        have t4 : ∀ x, x ∈ (A1 ++ A2) ++ (B1 ++ B2) → D x := by rw [← hAA, ← hBB]; exact HD.out
        have HMM : Hid (∀ M1 M2, M1.Perm (A1 ++ B1) → M2.Perm (A2 ++ B2) → SrtK key M1 → SrtK key M2 → (M1 ++ M2).Perm (A ++ B) ∧ SrtK key (M1 ++ M2)) := by
          intro M1 M2 p1 p2 p3 p4
          rw [hAA, hBB]
          exact merge_halves t1 t2 t3 x1 x2 p1 p2 p3 p4
        have HLL : Hid (L0 = P ++ (A1 ++ (A2 ++ (B1 ++ (B2 ++ Q))))) := by rw [Hid, HL.out, hAA, hBB]; simp only [List.append_assoc]
        have T1 := Lib.hid t1
        have T2 := Lib.hid t2
        have T3 := Lib.hid t3
        have T4 := Lib.hid t4
        have LL : Hid (a + A1.length = s ∧ s + A2.length = m ∧ m + B1.length = e1 ∧ e1 + B2.length = b ∧ s + B1.length = mid ∧ mid + A2.length = e1) := ⟨l1, l2, l3, l4, l5, by omega⟩
        have LN : Hid (A1.length + B1.length ≤ N ∧ A2.length + B2.length ≤ N) := by have := HN.out; have := HM.out; have := HB.out; exact ⟨by omega, by omega⟩
        have y1 : a ≤ s := by omega
        have y2 : s ≤ m := by omega
        have y3 : m ≤ e1 := by omega
        have y4 : e1 ≤ b := by omega
        have y5 : s ≤ mid := by omega
        have y6 : mid ≤ e1 := by omega
        clear hAA hBB l1 l2 l3 l4 l5 x1 x2 t1 t2 t3 t4 he1 HH ho u1 u2 u3 u4 u5 u8 u9
        obtain ⟨wo, hwo⟩ : ∃ wo, wo = wr := ⟨_, rfl⟩
        subst hwo
        have hfo : OnlyF [g] w wo := .below hbr
        rw [HLL.out] at hor
        go_upto_region 39 with fail
        go_cut [185] (fun v wx => ∃ q : Bool, v = .bool q ∧ Hid (q = (decide (s < m) && decide (m < e1))) ∧ wo = wx)
        case first => as_aux_lemma =>
          cases h1 : decide (s < m)
          · go_wp2_with fail
            go_meet
            exact ⟨_, rfl, by rw [Hid, h1]; rfl, rfl⟩
          · cases h2 : decide (m < e1)
            · go_wp2_with fail
              go_meet
              exact ⟨_, rfl, by rw [Hid, h1, h2]; rfl, rfl⟩
            · go_wp2_with fail
              go_meet
              exact ⟨_, rfl, by rw [Hid, h1, h2]; rfl, rfl⟩
        case rest => as_aux_lemma =>
          obtain ⟨q, rfl, HQ, rfl⟩ := hcut
          go_upto_if 185 with fail
          go_cut [] (fun wx => Own wx base 3 (.slice (some ⟨g, 0, none⟩) n c) (P ++ (A1 ++ (B1 ++ (A2 ++ (B2 ++ Q))))) ∧ OnlyF [g] w wx)
          case first => as_aux_lemma =>
            cases q
            · have hz : A2 = [] ∨ B1 = [] := by
                have h := HQ.out; have l := LL.out
                by_cases z1 : s < m
                · by_cases z2 : m < e1
                  · rw [decide_eq_true z1, decide_eq_true z2] at h; simp at h
                  · right; exact List.eq_nil_of_length_eq_zero (by omega)
                · left; exact List.eq_nil_of_length_eq_zero (by omega)
              have he : P ++ (A1 ++ (A2 ++ (B1 ++ (B2 ++ Q)))) = P ++ (A1 ++ (B1 ++ (A2 ++ (B2 ++ Q)))) := by rcases hz with rfl | rfl <;> rfl
              rw [he] at hor
              clear he hz
              go_wp2_with fail
              go_meet
              exact ⟨hor, hfo⟩
            · have hz : s < m ∧ m < e1 := by
                have h := HQ.out
                by_cases z1 : s < m
                · by_cases z2 : m < e1
                  · exact ⟨z1, z2⟩
                  · rw [decide_eq_false z2] at h; simp at h
                · rw [decide_eq_false z1] at h; simp at h
              have l := LL.out
              have hro := Lib.hid (rotate_any base g n c (P ++ A1) A2 B1 (B2 ++ Q) _ s m e1 (.func (.func fg) #[] caps) wo (by rw [List.length_append, HP.out]; omega) (by rw [List.length_append, HP.out]; omega) (by rw [List.length_append, HP.out]; omega) (by omega) (by omega) hn (by simp only [List.append_assoc]) hor)
              clear l hz
              go_wp2_with fail
              refine hro.out.mono ?_
              rintro e V1 ⟨rfl, ho1, hf1⟩
              go_wp2_with fail
              go_meet
              exact ⟨by simpa only [List.append_assoc] using ho1, hfo.trans hf1⟩
          case rest => as_aux_lemma =>
            obtain ⟨ho1, hf1⟩ := hcut
            clear hor hfo HQ HLL
            go_upto_region 41 with fail
            go_cut [199] (fun v wx => ∃ q : Bool, v = .bool q ∧ Hid (q = (decide (a < s) && decide (s < mid))) ∧ wc = wx)
            case first => as_aux_lemma =>
              cases h1 : decide (a < s)
              · go_wp2_with fail
                go_meet
                exact ⟨_, rfl, by rw [Hid, h1]; rfl, rfl⟩
              · cases h2 : decide (s < mid)
                · go_wp2_with fail
                  go_meet
                  exact ⟨_, rfl, by rw [Hid, h1, h2]; rfl, rfl⟩
                · go_wp2_with fail
                  go_meet
                  exact ⟨_, rfl, by rw [Hid, h1, h2]; rfl, rfl⟩
            case rest => as_aux_lemma =>
              obtain ⟨q, rfl, HQ, rfl⟩ := hcut
              go_upto_if 199 with fail
              go_cut [] (fun wx => ∃ M1, Hid (M1.Perm (A1 ++ B1) ∧ SrtK key M1) ∧ Own wx base 3 (.slice (some ⟨g, 0, none⟩) n c) (P ++ (M1 ++ (A2 ++ (B2 ++ Q)))) ∧ OnlyF [g] w wx)
              case first => as_aux_lemma =>
                cases q
                · have hz : A1 = [] ∨ B1 = [] := by
                    have h := HQ.out; have l := LL.out
                    by_cases z1 : a < s
                    · by_cases z2 : s < mid
                      · rw [decide_eq_true z1, decide_eq_true z2] at h; simp at h
                      · right; exact List.eq_nil_of_length_eq_zero (by omega)
                    · left; exact List.eq_nil_of_length_eq_zero (by omega)
                  have he : SrtK key (A1 ++ B1) := by
                    rcases hz with rfl | rfl
                    · exact (List.pairwise_append.1 T2.out).1
                    · rw [List.append_nil]; exact (List.pairwise_append.1 T1.out).1
                  have he2 : P ++ (A1 ++ (B1 ++ (A2 ++ (B2 ++ Q)))) = P ++ ((A1 ++ B1) ++ (A2 ++ (B2 ++ Q))) := by simp only [List.append_assoc]
                  have HE := Lib.hid he
                  rw [he2] at ho1
                  clear he hz he2
                  go_wp2_with fail
                  go_meet
                  exact ⟨A1 ++ B1, ⟨List.Perm.refl _, HE.out⟩, ho1, hf1⟩
                · have hz : a < s ∧ s < mid := by
                    have h := HQ.out
                    by_cases z1 : a < s
                    · by_cases z2 : s < mid
                      · exact ⟨z1, z2⟩
                      · rw [decide_eq_false z2] at h; simp at h
                    · rw [decide_eq_false z1] at h; simp at h
                  have l := LL.out
                  have hro := Lib.hid (HIH.out P A1 B1 (A2 ++ (B2 ++ Q)) _ a s mid wc LN.out.1 HP.out (by omega) (by omega) (by omega) (by omega) rfl (fun x hx => T4.out x (by simp only [List.mem_append] at hx ⊢; rcases hx with h | h <;> simp [h])) (List.pairwise_append.1 T1.out).1 (List.pairwise_append.1 T2.out).1 (fun x hx y hy => T3.out x (by simp [hx]) y (by simp [hy])) (hw.trans hf1) ho1)
                  clear l hz
                  go_wp2_with fail
                  refine hro.out.mono ?_
                  rintro e V1 ⟨rfl, ⟨M1, p1, p2, ho2⟩, hf2⟩
                  have HP1 := Lib.hid p1
                  clear p1
                  go_wp2_with fail
                  go_meet
                  exact ⟨M1, ⟨HP1.out, p2⟩, ho2, hf1.trans hf2⟩
              case rest => as_aux_lemma =>
                obtain ⟨M1, HM1, ho2, hf2⟩ := hcut
                clear ho1 hf1 HQ
                have l := Lib.hid LL.out
                have hML : Hid (P.length + M1.length = mid) := by have h1 := HM1.out.1.length_eq; rw [List.length_append] at h1; have h2 := l.out; have h3 := HP.out; rw [Hid]; omega
                have hno : (A2 = [] ∨ B2 = []) → Hid (RetMerge w base g n c key P (A ++ B) Q (.returned (.tuple #[])) wc) := by
                  intro hz
                  have he : SrtK key (A2 ++ B2) := by
                    rcases hz with rfl | rfl
                    · exact (List.pairwise_append.1 T2.out).2.1
                    · rw [List.append_nil]; exact (List.pairwise_append.1 T1.out).2.1
                  obtain ⟨f1, f2⟩ := HMM.out M1 (A2 ++ B2) HM1.out.1 (List.Perm.refl _) HM1.out.2 he
                  exact ⟨rfl, ⟨_, f1, f2, by simpa only [List.append_assoc] using ho2⟩, hf2⟩
                cases h1 : decide (mid < e1)
                · have hz := hno (.inl (by have := of_decide_eq_false h1; have := l.out; exact List.eq_nil_of_length_eq_zero (by omega)))
                  clear hno
                  go_wp2
                  go_end0
                  exact hz.out
                · cases h2 : decide (e1 < b)
                  · have hz := hno (.inr (by have := of_decide_eq_false h2; have := l.out; exact List.eq_nil_of_length_eq_zero (by omega)))
                    clear hno
                    go_wp2
                    go_end0
                    exact hz.out
                  · have z1 := of_decide_eq_true h1
                    have z2 := of_decide_eq_true h2
                    have hro := Lib.hid (HIH.out (P ++ M1) A2 B2 Q _ mid e1 b wc LN.out.2 (by rw [List.length_append]; exact hML.out) (by have := l.out; omega) (by have := l.out; omega) (by have := l.out; omega) (by have := l.out; omega) (by simp only [List.append_assoc]) (fun x hx => T4.out x (by simp only [List.mem_append] at hx ⊢; rcases hx with h | h <;> simp [h])) (List.pairwise_append.1 T1.out).2.1 (List.pairwise_append.1 T2.out).2.1 (fun x hx y hy => T3.out x (by simp [hx]) y (by simp [hy])) (hw.trans hf2) ho2)
                    clear hno z1 z2
                    go_wp2_with fail
                    refine hro.out.mono ?_
                    rintro e V1 ⟨rfl, ⟨M2, p1, p2, ho3⟩, hf3⟩
                    have HFin : Hid (RetMerge w base g n c key P (A ++ B) Q (.returned (.tuple #[])) V1) := by
                      obtain ⟨f1, f2⟩ := HMM.out M1 M2 HM1.out.1 p1 HM1.out.2 p2
                      exact ⟨rfl, ⟨_, f1, f2, by simpa only [List.append_assoc] using ho3⟩, hf2.trans hf3⟩
                    clear p1 p2 ho3
                    go_wp2
                    go_end0
                    exact HFin.out
end Go.Proofs.Ytgjnjfaohpmhkaa
