/-
  slices.insertionSortCmpFunc at int. No conditions.
-/
import Derived.Test.YtgjnjfaohpmhkaaSsR
namespace Go.Proofs.Ytgjnjfaohpmhkaa
open Go.RowKit

/-- what the comparing function answers, while only the block g has turned since w0 -/
def CmpI (g : Nat) (fg : FuncId) (caps : Array Value) (cf : Int → Int → Int) (D : Int → Prop) (w0 : World) : Prop :=
  ∀ x y, D x → D y → ∀ W, OnlyF [g] w0 W → Calls Try.prog fg (#[.int .i64 x, .int .i64 y] ++ caps) W fun e V => e = .returned (.int .i64 (cf x y)) ∧ Below W.heap.size W V
theorem split_last {S : List Int} (h : 0 < S.length) : ∃ S' s, S = S' ++ [s] := ⟨S.dropLast, S.getLast (by intro e; rw [e] at h; simp at h), (List.dropLast_concat_getLast _).symm⟩
theorem split_first {S : List Int} (h : 0 < S.length) : ∃ s S', S = s :: S' := by
  cases S with
  | nil => simp at h
  | cons s S => exact ⟨s, S, rfl⟩
theorem swap_adj {P R : List Int} {s x : Int} {L : List Int} {p j : Nat} (hL : L = P ++ (s :: x :: R)) (hp : P.length = p) (hj : j = p + 1) : swapL L j p = P ++ (x :: s :: R) ∧ swapL L p j = P ++ (x :: s :: R) ∧ nth L p = s ∧ nth L j = x ∧ j < L.length := by
  subst hL hp hj
  have e1 : nth (P ++ (s :: x :: R)) P.length = s := by unfold nth; simp
  have e2 : nth (P ++ (s :: x :: R)) (P.length + 1) = x := by unfold nth; simp
  refine ⟨?_, ?_, e1, e2, by simp⟩
  · unfold swapL; rw [e1, e2]; simp
  · unfold swapL; rw [e1, e2]; simp
set_option maxRecDepth 100000 in
set_option maxHeartbeats 8000000 in
theorem insertion_small (v cv : Value) (a b : Nat) (w : World) (hab : b ≤ a + 1) (ha : a ≤ 1000) :
    Calls Try.prog 89 #[v, .int .i64 (a : Int), .int .i64 (b : Int), cv] w fun e w' => e = .returned (.tuple #[]) ∧ w' = w := by
  obtain ⟨q, hq⟩ : ∃ q : Nat, a + 1 = q := ⟨_, rfl⟩
  have w1 : IntKind.i64.wrap ((a : Int) + 1) = (q : Int) := by rw [IntWalk.i64_in _ (by omega)]; omega
  have hd : decide (q < b) = false := by simp; omega
  clear hq
  go_enter Try.func89, Try.ntmps89
  go_wp2
  go_loopw [8] (fun iv wr => iv = .int .i64 (q : Int) ∧ wr = w) (fun iv _ => 0)
  case atStart => exact ⟨rfl, rfl⟩
  case round =>
    obtain ⟨rfl, rfl⟩ := hrel
    go_wp2
    go_end0
    exact ⟨rfl, rfl⟩
theorem ins_done {key : Int → Int} {A1 R' S1 S2 : List Int} {x : Int} (hs : SrtK key (S1 ++ S2)) (hp : (S1 ++ S2).Perm A1) (hX : (A1 ++ x :: R').Pairwise (fun u v => key u = key v → u < v)) (h2 : ∀ y, y ∈ S2 → key x < key y)
    (h1 : S1 = [] ∨ ∃ S0 s, S1 = S0 ++ [s] ∧ ¬ key x < key s) : SrtK key (S1 ++ x :: S2) ∧ (S1 ++ x :: S2).Perm (A1 ++ [x]) := by
  have hc : Cross key (S1 ++ S2) [x] := fun u hu v hv e => by
    obtain rfl := List.mem_singleton.1 hv
    exact (List.pairwise_append.1 hX).2.2 u (hp.mem_iff.1 hu) v List.mem_cons_self e
  have h1' : ∀ y, y ∈ S1 → key y ≤ key x := by
    intro y hy
    rcases h1 with h1 | ⟨S0, s, rfl, h1⟩
    · rw [h1] at hy; exact absurd hy List.not_mem_nil
    · rcases List.mem_append.1 hy with hy | hy
      · have := (List.pairwise_append.1 (List.pairwise_append.1 hs).1).2.2 y hy s (List.mem_singleton.2 rfl)
        unfold ltK at this; omega
      · obtain rfl := List.mem_singleton.1 hy; omega
  obtain ⟨p, q⟩ := put_right hs hc h1' h2
  exact ⟨q, p.trans (hp.append_right [x])⟩
set_option maxRecDepth 100000 in
set_option maxHeartbeats 8000000 in
theorem insertion_any (base g n c : Nat) (P A Q L0 : List Int) (a b : Nat) (fg : FuncId) (caps : Array Value) (cf : Int → Int → Int) (key : Int → Int) (D : Int → Prop) (w0 w : World) (hen : Enters Try.prog fg) (hc : CmpI g fg caps cf D w0) (hk : ∀ x y, cf x y < 0 ↔ key x < key y)
    (ha : P.length = a) (hb : P.length + A.length = b) (hA : 0 < A.length) (hn : n ≤ 1000) (hL : L0 = P ++ (A ++ Q)) (hD : ∀ x, x ∈ A → D x) (hX : A.Pairwise (fun u v => key u = key v → u < v)) (hw : OnlyF [g] w0 w) (ho : Own w base 3 (.slice (some ⟨g, 0, none⟩) n c) L0) :
    Calls Try.prog 89 #[.slice (some ⟨g, 0, none⟩) n c, .int .i64 (a : Int), .int .i64 (b : Int), .func (.func fg) #[] caps] w fun e w' => e = .returned (.tuple #[]) ∧ (∃ M, M.Perm A ∧ SrtK key M ∧ Own w' base 3 (.slice (some ⟨g, 0, none⟩) n c) (P ++ (M ++ Q))) ∧ OnlyF [g] w w' := by
  have hl := ho.sl.1
  rw [hL] at hl
  simp only [List.length_append] at hl
  obtain ⟨q0, hq⟩ : ∃ q : Nat, a + 1 = q := ⟨_, rfl⟩
  have w1 : IntKind.i64.wrap ((a : Int) + 1) = (q0 : Int) := by rw [IntWalk.i64_in _ (by omega)]; omega
  have start : ∃ (S R A1 : List Int), a < q0 ∧ q0 ≤ b ∧ b ≤ n ∧ Hid (a + S.length = q0 ∧ q0 + R.length = b ∧ A = A1 ++ R ∧ S.Perm A1 ∧ SrtK key S ∧ L0 = P ++ (S ++ (R ++ Q))) := by
    obtain ⟨x, R, hxR⟩ := split_first hA
    have e : A.length = R.length + 1 := by rw [hxR]; rfl
    exact ⟨[x], R, [x], by omega, by omega, by omega, by simp; omega, by omega, hxR, List.Perm.refl _, List.pairwise_singleton _ _, by rw [hL, hxR]; rfl⟩
  obtain ⟨S0, R0, A0, s1, s2, hbn, s3⟩ := start
  have HC := Lib.hid hc
  have HK := Lib.hid hk
  have HP := Lib.hid ha
  have HX := Lib.hid hX
  have HD := Lib.hid hD
  have hcf : ∀ (args : Array Value) (W : World), (callFunc fg args).run Try.prog W = .ok (.enter fg args) W := hen
  clear hen hc hk ha hb hX hD hL hl hq hA
  go_enter Try.func89, Try.ntmps89
  go_wp2
  go_loopw [8] (fun iv wr => ∃ (i : Nat) (S R A1 L : List Int), iv = .int .i64 i ∧ a < i ∧ i ≤ b ∧ Hid (a + S.length = i ∧ i + R.length = b ∧ A = A1 ++ R ∧ S.Perm A1 ∧ SrtK key S ∧ L = P ++ (S ++ (R ++ Q))) ∧ Own wr base 3 (.slice (some ⟨g, 0, none⟩) n c) L ∧ OnlyF [g] w wr) (fun iv _ => n - (intOf iv).toNat)
  case atStart => exact ⟨q0, S0, R0, A0, _, rfl, s1, s2, s3, ho, OnlyF.refl _ _⟩
  case round =>
    obtain ⟨i, S, R, A1, L, rfl, hai, hib, HH, hor, hfr⟩ := hrel
    clear ho s1 s2 s3 w1
    obtain ⟨wo, hwo⟩ : ∃ wo, wo = wr := ⟨_, rfl⟩
    subst hwo
    by_cases hlt : i < b
    · have hd : decide (i < b) = true := decide_eq_true hlt
      obtain ⟨x, R', hR⟩ := split_first (S := R) (by have := HH.out; omega)
      have hRl : R.length = R'.length + 1 := by rw [hR]; rfl
      have HR := Lib.hid hR
      have HRl := Lib.hid hRl
      have HDx : Hid (D x) := HD.out x (by rw [HH.out.2.2.1, hR]; simp)
      clear hR hRl
      go_wp2
      go_loopw [9] (fun jv wr => ∃ (j : Nat) (S1 S2 M : List Int), jv = .int .i64 j ∧ a ≤ j ∧ j ≤ i ∧ Hid (a + S1.length = j ∧ S = S1 ++ S2 ∧ (∀ y, y ∈ S2 → key x < key y) ∧ M = P ++ (S1 ++ (x :: (S2 ++ (R' ++ Q))))) ∧ Own wr base 3 (.slice (some ⟨g, 0, none⟩) n c) M ∧ OnlyF [g] w wr) (fun jv _ => (intOf jv).toNat)
      case atStart => exact ⟨i, S, [], L, rfl, by omega, Nat.le_refl _, ⟨HH.out.1, by simp, by simp, by rw [HH.out.2.2.2.2.2, HR.out]; rfl⟩, hor, hfr⟩
      case round =>
        obtain ⟨j, S1, S2, M, rfl, haj, hji, HI, ho2, hf2⟩ := hrel
        clear hor
        by_cases hja : a < j
        · have hjb : decide (a < j) = true := decide_eq_true hja
          obtain ⟨S1', s, hS1⟩ := split_last (S := S1) (by have := HI.out.1; omega)
          obtain ⟨p, hp⟩ : ∃ p : Nat, j = p + 1 := ⟨j - 1, by omega⟩
          have hS1l : S1.length = S1'.length + 1 := by rw [hS1]; simp
          obtain ⟨hsw, -, n1, n2, -⟩ := swap_adj (P := P ++ S1') (s := s) (x := x) (R := S2 ++ (R' ++ Q)) (L := M) (p := p) (j := j) (by rw [HI.out.2.2.2, hS1]; simp) (by rw [List.length_append, HP.out]; have := HI.out.1; omega) hp
          have hjn : j < n := by omega
          have hpn : p < n := by omega
          have c1 := ho2.icell hjn
          have c2 := ho2.icell hpn
          rw [n2] at c1
          rw [n1] at c2
          have f1 := ho2.frozenAt j
          have f2 := ho2.frozenAt p
          have v1 : IntKind.i64.wrap ((j : Int) - 1) = (p : Int) := by rw [IntWalk.i64_in _ (by omega)]; omega
          have hgz : g < wr.heap.size := World.block_lt_of_cell? _ _ c1
          have HDs : Hid (D s) := HD.out s (by rw [HH.out.2.2.1]; exact List.mem_append.2 (.inl (HH.out.2.2.2.1.mem_iff.1 (by rw [HI.out.2.1, hS1]; simp))))
          have HS1 := Lib.hid hS1
          have HSW := Lib.hid hsw
          have HPj := Lib.hid hp
          have HN1 := Lib.hid n1
          have HN2 := Lib.hid n2
          have ne1 : ¬ (j = p) := by omega
          have ne2 : ¬ (p = j) := by omega
          clear hS1 hS1l hsw hp n1 n2
          by_cases hcc : cf x s < 0
          · have hcd : decide (cf x s < 0) = true := decide_eq_true hcc
            have HCC := Lib.hid hcc
            clear hcc
            go_wp2_with fail
            refine wp_region_grow (by kernel_rfl) (by kernel_rfl) (fun X hX => ?_)
            have hbX : Below wr.heap.size wr X := by rw [hX]; exact bl_refl _
            have r1 := Gw.cell (cell_later hbX c1)
            have r2 := Gw.cell (cell_later hbX c2)
            have hwX := Lib.hid (hw.trans (hf2.trans (.below hbX)))
            have HX' := Lib.hid hX
            clear hX
            repeat (go_big_quiet_step (exact Calls.grow_of (HC.out x s HDx.out HDs.out _ (hwX.out.trans (.below (Subtype.property _))))))
            refine wpGrow_nil (fun V hV => ?_)
            have hbV := bl_trans hbX hV
            have d1 := cell_later hbV c1
            have d2 := cell_later hbV c2
            have g1 := frozen_later hbV hgz f1
            have g2 := frozen_later hbV hgz f2
            have hoV := Lib.hid (ho2.below hbV)
            have hfV := Lib.hid (hf2.trans (.below hbV))
            clear r1 r2 c1 c2 f1 f2 hbV hV hbX ho2 hf2 hgz
            have hs2 := (hoV.out.swap hjn hpn)
            rw [HN1.out, HN2.out, HSW.out] at hs2
            have HS2 := Lib.hid hs2
            have hf3 : OnlyF [g] w ((V.setCell ⟨g, j, none⟩ (.int .i64 s)).setCell ⟨g, p, none⟩ (.int .i64 x)) := (hfV.out.set (List.mem_singleton.2 rfl) _).set (List.mem_singleton.2 rfl) _
            have HF3 := Lib.hid hf3
            clear hs2 hf3
            go_wp2
            go_region
            all_goals
              go_wp2
              go_roundw
              case rel => exact ⟨p, S1', s :: S2, _, rfl, by have := HPj.out; omega, by have := HPj.out; omega, ⟨by have := HI.out.1; rw [HS1.out] at this; simp at this; have := HPj.out; omega, by rw [HI.out.2.1, HS1.out]; simp, fun y hy => by
                  rcases List.mem_cons.1 hy with rfl | hy
                  · exact (HK.out _ _).1 HCC.out
                  · exact HI.out.2.2.1 y hy, by simp⟩, HS2.out.below (by repeat' (first | exact bl_refl _ | refine bl_drew ?_)), HF3.out.trans (.below (by repeat' (first | exact bl_refl _ | refine bl_drew ?_)))⟩
              case measure => have := HPj.out; simp only [intOf]; omega
          · have hcd : decide (cf x s < 0) = false := decide_eq_false hcc
            have HCC := Lib.hid hcc
            clear hcc
            go_wp2_with fail
            refine wp_region_grow (by kernel_rfl) (by kernel_rfl) (fun X hX => ?_)
            have hbX : Below wr.heap.size wr X := by rw [hX]; exact bl_refl _
            have r1 := Gw.cell (cell_later hbX c1)
            have r2 := Gw.cell (cell_later hbX c2)
            have hwX := Lib.hid (hw.trans (hf2.trans (.below hbX)))
            have HX' := Lib.hid hX
            clear hX
            repeat (go_big_quiet_step (exact Calls.grow_of (HC.out x s HDx.out HDs.out _ (hwX.out.trans (.below (Subtype.property _))))))
            refine wpGrow_nil (fun V hV => ?_)
            have hbV := bl_trans hbX hV
            have hoV := Lib.hid (ho2.below hbV)
            have hfV := Lib.hid (hf2.trans (.below hbV))
            clear r1 r2 c1 c2 f1 f2 hbV hV hbX ho2 hf2 hgz
            go_wp2
            go_roundw
            case rel =>
              obtain ⟨t1, t2⟩ := ins_done (A1 := A1) (R' := R') (S1 := S1) (S2 := S2) (x := x) (by rw [← HI.out.2.1]; exact HH.out.2.2.2.2.1) (by rw [← HI.out.2.1]; exact HH.out.2.2.2.1) (by have := HX.out; rwa [HH.out.2.2.1, HR.out] at this) HI.out.2.2.1 (.inr ⟨S1', s, HS1.out, fun h => absurd ((HK.out _ _).2 h) (by have := HCC.out; omega)⟩)
              exact ⟨i + 1, S1 ++ x :: S2, R', A1 ++ [x], _, by go_num, by omega, by omega, ⟨by have := HH.out.1; rw [HI.out.2.1] at this; simp only [List.length_append, List.length_cons] at this ⊢; omega, by have := HH.out.2.1; have := HRl.out; omega, by rw [HH.out.2.2.1, HR.out]; simp, t2, t1, by rw [HI.out.2.2.2]; simp⟩, hoV.out, hfV.out⟩
            case measure => simp [intOf]; omega
        · obtain rfl : j = a := by omega
          have hjb : decide (j < j) = false := decide_eq_false (Nat.lt_irrefl _)
          go_wp2_with fail
          refine wp_region_grow (by kernel_rfl) (by kernel_rfl) (fun X hX => ?_)
          have hbX : Below wr.heap.size wr X := by rw [hX]; exact bl_refl _
          have HX' := Lib.hid hX
          clear hX
          repeat (go_big_quiet_step (fail))
          refine wpGrow_nil (fun V hV => ?_)
          have hbV := bl_trans hbX hV
          have hoV := Lib.hid (ho2.below hbV)
          have hfV := Lib.hid (hf2.trans (.below hbV))
          clear hbV hV hbX ho2 hf2
          go_wp2
          go_roundw
          case rel =>
            obtain ⟨t1, t2⟩ := ins_done (A1 := A1) (R' := R') (S1 := S1) (S2 := S2) (x := x) (by rw [← HI.out.2.1]; exact HH.out.2.2.2.2.1) (by rw [← HI.out.2.1]; exact HH.out.2.2.2.1) (by have := HX.out; rwa [HH.out.2.2.1, HR.out] at this) HI.out.2.2.1 (.inl (List.eq_nil_of_length_eq_zero (by have := HI.out.1; omega)))
            exact ⟨i + 1, S1 ++ x :: S2, R', A1 ++ [x], _, by go_num, by omega, by omega, ⟨by have := HH.out.1; rw [HI.out.2.1] at this; simp only [List.length_append, List.length_cons] at this ⊢; omega, by have := HH.out.2.1; have := HRl.out; omega, by rw [HH.out.2.2.1, HR.out]; simp, t2, t1, by rw [HI.out.2.2.2]; simp⟩, hoV.out, hfV.out⟩
          case measure => simp [intOf]; omega
    · obtain rfl : i = b := by omega
      have hd : decide (i < i) = false := decide_eq_false (Nat.lt_irrefl _)
      have hR0 : R = [] := List.eq_nil_of_length_eq_zero (by have := HH.out.2.1; omega)
      have HFin : Hid (S.Perm A ∧ SrtK key S ∧ L = P ++ (S ++ Q)) := by
        obtain ⟨q1, q2, q3, q4, q5, q6⟩ := HH.out
        rw [hR0] at q3 q6
        exact ⟨by rw [q3, List.append_nil]; exact q4, q5, q6⟩
      clear hR0
      go_wp2
      go_end0
      exact ⟨rfl, ⟨S, HFin.out.1, HFin.out.2.1, by rw [← HFin.out.2.2]; exact hor⟩, hfr⟩
end Go.Proofs.Ytgjnjfaohpmhkaa
