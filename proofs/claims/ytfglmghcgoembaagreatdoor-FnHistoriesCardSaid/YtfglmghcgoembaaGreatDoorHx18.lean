/-
  Several texts in one. No conditions.
-/
import Derived.Test.YtfglmghcgoembaaGreatDoorHx11
import Derived.Test.YtfglmghcgoembaaGreatDoorHx17
namespace Go.Proofs.YtfglmghcgoembaaGreatDoor
open Go.RowKit

theorem jo_or {a b j : List Entry} {ok : Bool} (h : joF a b = (j, ok)) : j = a ∨ j = b ∨ j = [] := by
  unfold joF at h
  split at h
  · injection h with h _; exact .inl h.symm
  · split at h
    · injection h with h _; exact .inr (.inl h.symm)
    · injection h with h _; exact .inr (.inr h.symm)
set_option maxHeartbeats 4000000 in
theorem mgGood_any (h : List Entry) (A : Option Addr) (n c : Nat) (w : World) (hn : n ≤ 1048576) (hs : Sl w A n h) (hv : ∀ x, x ∈ h → x.Text.size ≤ maxLen) :
    Calls Tryz.prog 31 #[.slice A n c] w fun e w' => e = .returned (.bool (hiB h)) ∧ Below w.heap.size w w' := by
  have HL := Lib.hid hs.1
  have hf := fil_len 1 h
  have hz := filN_len 1 h
  rw [hs.1] at hf hz
  obtain ⟨F, hF⟩ : ∃ F, fil 1 h = F := ⟨_, rfl⟩
  obtain ⟨S, hS⟩ : ∃ S, filN 1 h = S := ⟨_, rfl⟩
  have hvF : ∀ x, x ∈ F → x.Text.size ≤ maxLen := fun x hx => hv x (by rw [← hF] at hx; exact (List.mem_filter.1 hx).1)
  have hvS : ∀ x, x ∈ S → x.Text.size ≤ maxLen := fun x hx => hv x (by rw [← hS] at hx; exact (List.mem_filter.1 hx).1)
  obtain ⟨v1, e1⟩ : ∃ v, (lgB F && lgB S) = v := ⟨_, rfl⟩
  obtain ⟨v2, e2⟩ : ∃ v, ofB S 2 = v := ⟨_, rfl⟩
  obtain ⟨v3, e3⟩ : ∃ v, begB h (mgL F S) = v := ⟨_, rfl⟩
  have q : Hid (hiB h = (v1 && v2 && v3)) := by rw [Hid, ← e1, ← e2, ← e3]; unfold hiB; rw [hF, hS]; congr 1; rw [Bool.eq_iff_iff, decide_eq_true_eq, begB_iff]; constructor; exact fun e => ⟨[], by rw [List.append_nil]; exact e.symm⟩; rintro ⟨t, e⟩; have hl := congrArg List.length e; rw [mgL_len, List.length_append, ← hF, ← hS] at hl; have := (fil_split h).length_eq; rw [List.length_append] at this; have ht : t = [] := List.length_eq_zero_iff.1 (by omega); rw [e, ht, List.append_nil]
  rw [hF] at hf
  rw [hS] at hz
  have hsum : F.length + S.length ≤ n := by have h1 := (fil_split h).length_eq; rw [List.length_append, hF, hS] at h1; have := HL.out; omega
  have k0 := Lib.hid (show ∀ (W : World), Sl W A n h → Calls Tryz.prog 32 #[.slice A n c] W fun e w' => ∃ A1 c1 A2 c2, e = .returned (.tuple #[.slice A1 F.length c1, .slice A2 S.length c2]) ∧ Own w' W.heap.size 40 (.slice A1 F.length c1) F ∧ Own w' W.heap.size 40 (.slice A2 S.length c2) S ∧ Below W.heap.size W w' from fun W hs => by have h := mgSplit_any h A n c W hn hs; rw [hF, hS] at h; exact h)
  have k1 := Lib.hid (show ∀ (W : World) (A1 A2 : Option Addr) (c1 c2 : Nat), Sl W A1 F.length F → Sl W A2 S.length S → Calls Tryz.prog 60 #[.slice A1 F.length c1, .slice A2 S.length c2] W fun e w' => e = .returned (.bool v1) ∧ Below W.heap.size W w' from fun W A1 A2 c1 c2 h1 h2 => by have h := mgTwo_any F S A1 A2 _ _ c1 c2 W (by omega) (by omega) h1 h2 hvF hvS; rw [e1] at h; exact h)
  have k2 := Lib.hid (show ∀ (W : World) (A2 : Option Addr) (c2 : Nat), Sl W A2 S.length S → Calls Tryz.prog 61 #[.slice A2 S.length c2, .int .i64 2] W fun e w' => e = .returned (.bool v2) ∧ w' = W from fun W A2 c2 h2 => by have h := mgOf_any S 2 A2 _ c2 W (by omega) h2; rw [e2] at h; exact h)
  have k3 := Lib.hid (show ∀ (W : World) (A2 : Option Addr) (c2 : Nat), Sl W A n h → Sl W A2 (mgL F S).length (mgL F S) → Calls Tryz.prog 62 #[.slice A n c, .slice A2 (mgL F S).length c2] W fun e w' => e = .returned (.bool v3) ∧ Below W.heap.size W w' from fun W A2 c2 h1 h2 => by have h := mgBegins_any h (mgL F S) A A2 n _ c c2 W hn (by rw [mgL_len]; omega) h1 h2; rw [e3] at h; exact h)
  clear e1 e2 e3 hF hS hv hvF hvS
  go_enter Tryz.func31, Tryz.ntmps31
  go_wp2_with fail
  refine (k0.out _ hs).mono ?_
  rintro e V1 ⟨A1, c1, A2, c2, rfl, ho1, ho2, hb1⟩
  have hs1 := hs.below hb1
  go_wp2_with fail
  refine (k1.out _ _ _ _ _ ho1.sl ho2.sl).mono ?_
  rintro e V2 ⟨rfl, hb2⟩
  have ho3 := ho1.below hb2
  have ho4 := ho2.below hb2
  have hs2 := hs1.below hb2
  have hb12 := bl_trans hb1 hb2
  cases v1
  · go_wp2
    go_ret
    exact ⟨ret_bool (by rw [q.out]; rfl), hb12⟩
  · go_wp2_with fail
    refine (k2.out _ _ _ ho4.sl).mono ?_
    rintro e V3 ⟨rfl, hw3⟩
    subst hw3
    cases v2
    · go_wp2
      go_ret
      exact ⟨ret_bool (by rw [q.out]; rfl), hb12⟩
    · go_wp2_with fail
      refine (mgHistory_any F S A1 A2 _ _ c1 c2 _ (by omega) (by omega) ho3.sl ho4.sl).mono ?_
      rintro e V4 ⟨A4, c4, rfl, ho5, hb4⟩
      go_wp2_with fail
      refine (k3.out _ _ _ (hs2.below hb4) ho5.sl).mono ?_
      rintro e V5 ⟨rfl, hb5⟩
      go_wp2
      go_ret
      exact ⟨ret_bool (by rw [q.out]; rfl), bl_trans hb12 (bl_trans hb4 hb5)⟩
set_option maxHeartbeats 4000000 in
theorem specSplit_any (h : List Entry) (A : Option Addr) (n c : Nat) (w : World) (hn : n ≤ 1048576) (hs : Sl w A n h) (hv : ∀ x, x ∈ h → x.Text.size ≤ maxLen) :
    Calls Tryz.prog 14 #[.slice A n c] w fun e w' => ∃ A1 c1 A2 c2, e = .returned (.tuple #[.slice A1 (shF h).1.length c1, .slice A2 (shF h).2.1.length c2, .bool (shF h).2.2]) ∧ Own w' w.heap.size 40 (.slice A1 (shF h).1.length c1) (shF h).1 ∧ Own w' w.heap.size 40 (.slice A2 (shF h).2.1.length c2) (shF h).2.1 ∧ Below w.heap.size w w' := by
  obtain ⟨v, ev⟩ : ∃ v, hiB h = v := ⟨_, rfl⟩
  have kg := Lib.hid (show ∀ (W : World), Sl W A n h → Calls Tryz.prog 31 #[.slice A n c] W fun e w' => e = .returned (.bool v) ∧ Below W.heap.size W w' from fun W hs => by have h := mgGood_any h A n c W hn hs hv; rw [ev] at h; exact h)
  go_enter Tryz.func14, Tryz.ntmps14
  have EV := Lib.hid ev
  clear ev
  go_wp2_with fail
  refine (kg.out _ hs).mono ?_
  rintro e V1 ⟨rfl, hb1⟩
  have hs1 := hs.below hb1
  cases v
  · go_wp2
    go_ret3
    rw [shF_no EV.out]
    exact ⟨none, 0, none, 0, rfl, Own.nil _ _ _, Own.nil _ _ _, hb1⟩
  · go_wp2_with fail
    refine (mgSplit_any h A n c _ hn hs1).mono ?_
    rintro e V2 ⟨A1, c1, A2, c2, rfl, ho1, ho2, hb2⟩
    go_wp2
    go_ret3
    rw [shF_yes EV.out]
    rw [fil2_N EV.out] at ho2 ⊢
    exact ⟨A1, c1, A2, c2, rfl, ho1.mono hb1.size, ho2.mono hb1.size, bl_trans hb1 hb2⟩
set_option maxHeartbeats 4000000 in
theorem specMerge_any (a b : List Entry) (A B : Option Addr) (n m c d : Nat) (w : World) (hn : n ≤ 1048576) (hm : m ≤ 1048576) (hs : Sl w A n a) (ht : Sl w B m b) (hv : ∀ x, x ∈ a → x.Text.size ≤ maxLen) (hu : ∀ x, x ∈ b → x.Text.size ≤ maxLen) :
    Calls Tryz.prog 7 #[.slice A n c, .slice B m d] w (RetOwn2 w 40 (mhF a b)) := by
  have HA := Lib.hid hs.1
  have HB := Lib.hid ht.1
  obtain ⟨v, ev⟩ : ∃ v, hiB a = v := ⟨_, rfl⟩
  obtain ⟨u, eu⟩ : ∃ v, hiB b = v := ⟨_, rfl⟩
  have kg := Lib.hid (show ∀ (W : World), Sl W A n a → Calls Tryz.prog 31 #[.slice A n c] W fun e w' => e = .returned (.bool v) ∧ Below W.heap.size W w' from fun W hs => by have h := mgGood_any a A n c W hn hs hv; rw [ev] at h; exact h)
  have kh := Lib.hid (show ∀ (W : World), Sl W B m b → Calls Tryz.prog 31 #[.slice B m d] W fun e w' => e = .returned (.bool u) ∧ Below W.heap.size W w' from fun W hs => by have h := mgGood_any b B m d W hm hs hu; rw [eu] at h; exact h)
  have EV := Lib.hid ev
  have EU := Lib.hid eu
  clear ev eu hv hu
  go_enter Tryz.func7, Tryz.ntmps7
  go_wp2_with fail
  refine (kg.out _ hs).mono ?_
  rintro e V1 ⟨rfl, hb1⟩
  have hs1 := hs.below hb1
  have ht1 := ht.below hb1
  cases v
  · go_wp2
    go_ret2
    exact retOwn2_mk (mhF_no (by rw [EV.out]; rfl)) (Own.nil _ _ _) hb1
  · go_wp2_with fail
    refine (kh.out _ ht1).mono ?_
    rintro e V2 ⟨rfl, hb2⟩
    have hs2 := hs1.below hb2
    have ht2 := ht1.below hb2
    have hb12 := bl_trans hb1 hb2
    cases u
    · go_wp2
      go_ret2
      exact retOwn2_mk (mhF_no (by rw [EU.out, Bool.and_false])) (Own.nil _ _ _) hb12
    · have l1 := fil_len 1 a
      have l2 := fil_len 2 a
      have l3 := fil_len 1 b
      have l4 := fil_len 2 b
      rw [HA.out] at l1 l2
      rw [HB.out] at l3 l4
      go_wp2_with fail
      refine (mgSplit_any a A n c _ hn hs2).mono ?_
      rintro e V3 ⟨A1, c1, A2, c2, rfl, ho1, ho2, hb3⟩
      rw [fil2_N EV.out] at ho2 ⊢
      have ht3 := ht2.below hb3
      go_wp2_with fail
      refine (mgSplit_any b B m d _ hm ht3).mono ?_
      rintro e V4 ⟨A3, c3, A4, c4, rfl, ho3, ho4, hb4⟩
      rw [fil2_N EU.out] at ho4 ⊢
      have ho1' := ho1.below hb4
      have ho2' := ho2.below hb4
      obtain ⟨⟨F, x⟩, hF⟩ : ∃ r, joF (fil 1 a) (fil 1 b) = r := ⟨_, rfl⟩
      obtain ⟨⟨S, y⟩, hS⟩ : ∃ r, joF (fil 2 a) (fil 2 b) = r := ⟨_, rfl⟩
      have lF : F.length ≤ 1048576 := by rcases jo_or hF with e | e | e <;> rw [e] <;> (try simp) <;> omega
      have lS : S.length ≤ 1048576 := by rcases jo_or hS with e | e | e <;> rw [e] <;> (try simp) <;> omega
      have kj := Lib.hid (show ∀ (W : World), Sl W A1 (fil 1 a).length (fil 1 a) → Sl W A3 (fil 1 b).length (fil 1 b) → Calls Tryz.prog 33 #[.slice A1 (fil 1 a).length c1, .slice A3 (fil 1 b).length c3] W fun e w' => ∃ A c, e = .returned (.tuple #[.slice A F.length c, .bool x]) ∧ Own w' W.heap.size 40 (.slice A F.length c) F ∧ Below W.heap.size W w' from fun W h1 h2 => by have h := mgJoin_any (fil 1 a) (fil 1 b) A1 A3 _ _ c1 c3 W (by omega) (by omega) h1 h2; rw [hF] at h; exact h)
      have kk := Lib.hid (show ∀ (W : World), Sl W A2 (fil 2 a).length (fil 2 a) → Sl W A4 (fil 2 b).length (fil 2 b) → Calls Tryz.prog 33 #[.slice A2 (fil 2 a).length c2, .slice A4 (fil 2 b).length c4] W fun e w' => ∃ A c, e = .returned (.tuple #[.slice A S.length c, .bool y]) ∧ Own w' W.heap.size 40 (.slice A S.length c) S ∧ Below W.heap.size W w' from fun W h1 h2 => by have h := mgJoin_any (fil 2 a) (fil 2 b) A2 A4 _ _ c2 c4 W (by omega) (by omega) h1 h2; rw [hS] at h; exact h)
      have q := Lib.hid (mhF_at EV.out EU.out hF hS)
      clear hF hS
      go_wp2_with fail
      refine (kj.out _ ho1'.sl ho3.sl).mono ?_
      rintro e V5 ⟨A5, c5, rfl, ho5, hb5⟩
      go_wp2_with fail
      refine (kk.out _ (ho2'.below hb5).sl (ho4.below hb5).sl).mono ?_
      rintro e V6 ⟨A6, c6, rfl, ho6, hb6⟩
      have ho5' := ho5.below hb6
      have hb16 := bl_trans hb12 (bl_trans hb3 (bl_trans hb4 (bl_trans hb5 hb6)))
      clear hb1 hb2 hb3 hb4 hb5 hb6 hb12 ho1 ho2 ho3 ho4 ho1' ho2' hs hs1 hs2 ht ht1 ht2 ht3
      cases x
      · go_wp2
        go_ret2
        exact retOwn2_mk (by rw [q.out]; rfl) (Own.nil _ _ _) hb16
      · cases y
        · go_wp2
          go_ret2
          exact retOwn2_mk (by rw [q.out]; rfl) (Own.nil _ _ _) hb16
        · go_wp2_with fail
          refine (mgHistory_any F S A5 A6 _ _ c5 c6 _ lF lS ho5'.sl ho6.sl).mono ?_
          rintro e V7 ⟨A7, c7, rfl, ho7, hb7⟩
          go_wp2
          go_ret2
          exact retOwn2_mk (by rw [q.out]; rfl) (ho7.mono hb16.size) (bl_trans hb16 hb7)
end Go.Proofs.YtfglmghcgoembaaGreatDoor

namespace Go.Proofs.YtfglmghcgoembaaGreatDoor
open Go.RowKit

set_option maxHeartbeats 8000000 in
theorem specLack_any (a b : List Entry) (A B : Option Addr) (n m c d : Nat) (w : World) (hn : n ≤ 1048576) (hm : m ≤ 1048576) (hs : Sl w A n a) (ht : Sl w B m b) (hv : ∀ x, x ∈ a → x.Text.size ≤ maxLen) (hu : ∀ x, x ∈ b → x.Text.size ≤ maxLen) :
    Calls Tryz.prog 9 #[.slice A n c, .slice B m d] w (RetOwn2 w 40 (lkF a b)) := by
  have HA := Lib.hid hs.1
  have HB := Lib.hid ht.1
  obtain ⟨v, ev⟩ : ∃ v, hiB a = v := ⟨_, rfl⟩
  obtain ⟨u, eu⟩ : ∃ v, hiB b = v := ⟨_, rfl⟩
  have kg := Lib.hid (show ∀ (W : World), Sl W A n a → Calls Tryz.prog 31 #[.slice A n c] W fun e w' => e = .returned (.bool v) ∧ Below W.heap.size W w' from fun W hs => by have h := mgGood_any a A n c W hn hs hv; rw [ev] at h; exact h)
  have kh := Lib.hid (show ∀ (W : World), Sl W B m b → Calls Tryz.prog 31 #[.slice B m d] W fun e w' => e = .returned (.bool u) ∧ Below W.heap.size W w' from fun W hs => by have h := mgGood_any b B m d W hm hs hu; rw [eu] at h; exact h)
  have EV := Lib.hid ev
  have EU := Lib.hid eu
  clear ev eu hv hu
  go_enter Tryz.func9, Tryz.ntmps9
  go_wp2_with fail
  refine (kg.out _ hs).mono ?_
  rintro e V1 ⟨rfl, hb1⟩
  have hs1 := hs.below hb1
  have ht1 := ht.below hb1
  cases v
  · go_wp2
    go_ret2
    exact retOwn2_mk (lkF_no (by rw [EV.out]; rfl)) (Own.nil _ _ _) hb1
  · go_wp2_with fail
    refine (kh.out _ ht1).mono ?_
    rintro e V2 ⟨rfl, hb2⟩
    have hb12 := bl_trans hb1 hb2
    cases u
    · go_wp2
      go_ret2
      exact retOwn2_mk (lkF_no (by rw [EU.out, Bool.and_false])) (Own.nil _ _ _) hb12
    · clear kg kh hs1 ht1 hb1 hb2
      go_wp2
      go_loopw [6, 19] (fun ov iv wr => ∃ (out : List Entry) (p k : Nat) (C : Option Addr) (cc : Nat), ov = .slice C p cc ∧ iv = .int .i64 k ∧ k ≤ m ∧ p ≤ k ∧ Hid (out = lackL a (b.take k)) ∧ Own wr w.heap.size 40 (.slice C p cc) out ∧ Below w.heap.size w wr) (fun _ iv _ => m - (intOf iv).toNat)
      case atStart => exact ⟨[], 0, 0, none, 0, rfl, rfl, Nat.zero_le _, Nat.le_refl _, by rw [Hid]; rfl, Own.nil _ _ _, hb12⟩
      case round =>
        obtain ⟨out, p, k, C, cc, rfl, rfl, hk, hpk, hg, ho, hb⟩ := hrel
        by_cases hlt : k < m
        · obtain ⟨bb, ob, rfl, hbb, d0, d1, d2, d3⟩ := (ht.below hb).entry hlt
          have hs2 := hs.below hb
          clear hs ht
          have hkd : (k : Int) < m := by omega
          obtain ⟨x, hx⟩ : ∃ x, x = nth b k := ⟨_, rfl⟩
          rw [← hx] at d0 d1 d2 d3
          have HX := Lib.hid hx
          clear hx
          have hstep : Hid (lackL a (b.take (k + 1)) = out ++ if (!decide (x ∈ a)) then [x] else []) := by rw [Hid, hg.out, HX.out]; exact filter_take (p := fun e => !decide (e ∈ a)) (by rw [HB.out]; exact hlt)
          obtain ⟨v, hv⟩ : ∃ v, decide (x ∈ a) = v := ⟨_, rfl⟩
          have km := Lib.hid (show ∀ W : World, Sl W A n a → Calls Tryz.prog 38 #[.slice A n c, .agg #[.int .i64 x.Room, .int .i64 x.Number, .int .i64 x.Minute, .string x.Text]] W fun e w' => e = .returned (.bool v) ∧ Below W.heap.size W w' from fun W h1 => by have h := mgHas_any a x A n c W hn h1; rw [hv] at h; exact h)
          rw [hv] at hstep
          have HV := Lib.hid hv
          clear hv
          have hbx := bl_alloc (bl_refl wr) (.cells #[.int .i64 x.Room, .int .i64 x.Number, .int .i64 x.Minute, .string x.Text] 40)
          go_wp2_with fail
          refine (km.out _ (hs2.below hbx)).mono ?_
          rintro e V3 ⟨rfl, hb3⟩
          have x0 : V3.cell? ⟨wr.heap.size, 0, none⟩ = some (.int .i64 x.Room) := cell_later hb3 (by go_simp)
          have x1 : V3.cell? ⟨wr.heap.size, 1, none⟩ = some (.int .i64 x.Number) := cell_later hb3 (by go_simp)
          have x2 : V3.cell? ⟨wr.heap.size, 2, none⟩ = some (.int .i64 x.Minute) := cell_later hb3 (by go_simp)
          have x3 : V3.cell? ⟨wr.heap.size, 3, none⟩ = some (.string x.Text) := cell_later hb3 (by go_simp)
          have lx := World.block_lt_of_cell? _ _ x0
          have hbw := bl_trans hbx hb3
          have ho3 := ho.below hbw
          have hb4 := bl_trans hb hbw
          clear hbx hb3 hbw ho hb d0 d1 d2 d3 hs2 km
          cases v
          · have h1 : Hid (lackL a (b.take (k + 1)) = out ++ [x]) := by rw [Hid, hstep.out]; rfl
            clear hstep
            go_wp2_with ((at_builtin; refine wpList_app1 rfl (.tmp 27) (.tmp 29) _ _ rfl el_ent (x : Entry) rfl ho3 hb4 rfl (by omega) ?_; intro A2 c2 w2 ho2 hb2 hg2))
            go_roundw
            case rel => exact ⟨out ++ [x], p + 1, k + 1, A2, c2, rfl, by go_num, by omega, by omega, h1.out.symm, ho2, hb2⟩
            case measure => simp [intOf]; omega
          · have h1 : Hid (lackL a (b.take (k + 1)) = out) := by rw [Hid, hstep.out]; simp
            clear hstep
            go_wp2
            go_roundw
            case rel => exact ⟨out, p, k + 1, C, cc, rfl, by go_num, by omega, by omega, h1.out.symm, ho3, hb4⟩
            case measure => simp [intOf]; omega
        · have hni : ¬ (k : Int) < m := by omega
          have hf : Hid (out = lackL a b) := by rw [Hid, hg.out, List.take_of_length_le (by rw [HB.out]; omega)]
          go_wp2
          go_ret2
          exact retOwn2_mk (by rw [lkF_yes EV.out EU.out, hf.out]) ho hb
end Go.Proofs.YtfglmghcgoembaaGreatDoor
