/-
  Several texts in one. No conditions.
-/
import Derived.Test.YtfglmghcgoembaaGreatDoorHiN
import Derived.Test.YtfglmghcgoembaaGreatDoorHiI
import Derived.Test.YtfglmghcgoembaaGreatDoorHx21
import Derived.Shelf.SlSortCmp.NoneTotal
import Derived.Test.YtfglmghcgoembaaGreatDoorHx18
namespace Go.Proofs.YtfglmghcgoembaaGreatDoor
open Go.RowKit

theorem sortE_any (f s : List Entry) (A : Option Addr) (n c base : Nat) (w : World) (hn : n ≤ 1048576) (ho : Own w base 40 (.slice A n c) (f ++ s)) (hs : Srt (mgL f s)) :
    Calls Tryz.prog 59 #[.slice A n c, .func (.func 55) #[] #[]] w fun e w' =>
      e = .returned (.tuple #[]) ∧ Own w' base 40 (.slice A n c) (mgL f s) ∧ w.grownBy w' (Value.ownBlock (.slice A n c)) := by
  rcases ho.2 with ⟨hv, h0⟩ | ⟨g, cap, cur, hv, _⟩
  · injection hv with e1 e2 e3
    subst e1 e2 e3
    have hl := ho.sl.1
    have hm : mgL f s = [] := List.length_eq_zero_iff.1 (by rw [mgL_len, ← List.length_append]; exact hl)
    refine (Go.Proofs.AnyF.slices_SortFunc_none Tryz.laysSortE none 0 _ w).mono fun e w' ⟨he, hw⟩ => ⟨he, ?_, by subst hw; exact gb_refl _ _⟩
    subst hw
    rw [hm]; exact Own.nil _ _ _
  · injection hv with e1 _ _
    subst e1
    exact sortE_some f s g n c base w hn ho hs
set_option maxHeartbeats 4000000 in
theorem historyOf_any (f s : List Entry) (A B : Option Addr) (n m c d : Nat) (w : World) (hn : n ≤ 524288) (hm : m ≤ 524288) (hs : Sl w A n f) (ht : Sl w B m s) (hS : Srt (mgL f s)) :
    Calls Tryz.prog 30 #[.slice A n c, .slice B m d] w (RetOwn w 40 (mgL f s)) := by
  have hl1 := hs.1
  have hl2 := ht.1
  have hlen : (f ++ s).length ≤ 1048576 := by rw [List.length_append]; omega
  have HS := Lib.hid hS
  clear hS
  have hb0 := bl_alloc (bl_refl w) (.cells #[.slice A n c, .slice B m d] 24)
  have HB := Lib.hid hb0
  have HL1 := Lib.hid hl1
  have HL2 := Lib.hid hl2
  clear hl1 hl2 hb0
  go_enter Tryz.func30, Tryz.ntmps30
  go_wp2_with fail
  refine (concat_any f s A B n m c d w.heap.size _ hn hm (hs.below HB.out) (ht.below HB.out) (by go_simp) (by go_simp)).mono ?_
  rintro e V1 ⟨A1, c1, rfl, ho1, hb1⟩
  have hb2 := bl_trans HB.out hb1
  rw [List.length_append] at ho1 hlen ⊢
  obtain ⟨q, hq⟩ : ∃ q, f.length + s.length = q := ⟨_, rfl⟩
  rw [hq] at ho1 hlen ⊢
  clear hq
  go_wp2_with fail
  refine (sortE_any f s A1 _ c1 _ _ hlen ho1 HS.out).mono ?_
  rintro e V2 ⟨rfl, ho2, hg2⟩
  have hb3 : Below w.heap.size w V2 := bl_grown hb2 hg2 (fun k hk => by have := (ho1.lt k hk).1; simp only [World.size_alloc] at this; omega)
  have hl := ho2.sl.1
  go_wp2
  go_ret
  exact retOwn_mk hl (ho2.mono (by simp only [World.size_alloc]; omega)) hb3
set_option maxHeartbeats 8000000 in
theorem isHistory_any (h : List Entry) (A : Option Addr) (n c : Nat) (w : World) (hn : n ≤ 1048576) (hs : Sl w A n h) (hv : ∀ x, x ∈ h → x.Text.size ≤ maxLen) :
    Calls Tryz.prog 27 #[.slice A n c] w fun e w' => e = .returned (.bool (hiB h)) ∧ Below w.heap.size w w' := by
  have HL := Lib.hid hs.1
  have hl1 := fil_len 1 h
  have hl2 := fil_len 2 h
  rw [HL.out] at hl1 hl2
  obtain ⟨F, hF⟩ : ∃ F, fil 1 h = F := ⟨_, rfl⟩
  obtain ⟨S, hS⟩ : ∃ S, fil 2 h = S := ⟨_, rfl⟩
  have hvF : ∀ x, x ∈ F → x.Text.size ≤ maxLen := fun x hx => hv x (by rw [← hF] at hx; exact (List.mem_filter.1 hx).1)
  have hvS : ∀ x, x ∈ S → x.Text.size ≤ maxLen := fun x hx => hv x (by rw [← hS] at hx; exact (List.mem_filter.1 hx).1)
  obtain ⟨v0, e0⟩ : ∃ v, decide (F.length + S.length = n) = v := ⟨_, rfl⟩
  obtain ⟨v1, e1⟩ : ∃ v, lgB F = v := ⟨_, rfl⟩
  obtain ⟨v2, e2⟩ : ∃ v, lgB S = v := ⟨_, rfl⟩
  obtain ⟨v3, e3⟩ : ∃ v, stepB h = v := ⟨_, rfl⟩
  have q : Hid (hiB h = (v0 && v1 && v2 && v3)) := by rw [Hid, ← hiI_eq]; unfold hiI; rw [hF, hS, HL.out, e0, e1, e2, e3]
  rw [hF] at hl1
  rw [hS] at hl2
  have kF := Lib.hid (show ∀ (W : World), Sl W A n h → Calls Tryz.prog 29 #[.slice A n c, .int .i64 1] W (RetOwn W 40 F) from fun W hs => by have h := entriesOf_any h 1 A n c W hn hs; rw [hF] at h; exact h)
  have kS := Lib.hid (show ∀ (W : World), Sl W A n h → Calls Tryz.prog 29 #[.slice A n c, .int .i64 2] W (RetOwn W 40 S) from fun W hs => by have h := entriesOf_any h 2 A n c W hn hs; rw [hS] at h; exact h)
  have k1 := Lib.hid (show ∀ (W : World) (A1 : Option Addr) (c1 : Nat), Sl W A1 F.length F → Calls Tryz.prog 40 #[.slice A1 F.length c1] W fun e w' => e = .returned (.bool v1) ∧ Below W.heap.size W w' from fun W A1 c1 h1 => by have h := isLog_any F A1 _ c1 W (by omega) h1 hvF; rw [e1] at h; exact h)
  have k2 := Lib.hid (show ∀ (W : World) (A1 : Option Addr) (c1 : Nat), Sl W A1 S.length S → Calls Tryz.prog 40 #[.slice A1 S.length c1] W fun e w' => e = .returned (.bool v2) ∧ Below W.heap.size W w' from fun W A1 c1 h1 => by have h := isLog_any S A1 _ c1 W (by omega) h1 hvS; rw [e2] at h; exact h)
  have k3 := Lib.hid (show ∀ (W : World), Sl W A n h → Calls Tryz.prog 54 #[.slice A n c, .func (.func 55) #[] #[]] W fun e w' => e = .returned (.bool v3) ∧ Below W.heap.size W w' from fun W hs => by have h := isSorted_any h A n c W hn hs; rw [e3] at h; exact h)
  clear e1 e2 e3 hF hS hv hvF hvS
  have hw1 : IntKind.i64.wrap ((F.length : Int) + (S.length : Int)) = (F.length : Int) + (S.length : Int) := IntWalk.i64_in _ (by omega)
  have hd0 : ((F.length : Int) + (S.length : Int) == (n : Int)) = v0 := by rw [← e0, Bool.eq_iff_iff, beq_iff_eq, decide_eq_true_eq]; omega
  clear e0
  go_enter Tryz.func27, Tryz.ntmps27
  go_wp2_with fail
  refine (kF.out _ hs).mono ?_
  rintro e V1 ⟨A1, c1, rfl, ho1, hb1⟩
  go_wp2_with fail
  refine (kS.out _ (hs.below hb1)).mono ?_
  rintro e V2 ⟨A2, c2, rfl, ho2, hb2⟩
  have ho1' := ho1.below hb2
  have hb12 := bl_trans hb1 hb2
  have hs2 := hs.below hb12
  clear hb1 hb2 ho1 hs
  cases v0
  · go_wp2
    go_ret
    exact ⟨ret_bool (by rw [q.out]; rfl), hb12⟩
  · go_wp2_with fail
    refine (k1.out _ _ _ ho1'.sl).mono ?_
    rintro e V3 ⟨rfl, hb3⟩
    have hb13 := bl_trans hb12 hb3
    cases v1
    · go_wp2
      go_ret
      exact ⟨ret_bool (by rw [q.out]; rfl), hb13⟩
    · go_wp2_with fail
      refine (k2.out _ _ _ (ho2.below hb3).sl).mono ?_
      rintro e V4 ⟨rfl, hb4⟩
      have hb14 := bl_trans hb13 hb4
      cases v2
      · go_wp2
        go_ret
        exact ⟨ret_bool (by rw [q.out]; rfl), hb14⟩
      · go_wp2_with fail
        refine (k3.out _ ((hs2.below hb3).below hb4)).mono ?_
        rintro e V5 ⟨rfl, hb5⟩
        go_wp2
        go_ret
        exact ⟨ret_bool (by rw [q.out]; rfl), bl_trans hb14 hb5⟩
end Go.Proofs.YtfglmghcgoembaaGreatDoor

namespace Go.Proofs.YtfglmghcgoembaaGreatDoor
open Go.RowKit

set_option maxHeartbeats 4000000 in
theorem implIsHistory_any (h : List Entry) (A : Option Addr) (n c : Nat) (w : World) (hn : n ≤ 1048576) (hs : Sl w A n h) (hv : ∀ x, x ∈ h → x.Text.size ≤ maxLen) :
    Calls Tryz.prog 11 #[.slice A n c] w fun e w' => e = .returned (.bool (hiB h)) ∧ Below w.heap.size w w' := by
  have k := Lib.hid (isHistory_any h A n c w hn hs hv)
  clear hv
  go_enter Tryz.func11, Tryz.ntmps11
  go_wp2_with fail
  refine k.out.mono ?_
  rintro e V1 ⟨rfl, hb1⟩
  go_wp2
  go_ret
  exact ⟨rfl, hb1⟩
set_option maxHeartbeats 4000000 in
theorem implSplit_any (h : List Entry) (A : Option Addr) (n c : Nat) (w : World) (hn : n ≤ 1048576) (hs : Sl w A n h) (hv : ∀ x, x ∈ h → x.Text.size ≤ maxLen) :
    Calls Tryz.prog 13 #[.slice A n c] w fun e w' => ∃ A1 c1 A2 c2, e = .returned (.tuple #[.slice A1 (shF h).1.length c1, .slice A2 (shF h).2.1.length c2, .bool (shF h).2.2]) ∧ Own w' w.heap.size 40 (.slice A1 (shF h).1.length c1) (shF h).1 ∧ Own w' w.heap.size 40 (.slice A2 (shF h).2.1.length c2) (shF h).2.1 ∧ Below w.heap.size w w' := by
  obtain ⟨v, ev⟩ : ∃ v, hiB h = v := ⟨_, rfl⟩
  have kg := Lib.hid (show ∀ (W : World), Sl W A n h → Calls Tryz.prog 27 #[.slice A n c] W fun e w' => e = .returned (.bool v) ∧ Below W.heap.size W w' from fun W hs => by have h := isHistory_any h A n c W hn hs hv; rw [ev] at h; exact h)
  go_enter Tryz.func13, Tryz.ntmps13
  have EV := Lib.hid ev
  clear ev
  go_wp2_with fail
  refine (kg.out _ hs).mono ?_
  rintro e V1 ⟨rfl, hb1⟩
  have hs1 := hs.below hb1
  cases v
  · go_wp2
    go_ret3
    rw [shF_no EV.out]
    exact ⟨none, 0, none, 0, rfl, Own.nil _ _ _, Own.nil _ _ _, hb1⟩
  · go_wp2_with fail
    refine (entriesOf_any h 1 A n c _ hn hs1).mono ?_
    rintro e V2 ⟨A1, c1, rfl, ho1, hb2⟩
    go_wp2_with fail
    refine (entriesOf_any h 2 A n c _ hn (hs1.below hb2)).mono ?_
    rintro e V3 ⟨A2, c2, rfl, ho2, hb3⟩
    have hb12 := bl_trans hb1 hb2
    go_wp2
    go_ret3
    rw [shF_yes EV.out]
    exact ⟨A1, c1, A2, c2, rfl, (ho1.below hb3).mono hb1.size, ho2.mono hb12.size, bl_trans hb12 hb3⟩
set_option maxHeartbeats 8000000 in
theorem implMerge_any (a b : List Entry) (A B : Option Addr) (n m c d : Nat) (w : World) (hn : n ≤ 524288) (hm : m ≤ 524288) (hs : Sl w A n a) (ht : Sl w B m b) (hv : ∀ x, x ∈ a → x.Text.size ≤ maxLen) (hu : ∀ x, x ∈ b → x.Text.size ≤ maxLen) :
    Calls Tryz.prog 6 #[.slice A n c, .slice B m d] w (RetOwn2 w 40 (mhF a b)) := by
  have HA := Lib.hid hs.1
  have HB := Lib.hid ht.1
  obtain ⟨v, ev⟩ : ∃ v, hiB a = v := ⟨_, rfl⟩
  obtain ⟨u, eu⟩ : ∃ v, hiB b = v := ⟨_, rfl⟩
  have kg := Lib.hid (show ∀ (W : World), Sl W A n a → Calls Tryz.prog 27 #[.slice A n c] W fun e w' => e = .returned (.bool v) ∧ Below W.heap.size W w' from fun W hs => by have h := isHistory_any a A n c W (by omega) hs hv; rw [ev] at h; exact h)
  have kh := Lib.hid (show ∀ (W : World), Sl W B m b → Calls Tryz.prog 27 #[.slice B m d] W fun e w' => e = .returned (.bool u) ∧ Below W.heap.size W w' from fun W hs => by have h := isHistory_any b B m d W (by omega) hs hu; rw [eu] at h; exact h)
  have EV := Lib.hid ev
  have EU := Lib.hid eu
  clear ev eu hv hu
  go_enter Tryz.func6, Tryz.ntmps6
  go_wp2_with fail
  refine (kg.out _ hs).mono ?_
  rintro e V1 ⟨rfl, hb1⟩
  have hs1 := hs.below hb1
  have ht1 := ht.below hb1
  cases v
  · go_wp2
    go_ret2
    exact retOwn2_mk (mhF_no (by rw [EV.out]; rfl)) (Own.nil _ _ _) hb1
  · go_wp2_with fail
    refine (kh.out _ ht1).mono ?_
    rintro e V2 ⟨rfl, hb2⟩
    have hs2 := hs1.below hb2
    have ht2 := ht1.below hb2
    have hb12 := bl_trans hb1 hb2
    cases u
    · go_wp2
      go_ret2
      exact retOwn2_mk (mhF_no (by rw [EU.out, Bool.and_false])) (Own.nil _ _ _) hb12
    · have l1 := fil_len 1 a
      have l2 := fil_len 2 a
      have l3 := fil_len 1 b
      have l4 := fil_len 2 b
      rw [HA.out] at l1 l2
      rw [HB.out] at l3 l4
      obtain ⟨⟨F, x⟩, hF⟩ : ∃ r, joF (fil 1 a) (fil 1 b) = r := ⟨_, rfl⟩
      obtain ⟨⟨S, y⟩, hS⟩ : ∃ r, joF (fil 2 a) (fil 2 b) = r := ⟨_, rfl⟩
      have lF : F.length ≤ 524288 := by rcases jo_or hF with e | e | e <;> rw [e] <;> (try simp) <;> omega
      have lS : S.length ≤ 524288 := by rcases jo_or hS with e | e | e <;> rw [e] <;> (try simp) <;> omega
      have hsrt : Hid (x = true → y = true → Srt (mgL F S)) := fun h1 h2 => by subst h1 h2; have ka := hi_iff.1 EV.out; have kb := hi_iff.1 EU.out; exact (hist_of (jo_lg ka.f kb.f hF) (jo_lg ka.s2 kb.s2 hS) (jo_of fil_of fil_of hF) (jo_of fil_of fil_of hS)).1.srt
      have q := Lib.hid (mhF_at EV.out EU.out hF hS)
      have kj := Lib.hid (show ∀ (W : World) (A1 A3 : Option Addr) (c1 c3 : Nat), (fil 1 a).length ≤ c1 → (fil 1 b).length ≤ c3 → Sl W A1 (fil 1 a).length (fil 1 a) → Sl W A3 (fil 1 b).length (fil 1 b) → Calls Tryz.prog 28 #[.slice A1 (fil 1 a).length c1, .slice A3 (fil 1 b).length c3] W fun e w' => ∃ A c, e = .returned (.tuple #[.slice A F.length c, .bool x]) ∧ Own w' W.heap.size 40 (.slice A F.length c) F ∧ Below W.heap.size W w' from fun W A1 A3 c1 c3 g1 g3 h1 h2 => by have h := joinCopies_any (fil 1 a) (fil 1 b) A1 A3 _ _ c1 c3 W (by omega) (by omega) g1 g3 h1 h2; rw [hF] at h; exact h)
      have kk := Lib.hid (show ∀ (W : World) (A1 A3 : Option Addr) (c1 c3 : Nat), (fil 2 a).length ≤ c1 → (fil 2 b).length ≤ c3 → Sl W A1 (fil 2 a).length (fil 2 a) → Sl W A3 (fil 2 b).length (fil 2 b) → Calls Tryz.prog 28 #[.slice A1 (fil 2 a).length c1, .slice A3 (fil 2 b).length c3] W fun e w' => ∃ A c, e = .returned (.tuple #[.slice A S.length c, .bool y]) ∧ Own w' W.heap.size 40 (.slice A S.length c) S ∧ Below W.heap.size W w' from fun W A1 A3 c1 c3 g1 g3 h1 h2 => by have h := joinCopies_any (fil 2 a) (fil 2 b) A1 A3 _ _ c1 c3 W (by omega) (by omega) g1 g3 h1 h2; rw [hS] at h; exact h)
      clear hF hS
      go_wp2_with fail
      refine (entriesOf_any a 1 A n c _ (by omega) hs2).mono ?_
      rintro e V3 ⟨A3, c3, rfl, ho3, hb3⟩
      have hs3 := hs2.below hb3
      have ht3 := ht2.below hb3
      go_wp2_with fail
      refine (entriesOf_any b 1 B m d _ (by omega) ht3).mono ?_
      rintro e V4 ⟨A4, c4, rfl, ho4, hb4⟩
      have hs4 := hs3.below hb4
      have ht4 := ht3.below hb4
      have ho3' := ho3.below hb4
      go_wp2_with fail
      refine (kj.out _ _ _ _ _ ho3'.cap.1 ho4.cap.1 ho3'.sl ho4.sl).mono ?_
      rintro e V5 ⟨A5, c5, rfl, ho5, hb5⟩
      have hs5 := hs4.below hb5
      have ht5 := ht4.below hb5
      have hb15 := bl_trans hb12 (bl_trans hb3 (bl_trans hb4 hb5))
      clear ho3 ho3' ho4 hs hs1 hs2 hs3 hs4 ht ht1 ht2 ht3 ht4 hb1 hb2 hb3 hb4 hb5 hb12
      go_wp2_with fail
      refine (entriesOf_any a 2 A n c _ (by omega) hs5).mono ?_
      rintro e V6 ⟨A6, c6, rfl, ho6, hb6⟩
      have ht6 := ht5.below hb6
      go_wp2_with fail
      refine (entriesOf_any b 2 B m d _ (by omega) ht6).mono ?_
      rintro e V7 ⟨A7, c7, rfl, ho7, hb7⟩
      have ho6' := ho6.below hb7
      go_wp2_with fail
      refine (kk.out _ _ _ _ _ ho6'.cap.1 ho7.cap.1 ho6'.sl ho7.sl).mono ?_
      rintro e V8 ⟨A8, c8, rfl, ho8, hb8⟩
      have hb58 := bl_trans hb6 (bl_trans hb7 hb8)
      have ho5' := ho5.below hb58
      have hb18 := bl_trans hb15 hb58
      clear ho6 ho6' ho7 hb6 hb7 hb8 hb58 hs5 ht5 ht6 ho5
      cases x
      · go_wp2
        go_ret2
        exact retOwn2_mk (by rw [q.out]; rfl) (Own.nil _ _ _) hb18
      · cases y
        · go_wp2
          go_ret2
          exact retOwn2_mk (by rw [q.out]; rfl) (Own.nil _ _ _) hb18
        · go_wp2_with fail
          refine (historyOf_any F S A5 A8 _ _ c5 c8 _ lF lS ho5'.sl ho8.sl (by first | exact hsrt.out trivial trivial | exact hsrt.out rfl trivial | exact hsrt.out trivial rfl | exact hsrt.out)).mono ?_
          rintro e V9 ⟨A9, c9, rfl, ho9, hb9⟩
          go_wp2
          go_ret2
          exact retOwn2_mk (by rw [q.out]; rfl) (ho9.mono hb18.size) (bl_trans hb18 hb9)
end Go.Proofs.YtfglmghcgoembaaGreatDoor
