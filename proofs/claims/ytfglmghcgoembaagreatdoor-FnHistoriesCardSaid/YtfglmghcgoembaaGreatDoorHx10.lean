/-
  Several texts in one. No conditions.
-/
import Derived.Test.YtfglmghcgoembaaGreatDoorHiL
import Derived.Test.YtfglmghcgoembaaGreatDoorMem7
namespace Go.Proofs.YtfglmghcgoembaaGreatDoor
open Go.RowKit

set_option maxHeartbeats 4000000 in
theorem mgTwo_any (a b : List Entry) (A B : Option Addr) (n m c d : Nat) (w : World) (hn : n ≤ 1048576) (hm : m ≤ 1048576) (hs : Sl w A n a) (ht : Sl w B m b) (hv : ∀ x, x ∈ a → x.Text.size ≤ maxLen) (hu : ∀ x, x ∈ b → x.Text.size ≤ maxLen) :
    Calls Tryz.prog 60 #[.slice A n c, .slice B m d] w fun e w' => e = .returned (.bool (lgB a && lgB b)) ∧ Below w.heap.size w w' := by
  obtain ⟨b1, e1⟩ : ∃ v, lgB a = v := ⟨_, rfl⟩
  obtain ⟨b2, e2⟩ : ∃ v, lgB b = v := ⟨_, rfl⟩
  have q : Hid ((lgB a && lgB b) = (b1 && b2)) := by rw [Hid, e1, e2]
  have k1 := Lib.hid (show ∀ (W : World), Sl W A n a → Calls Tryz.prog 52 #[.slice A n c] W fun e w' => e = .returned (.bool b1) ∧ Below W.heap.size W w' from fun W hs => by have h := lgGood_any a A n c W hn hs hv; rw [e1] at h; exact h)
  have k2 := Lib.hid (show ∀ (W : World), Sl W B m b → Calls Tryz.prog 52 #[.slice B m d] W fun e w' => e = .returned (.bool b2) ∧ Below W.heap.size W w' from fun W hs => by have h := lgGood_any b B m d W hm hs hu; rw [e2] at h; exact h)
  clear e1 e2
  go_enter Tryz.func60, Tryz.ntmps60
  go_wp2_with fail
  refine (k1.out _ hs).mono ?_
  rintro e V1 ⟨rfl, hb1⟩
  cases b1
  · go_wp2
    go_ret
    exact ⟨ret_bool (by rw [q.out]; rfl), hb1⟩
  · go_wp2_with fail
    refine (k2.out _ (ht.below hb1)).mono ?_
    rintro e V2 ⟨rfl, hb2⟩
    go_wp2
    go_ret
    exact ⟨ret_bool (by rw [q.out]; rfl), bl_trans hb1 hb2⟩
set_option maxHeartbeats 4000000 in
theorem mgOf_any (l : List Entry) (r : Int) (A : Option Addr) (n c : Nat) (w : World) (hn : n ≤ 1048576) (hs : Sl w A n l) :
    Calls Tryz.prog 61 #[.slice A n c, .int .i64 r] w fun e w' => e = .returned (.bool (ofB l r)) ∧ w' = w := by
  have HL := Lib.hid hs.1
  by_cases h0 : n = 0
  · have q : Hid (ofB l r = true) := by rw [Hid]; unfold ofB; rw [HL.out, h0]; rfl
    subst h0
    go_enter Tryz.func61, Tryz.ntmps61
    go_wp2
    go_ret
    exact ⟨ret_bool q.out.symm, rfl⟩
  · obtain ⟨b, o, rfl, hbz, c0, c1, c2, c3⟩ := hs.entry (k := 0) (by omega)
    have z0 : w.cell? ⟨b, o, none⟩ = some (.int .i64 (nth l 0).Room) := by simpa using c0
    clear c0 c1 c2 c3
    obtain ⟨z, hz⟩ : ∃ z, nth l 0 = z := ⟨_, rfl⟩
    have q : Hid (ofB l r = decide (z.Room = r)) := by rw [Hid]; unfold ofB; rw [HL.out, hz, decide_eq_false h0]; rfl
    rw [hz] at z0
    clear hz hs
    have hd : decide ((n : Int) = 0) = false := decide_eq_false (by omega)
    have hd2 : ((n : Int) == 0) = false := by simpa using h0
    have h1 : (0 : Int) < n := by omega
    have h1' : 0 < n := by omega
    by_cases hr : z.Room = r
    · have e1 : (z.Room == r) = true := by simpa using hr
      have q2 : Hid (ofB l r = true) := by rw [Hid, q.out]; simpa using hr
      clear hr
      go_enter Tryz.func61, Tryz.ntmps61
      go_wp2
      go_ret
      exact ⟨ret_bool q2.out.symm, rfl⟩
    · have e1 : (z.Room == r) = false := by simpa using hr
      have q2 : Hid (ofB l r = false) := by rw [Hid, q.out]; simpa using hr
      clear hr
      go_enter Tryz.func61, Tryz.ntmps61
      go_wp2
      go_ret
      exact ⟨ret_bool q2.out.symm, rfl⟩
set_option maxHeartbeats 4000000 in
theorem mgBefore_any (x y : Entry) (w : World) :
    Calls Tryz.prog 51 #[.agg #[.int .i64 x.Room, .int .i64 x.Number, .int .i64 x.Minute, .string x.Text], .agg #[.int .i64 y.Room, .int .i64 y.Number, .int .i64 y.Minute, .string y.Text]] w fun e w' => e = .returned (.bool (befB x y)) ∧ Below w.heap.size w w' := by
  by_cases h1 : x.Minute = y.Minute
  · have e1 : (x.Minute != y.Minute) = false := by simpa using h1
    by_cases h2 : x.Room = y.Room
    · have e2 : (x.Room != y.Room) = false := by simpa using h2
      by_cases h3 : x.Number < y.Number
      · have q : Hid (befB x y = true) := by rw [Hid]; unfold befB; simp; omega
        have d1 : decide (x.Number < y.Number) = true := decide_eq_true h3
        clear h1 h2 h3
        go_enter Tryz.func51, Tryz.ntmps51
        go_wp2
        go_ret
        exact ⟨ret_bool q.out.symm, by repeat' (first | exact bl_refl _ | refine bl_alloc ?_ _)⟩
      · have q : Hid (befB x y = false) := by rw [Hid]; unfold befB; simp; omega
        have d1 : decide (x.Number < y.Number) = false := decide_eq_false h3
        clear h1 h2 h3
        go_enter Tryz.func51, Tryz.ntmps51
        go_wp2
        go_ret
        exact ⟨ret_bool q.out.symm, by repeat' (first | exact bl_refl _ | refine bl_alloc ?_ _)⟩
    · have e2 : (x.Room != y.Room) = true := by simpa using h2
      by_cases h3 : x.Room < y.Room
      · have q : Hid (befB x y = true) := by rw [Hid]; unfold befB; simp; omega
        have d1 : decide (x.Room < y.Room) = true := decide_eq_true h3
        clear h1 h2 h3
        go_enter Tryz.func51, Tryz.ntmps51
        go_wp2
        go_ret
        exact ⟨ret_bool q.out.symm, by repeat' (first | exact bl_refl _ | refine bl_alloc ?_ _)⟩
      · have q : Hid (befB x y = false) := by rw [Hid]; unfold befB; simp; omega
        have d1 : decide (x.Room < y.Room) = false := decide_eq_false h3
        clear h1 h2 h3
        go_enter Tryz.func51, Tryz.ntmps51
        go_wp2
        go_ret
        exact ⟨ret_bool q.out.symm, by repeat' (first | exact bl_refl _ | refine bl_alloc ?_ _)⟩
  · have e1 : (x.Minute != y.Minute) = true := by simpa using h1
    by_cases h3 : x.Minute < y.Minute
    · have q : Hid (befB x y = true) := by rw [Hid]; unfold befB; simp; omega
      have d1 : decide (x.Minute < y.Minute) = true := decide_eq_true h3
      clear h1 h3
      go_enter Tryz.func51, Tryz.ntmps51
      go_wp2
      go_ret
      exact ⟨ret_bool q.out.symm, by repeat' (first | exact bl_refl _ | refine bl_alloc ?_ _)⟩
    · have q : Hid (befB x y = false) := by rw [Hid]; unfold befB; simp; omega
      have d1 : decide (x.Minute < y.Minute) = false := decide_eq_false h3
      clear h1 h3
      go_enter Tryz.func51, Tryz.ntmps51
      go_wp2
      go_ret
      exact ⟨ret_bool q.out.symm, by repeat' (first | exact bl_refl _ | refine bl_alloc ?_ _)⟩
end Go.Proofs.YtfglmghcgoembaaGreatDoor

namespace Go.Proofs.YtfglmghcgoembaaGreatDoor
open Go.RowKit

theorem el_ent : Elem Tryz.prog 24 40 (Flat.sz Entry) := elem_mk Tryz.underlying24 (by kernel_rfl)
set_option maxHeartbeats 8000000 in
theorem mgHistory_any (f s : List Entry) (A B : Option Addr) (n m c d : Nat) (w : World) (hn : n ≤ 1048576) (hm : m ≤ 1048576) (hs : Sl w A n f) (ht : Sl w B m s) :
    Calls Tryz.prog 25 #[.slice A n c, .slice B m d] w (RetOwn w 40 (mgL f s)) := by
  have HF := Lib.hid hs.1
  have HS := Lib.hid ht.1
  go_enter Tryz.func25, Tryz.ntmps25
  go_wp2
  go_loopw [5, 6, 7] (fun ov iv kv wr => ∃ (out : List Entry) (q i k : Nat) (C : Option Addr) (cc : Nat), ov = .slice C q cc ∧ Hid (out.length = q) ∧ q = i + k ∧ iv = .int .i64 i ∧ kv = .int .i64 k ∧ i ≤ n ∧ k ≤ m ∧ Own wr w.heap.size 40 (.slice C q cc) out ∧ Below w.heap.size w wr ∧ Hid (out ++ mgL (f.drop i) (s.drop k) = mgL f s)) (fun _ iv kv _ => (n + m) - ((intOf iv).toNat + (intOf kv).toNat))
  case atStart => exact ⟨[], 0, 0, 0, none, 0, rfl, rfl, rfl, rfl, rfl, Nat.zero_le _, Nat.zero_le _, Own.nil _ _ _, bl_refl _, by rw [Hid]; simp⟩
  case round =>
    obtain ⟨out, q, i, k, C, cc, rfl, hol, hq, rfl, rfl, hi, hk, ho, hb, hg⟩ := hrel
    have HQ := Lib.hid hq
    have hqz : q ≤ 2097152 := by omega
    clear hq
    have hsr := hs.below hb
    have htr := ht.below hb
    clear hs ht
    have hwi : IntKind.i64.wrap ((i : Int) + 1) = (i : Int) + 1 := IntWalk.i64_in _ (by omega)
    have hwk : IntKind.i64.wrap ((k : Int) + 1) = (k : Int) + 1 := IntWalk.i64_in _ (by omega)
    by_cases hif : i < n
    · have d1 : decide (i < n) = true := decide_eq_true hif
      have d1' : (i : Int) < n := by omega
      obtain ⟨bf, of_, rfl, hbf, c0, c1, c2, c3⟩ := hsr.entry hif
      by_cases hks : k < m
      · have d2 : decide (k < m) = true := decide_eq_true hks
        have d2' : (k : Int) < m := by omega
        have d3 : ((k : Int) == (m : Int)) = false := by simp; omega
        have d3' : decide (k = m) = false := decide_eq_false (by omega)
        obtain ⟨bs, os_, rfl, hbs, e0, e1, e2, e3⟩ := htr.entry hks
        obtain ⟨v, hv⟩ : ∃ v, befB (nth f i) (nth s k) = v := ⟨_, rfl⟩
        have kb := Lib.hid (show ∀ W : World, Calls Tryz.prog 51 #[.agg #[.int .i64 (nth f i).Room, .int .i64 (nth f i).Number, .int .i64 (nth f i).Minute, .string (nth f i).Text], .agg #[.int .i64 (nth s k).Room, .int .i64 (nth s k).Number, .int .i64 (nth s k).Minute, .string (nth s k).Text]] W fun e w' => e = .returned (.bool v) ∧ Below W.heap.size W w' from fun W => by have h := mgBefore_any (nth f i) (nth s k) W; rw [hv] at h; exact h)
        have HVV := Lib.hid hv
        clear hv
        cases v
        · go_wp2_with fail
          refine wp_region_grow (by kernel_rfl) (by kernel_rfl) (fun X hX => ?_)
          have hbX : Below wr.heap.size wr X := by rw [hX]; exact bl_refl _
          have q0 := Gw.cell (cell_later hbX c0)
          have q1 := Gw.cell (cell_later hbX c1)
          have q2 := Gw.cell (cell_later hbX c2)
          have q3 := Gw.cell (cell_later hbX c3)
          have q4 := Gw.cell (cell_later hbX e0)
          have q5 := Gw.cell (cell_later hbX e1)
          have q6 := Gw.cell (cell_later hbX e2)
          have q7 := Gw.cell (cell_later hbX e3)
          have HX := Lib.hid hX
          clear hX
          repeat (go_big_quiet_step ((go_at_call 51; exact Calls.grow_of (kb.out _))))
          refine wpGrow_nil (fun V hV => ?_)
          have hbV := bl_trans hbX hV
          replace c0 := cell_later hbV c0
          replace c1 := cell_later hbV c1
          replace c2 := cell_later hbV c2
          replace c3 := cell_later hbV c3
          replace e0 := cell_later hbV e0
          replace e1 := cell_later hbV e1
          replace e2 := cell_later hbV e2
          replace e3 := cell_later hbV e3
          have hoV := ho.below hbV
          have hbW := bl_trans hb hbV
          clear hV hbX HX hbV ho q0 q1 q2 q3 q4 q5 q6 q7
          go_wp2_with ((at_builtin; refine wpList_app1 rfl (.tmp 48) (.tmp 53) _ _ rfl el_ent (nth s k) rfl hoV hbW rfl (by omega) ?_; intro A2 c2_ w2 ho2 hb2 hg2))
          go_roundw
          case rel => exact ⟨out ++ [nth s k], q + 1, i, k + 1, A2, c2_, rfl, by rw [Hid, List.length_append, hol.out]; rfl, by have := HQ.out; omega, by go_num, by go_num, by omega, by omega, ho2, hb2, by rw [Hid, ← hg.out, mg_stepS (i := i) (k := k) (by rw [HS.out]; exact hks) (by rw [HF.out]; exact .inr ⟨hif, HVV.out⟩), List.append_assoc]; rfl⟩
          case measure => simp [intOf]; omega
        · go_wp2_with fail
          refine wp_region_grow (by kernel_rfl) (by kernel_rfl) (fun X hX => ?_)
          have hbX : Below wr.heap.size wr X := by rw [hX]; exact bl_refl _
          have q0 := Gw.cell (cell_later hbX c0)
          have q1 := Gw.cell (cell_later hbX c1)
          have q2 := Gw.cell (cell_later hbX c2)
          have q3 := Gw.cell (cell_later hbX c3)
          have q4 := Gw.cell (cell_later hbX e0)
          have q5 := Gw.cell (cell_later hbX e1)
          have q6 := Gw.cell (cell_later hbX e2)
          have q7 := Gw.cell (cell_later hbX e3)
          have HX := Lib.hid hX
          clear hX
          repeat (go_big_quiet_step ((go_at_call 51; exact Calls.grow_of (kb.out _))))
          refine wpGrow_nil (fun V hV => ?_)
          have hbV := bl_trans hbX hV
          replace c0 := cell_later hbV c0
          replace c1 := cell_later hbV c1
          replace c2 := cell_later hbV c2
          replace c3 := cell_later hbV c3
          replace e0 := cell_later hbV e0
          replace e1 := cell_later hbV e1
          replace e2 := cell_later hbV e2
          replace e3 := cell_later hbV e3
          have hoV := ho.below hbV
          have hbW := bl_trans hb hbV
          clear hV hbX HX hbV ho q0 q1 q2 q3 q4 q5 q6 q7
          go_wp2_with ((at_builtin; refine wpList_app1 rfl (.tmp 39) (.tmp 44) _ _ rfl el_ent (nth f i) rfl hoV hbW rfl (by omega) ?_; intro A2 c2_ w2 ho2 hb2 hg2))
          go_roundw
          case rel => exact ⟨out ++ [nth f i], q + 1, i + 1, k, A2, c2_, rfl, by rw [Hid, List.length_append, hol.out]; rfl, by have := HQ.out; omega, by go_num, by go_num, by omega, by omega, ho2, hb2, by rw [Hid, ← hg.out, mg_stepF (i := i) (k := k) (by rw [HF.out]; exact hif) (by rw [HS.out]; exact .inr ⟨hks, HVV.out⟩), List.append_assoc]; rfl⟩
          case measure => simp [intOf]; omega
      · have d2 : decide (k < m) = false := decide_eq_false hks
        have d2' : ¬ (k : Int) < m := by omega
        have d3 : ((k : Int) == (m : Int)) = true := by simp; omega
        have d3' : decide (k = m) = true := decide_eq_true (by omega)
        go_wp2_with fail
        refine wp_region_grow (by kernel_rfl) (by kernel_rfl) (fun X hX => ?_)
        have hbX : Below wr.heap.size wr X := by rw [hX]; exact bl_refl _
        have HX := Lib.hid hX
        clear hX
        repeat (go_big_quiet_step (fail))
        refine wpGrow_nil (fun V hV => ?_)
        have hbV := bl_trans hbX hV
        replace c0 := cell_later hbV c0
        replace c1 := cell_later hbV c1
        replace c2 := cell_later hbV c2
        replace c3 := cell_later hbV c3
        have hoV := ho.below hbV
        have hbW := bl_trans hb hbV
        clear hV hbX HX hbV ho
        go_wp2_with ((at_builtin; refine wpList_app1 rfl (.tmp 39) (.tmp 44) _ _ rfl el_ent (nth f i) rfl hoV hbW rfl (by omega) ?_; intro A2 c2_ w2 ho2 hb2 hg2))
        go_roundw
        case rel => exact ⟨out ++ [nth f i], q + 1, i + 1, k, A2, c2_, rfl, by rw [Hid, List.length_append, hol.out]; rfl, by have := HQ.out; omega, by go_num, by go_num, by omega, by omega, ho2, hb2, by rw [Hid, ← hg.out, mg_stepF (i := i) (k := k) (by rw [HF.out]; exact hif) (by rw [HS.out]; exact .inl hks), List.append_assoc]; rfl⟩
        case measure => simp [intOf]; omega
    · have d1 : decide (i < n) = false := decide_eq_false hif
      have d1' : ¬ (i : Int) < n := by omega
      by_cases hks : k < m
      · have d2 : decide (k < m) = true := decide_eq_true hks
        have d2' : (k : Int) < m := by omega
        have d3 : ((k : Int) == (m : Int)) = false := by simp; omega
        have d3' : decide (k = m) = false := decide_eq_false (by omega)
        obtain ⟨bs, os_, rfl, hbs, e0, e1, e2, e3⟩ := htr.entry hks
        go_wp2_with fail
        refine wp_region_grow (by kernel_rfl) (by kernel_rfl) (fun X hX => ?_)
        have hbX : Below wr.heap.size wr X := by rw [hX]; exact bl_refl _
        have HX := Lib.hid hX
        clear hX
        repeat (go_big_quiet_step (fail))
        refine wpGrow_nil (fun V hV => ?_)
        have hbV := bl_trans hbX hV
        replace e0 := cell_later hbV e0
        replace e1 := cell_later hbV e1
        replace e2 := cell_later hbV e2
        replace e3 := cell_later hbV e3
        have hoV := ho.below hbV
        have hbW := bl_trans hb hbV
        clear hV hbX HX hbV ho
        go_wp2_with ((at_builtin; refine wpList_app1 rfl (.tmp 48) (.tmp 53) _ _ rfl el_ent (nth s k) rfl hoV hbW rfl (by omega) ?_; intro A2 c2_ w2 ho2 hb2 hg2))
        go_roundw
        case rel => exact ⟨out ++ [nth s k], q + 1, i, k + 1, A2, c2_, rfl, by rw [Hid, List.length_append, hol.out]; rfl, by have := HQ.out; omega, by go_num, by go_num, by omega, by omega, ho2, hb2, by rw [Hid, ← hg.out, mg_stepS (i := i) (k := k) (by rw [HS.out]; exact hks) (by rw [HF.out]; exact .inl hif), List.append_assoc]; rfl⟩
        case measure => simp [intOf]; omega
      · have d2 : decide (k < m) = false := decide_eq_false hks
        have d2' : ¬ (k : Int) < m := by omega
        have d3 : ((k : Int) == (m : Int)) = true := by simp; omega
        have d3' : decide (k = m) = true := decide_eq_true (by omega)
        have hfin : Hid (out = mgL f s) := by rw [Hid, ← hg.out, mg_end (by rw [HF.out]; exact hif) (by rw [HS.out]; exact hks), List.append_nil]
        go_wp2
        go_ret
        rw [← hfin.out]
        exact retOwn_mk hol.out ho hb
end Go.Proofs.YtfglmghcgoembaaGreatDoor
