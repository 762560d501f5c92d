/-
  The reference's known states. No conditions.
-/
import Derived.Test.YtjnplafphocmiaaDoorLibSB
import Derived.Test.YtjnplafphocmiaaDoorMem8
namespace Go.Proofs.YtjnplafphocmiaaDoor
open Go.RowKit

/-- As step_appN; all that has turned lies from the first world on. -/
theorem step_appB {α : Type} [Flat α] {P : Program} {ops : Array Oper} {o : Oper} {a : Act} {w : World} {K : Act → World → Prop} {Q : Exit → Act → World → Prop} {E : Prop} (hgd : o.guard = none) (s x : Operand) (t e : TypeId)
    (ho : o.op = .call { callee := .builtin .append, args := #[s, x], argTypes := #[t, t] }) (he : Elem P t e (Flat.sz α)) {w0 : World} {A B : Option Addr} {n c m d : Nat} {xs ys : List α} (hs : a.eval s = .slice A n c) (hx : a.eval x = .slice B m d)
    (hown : Own w w0.heap.size e (.slice A n c) xs) (hb : Below w0.heap.size w0 w) (hy : Sl w B m ys) (hlim : n + m ≤ 274877906944)
    (h : ∀ A' c' w', Own w' w0.heap.size e (.slice A' (n + m) c') (xs ++ ys) → Below w0.heap.size w0 w' → w.grownBy w' (Value.ownBlock (.slice A n c)) → K (a.put o.dst (.slice A' (n + m) c')) w') :
    if Region.wanted o (yielded ops a.tmps) = true then Oper.wp P o a w K Q else E :=
  step_appN hgd s x t e ho he hs hx hown hb.size hy hlim fun A' c' w' h1 h2 => h A' c' w' h1 (bl_grown hb h2 (fun k hk => (hown.lt k hk).1)) h2
theorem wp_hide {P : Program} {c : Code} {Q : Exit → Act → World → Prop} {a : Act} {w : World} {R : World → Prop} (hR : R w) (h : ∀ V, R V → c.wp P Q a V) : c.wp P Q a w := h w hR
theorem sl_state1 {w : World} {b o : Nat} {s : State} (h0 : w.cell? ⟨b, o, none⟩ = some (.string s.Name)) (h1 : w.cell? ⟨b, o + 1, none⟩ = some (.int .i64 s.Value)) : Sl w (some ⟨b, o, none⟩) 1 [s] :=
  ⟨rfl, fun k x hx => by
    have hk : k = 0 := by have := (List.getElem?_eq_some_iff.1 hx).1; simpa using this
    subst hk
    have hx' : s = x := by simpa using hx
    subst hx'
    refine ⟨b, o, [.string s.Name, .int .i64 s.Value], rfl, rfl, fun j v hv => ?_⟩
    have hj : j < 2 := by have := (List.getElem?_eq_some_iff.1 hv).1; simpa using this
    match j, hj, hv with
    | 0, _, hv => have hv' : Value.string s.Name = v := by simpa using hv
                  subst hv'; simpa using h0
    | 1, _, hv => have hv' : Value.int .i64 s.Value = v := by simpa using hv
                  subst hv'; simpa using h1⟩
set_option maxRecDepth 100000 in
set_option maxHeartbeats 8000000 in
theorem jnKnown_any (l : List State) (A : Option Addr) (n c : Nat) (w : World) (hn : n ≤ 1048576) (hs : Sl w A n l) :
    Calls Tryd.prog 61 #[.slice A n c] w (RetOwn w 27 (knownL l)) := by
  have HL := Lib.hid hs.1
  go_enter Tryd.func61, Tryd.ntmps61
  go_wp2
  go_loopw [3, 10] (fun v iv wr => ∃ (i q c' : Nat) (A' : Option Addr), i ≤ n ∧ iv = .int .i64 i ∧ v = .slice A' q c' ∧ q ≤ i ∧ Own wr w.heap.size 27 (.slice A' q c') (knownL (l.take i)) ∧ Below w.heap.size w wr) (fun _ iv _ => n - (intOf iv).toNat)
  case atStart => exact ⟨0, 0, 0, none, Nat.zero_le _, rfl, rfl, Nat.le_refl _, Own.nil _ _ _, bl_refl _⟩
  case round =>
    obtain ⟨i, q, c', A', hin, rfl, rfl, hq, ho, hb⟩ := hrel
    by_cases hlt : i < n
    · obtain ⟨b, o, rfl, hbz, c0, c1⟩ := (hs.below hb).state hlt
      clear hs
      have hnx := known_next (l := l) (k := i) (by rw [HL.out]; exact hlt)
      obtain ⟨M, hM⟩ : ∃ M, M = knownL (l.take i) := ⟨_, rfl⟩
      obtain ⟨y, hy⟩ : ∃ y, y = nth l i := ⟨_, rfl⟩
      rw [← hM] at ho hnx
      rw [← hy] at c0 c1 hnx
      have HN := Lib.hid hnx
      clear hM hy hnx
      have HM := Lib.hid ho.sl.1
      obtain ⟨hqc, hcm⟩ := ho.cap
      unfold maxLen at hcm
      obtain ⟨wo, hwo⟩ : ∃ W, W = wr := ⟨_, rfl⟩
      subst hwo
      go_wp2
      go_loopw [6] (fun jv wr => ∃ j : Nat, j ≤ q ∧ jv = .int .i64 j ∧ Below wo.heap.size wo wr ∧ wr.cell? ⟨wo.heap.size, 0, none⟩ = some (.string y.Name) ∧ wr.cell? ⟨wo.heap.size, 1, none⟩ = some (.int .i64 y.Value) ∧ Hid (∀ p, p < j → stLess (nth M p) y = true)) (fun jv _ => q - (intOf jv).toNat)
      case atStart => exact ⟨0, Nat.zero_le _, rfl, bl_alloc (bl_refl _) _, by go_simp, by go_simp, fun p hp => absurd hp (by omega)⟩
      case round =>
        obtain ⟨j, hj, rfl, hb2, y0, y1, hg⟩ := hrel
        have hjc : (j : Int) ≤ c' := by omega
        have hjq : (j : Int) ≤ q := by omega
        have hj0 : (0 : Int) ≤ j := by omega
        have hst : Hid (Sl wr A' j (M.take j)) := (ho.sl.below hb2).take hj
        have hsl : Hid (Sl wr A' q M) := ho.sl.below hb2
        have hk0 := bl_trans hb hb2
        clear c0 c1
        by_cases hlq : j < q
        · obtain ⟨b2, o2, rfl, _, d0, d1⟩ := (ho.sl.below hb2).state hlq
          have hck : ¬ c' = j := by omega
          have hqj : 0 < q - j := by omega
          have hqd : decide (0 < q - j) = true := decide_eq_true hqj
          clear ho
          cases hle : stLess (nth M j) y
          · have hle' : Op.bytesLess (nth M j).Name.toList y.Name.toList = false := hle
            have HLE := Lib.hid hle
            clear hle
            go_wp2_with fail
            refine wp_region_grow (by kernel_rfl) (by kernel_rfl) (fun X hX => ?_)
            have hbX : Below wr.heap.size wr X := by rw [hX]; exact bl_refl _
            have q0 := Gw.cell (cell_later hbX y0)
            have q1 := Gw.cell (cell_later hbX y1)
            have q2 := Gw.cell (cell_later hbX d0)
            have HX := Lib.hid hX
            clear hX
            repeat (go_big_quiet_step (fail))
            refine wpGrow_nil (fun V6 hV => ?_)
            have hbV6 := bl_trans hbX hV
            have y0 := cell_later hbV6 y0
            have y1 := cell_later hbV6 y1
            have d0 := cell_later hbV6 d0
            clear hV hbX HX q0 q1 q2
            go_upto_region 9 with fail
            cases hsm : sameN (nth M j) y
            · have hsm' : ((nth M j).Name.toList == y.Name.toList) = false := hsm
              have HY : Hid (knownL (l.take (i + 1)) = M.take j ++ [y] ++ M.drop j) := by rw [Hid, HN.out]; exact upd_new HM.out hj hg.out (fun _ => HLE.out) (fun _ => hsm)
              clear hsm
              refine wp_region_grow (by kernel_rfl) (by kernel_rfl) (fun X hX => ?_)
              have hbX : Below V6.heap.size V6 X := by rw [hX]; exact bl_refl _
              have q0 := Gw.cell (cell_later hbX y0)
              have q1 := Gw.cell (cell_later hbX y1)
              have q2 := Gw.cell (cell_later hbX d0)
              have HX := Lib.hid hX
              clear hX
              repeat (go_big_quiet_step (fail))
              refine wpGrow_nil (fun V9 hV => ?_)
              have hbV9 := bl_trans hbX hV
              have y0 := cell_later hbV9 y0
              have y1 := cell_later hbV9 y1
              have d0 := cell_later hbV9 d0
              clear hV hbX HX q0 q1 q2
              have hB9 := bl_trans hbV6 hbV9
              have hsd := Lib.hid ((hsl.out.drop (m := j)).below hB9)
              clear hsl d0
              have hst := Lib.hid (hst.out.below hB9)
              have hk := bl_trans hk0 hB9
              obtain ⟨V, hVV⟩ : ∃ W, W = V9 := ⟨_, rfl⟩
              subst hVV
              go_upto_region 11 with fail
              have e0 := y0
              have e1 := y1
              go_region_held3 (fun w' => w'.cell? ⟨wo.heap.size, 0, none⟩ = some (.string y.Name) ∧ w'.cell? ⟨wo.heap.size, 1, none⟩ = some (.int .i64 y.Value)) (refine ⟨cell_later (?_ : Below V.heap.size V _) e0, cell_later (?_ : Below V.heap.size V _) e1⟩ <;> (repeat' (first | assumption | exact bl_refl _ | refine bl_alloc ?_ _ | refine bl_drew ?_)))
                (first
                  | (refine step_appB rfl (.tmp 47) (.tmp 50) _ _ rfl el_state (xs := ([] : List State)) (ys := M.take j) (w0 := V) rfl rfl ?_ ?_ ?_ (by omega) ?_; (first | (focus (refine Own.below (w := V.alloc (.cells #[] 27)) (Own.built V _ (Nat.le_refl _)) ?_; (repeat' (first | assumption | exact bl_refl _ | refine bl_alloc ?_ _ | refine bl_drew ?_)); done)) | (focus (refine Own.below (w := (V.alloc (.cells #[.string y.Name, .int .i64 y.Value] 27)).alloc (.cells #[] 27)) ?_ ?_; (focus (have hbu := Own.built (α := State) (V.alloc (.cells #[.string y.Name, .int .i64 y.Value] 27)) 27 (base := V.heap.size) (by simp); simpa using hbu)); (repeat' (first | assumption | exact bl_refl _ | refine bl_alloc ?_ _ | refine bl_drew ?_)); done))); (repeat' (first | assumption | exact bl_refl _ | refine bl_alloc ?_ _ | refine bl_drew ?_)); (exact hst.out.below (by repeat' (first | assumption | exact bl_refl _ | refine bl_alloc ?_ _ | refine bl_drew ?_))); (intro A1 c1 V1 ho1 hB1 hg1))
                  | (refine step_appB rfl (.tmp 51) (.tmp 53) _ _ rfl el_state (xs := M.take j) (ys := [y]) (w0 := V) rfl rfl ?_ ?_ ?_ (by omega) ?_; (first | (simpa using ho1) | (exact Own.alloc (by simpa using ho1) _)); (repeat' (first | assumption | exact bl_refl _ | refine bl_alloc ?_ _ | refine bl_drew ?_)); (refine sl_state1 ?_ ?_ <;> (first | (focus (go_simp; done)) | (focus (refine (hg1.cell_far _ ?_ ?_).trans ?_ <;> first | (simp; done) | (simp [Value.ownBlock]; done) | (go_simp; done) | (simp [Value.ownBlock]; omega))))); (intro A2 c2 V2 ho2 hB2 hg2))
                  | (refine step_appB rfl (.tmp 54) (.tmp 55) _ _ rfl el_state (xs := M.take j ++ [y]) (ys := M.drop j) (w0 := V) rfl rfl ho2 hB2 (hsd.out.below hB2) (by omega) ?_; (intro A3 c3 V3 ho3 hB3 hg3)))
              all_goals
                (try simp only [Nat.zero_add] at ho3)
                (try simp only [Nat.add_zero] at ho3)
                rw [← HY.out] at ho3
                go_wp2
                all_goals (go_roundw; (case rel => exact ⟨i + 1, _, c3, A3, by omega, by go_num, rfl, by omega, ho3.mono hk.size, bl_trans hk hB3⟩); (case measure => simp [intOf]; omega))
            · have hsm' : ((nth M j).Name.toList == y.Name.toList) = true := hsm
              have HY : Hid (knownL (l.take (i + 1)) = M.take j ++ [y] ++ M.drop (j + 1)) := by rw [Hid, HN.out]; exact upd_same HM.out hlq hg.out HLE.out hsm
              clear hsm
              refine wp_region_grow (by kernel_rfl) (by kernel_rfl) (fun X hX => ?_)
              have hbX : Below V6.heap.size V6 X := by rw [hX]; exact bl_refl _
              have q0 := Gw.cell (cell_later hbX y0)
              have q1 := Gw.cell (cell_later hbX y1)
              have q2 := Gw.cell (cell_later hbX d0)
              have HX := Lib.hid hX
              clear hX
              repeat (go_big_quiet_step (fail))
              refine wpGrow_nil (fun V9 hV => ?_)
              have hbV9 := bl_trans hbX hV
              have y0 := cell_later hbV9 y0
              have y1 := cell_later hbV9 y1
              have d0 := cell_later hbV9 d0
              clear hV hbX HX q0 q1 q2
              have hB9 := bl_trans hbV6 hbV9
              by_cases hc1 : c' = j + 1
              · have hsd : ∀ W B, Hid (Sl W B 0 (M.drop (j + 1))) := fun W B => by
                  have e : M.drop (j + 1) = [] := List.drop_of_length_le (by rw [HM.out]; omega)
                  rw [Hid, e]; exact Sl.nil _ _
                have hq1 : q - j = 1 := by omega
                have hc2 : c' - j = 1 := by omega
                have HC1 := Lib.hid hc1
                clear hsl d0 hc1
                have hst := Lib.hid (hst.out.below hB9)
                have hk := bl_trans hk0 hB9
                obtain ⟨V, hVV⟩ : ∃ W, W = V9 := ⟨_, rfl⟩
                subst hVV
                go_upto_region 11 with fail
                have e0 := y0
                have e1 := y1
                go_region_held3 (fun w' => w'.cell? ⟨wo.heap.size, 0, none⟩ = some (.string y.Name) ∧ w'.cell? ⟨wo.heap.size, 1, none⟩ = some (.int .i64 y.Value)) (refine ⟨cell_later (?_ : Below V.heap.size V _) e0, cell_later (?_ : Below V.heap.size V _) e1⟩ <;> (repeat' (first | assumption | exact bl_refl _ | refine bl_alloc ?_ _ | refine bl_drew ?_)))
                  (first
                    | (refine step_appB rfl (.tmp 47) (.tmp 50) _ _ rfl el_state (xs := ([] : List State)) (ys := M.take j) (w0 := V) rfl rfl ?_ ?_ ?_ (by omega) ?_; (first | (focus (refine Own.below (w := V.alloc (.cells #[] 27)) (Own.built V _ (Nat.le_refl _)) ?_; (repeat' (first | assumption | exact bl_refl _ | refine bl_alloc ?_ _ | refine bl_drew ?_)); done)) | (focus (refine Own.below (w := (V.alloc (.cells #[.string y.Name, .int .i64 y.Value] 27)).alloc (.cells #[] 27)) ?_ ?_; (focus (have hbu := Own.built (α := State) (V.alloc (.cells #[.string y.Name, .int .i64 y.Value] 27)) 27 (base := V.heap.size) (by simp); simpa using hbu)); (repeat' (first | assumption | exact bl_refl _ | refine bl_alloc ?_ _ | refine bl_drew ?_)); done))); (repeat' (first | assumption | exact bl_refl _ | refine bl_alloc ?_ _ | refine bl_drew ?_)); (exact hst.out.below (by repeat' (first | assumption | exact bl_refl _ | refine bl_alloc ?_ _ | refine bl_drew ?_))); (intro A1 c1 V1 ho1 hB1 hg1))
                    | (refine step_appB rfl (.tmp 51) (.tmp 53) _ _ rfl el_state (xs := M.take j) (ys := [y]) (w0 := V) rfl rfl ?_ ?_ ?_ (by omega) ?_; (first | (simpa using ho1) | (exact Own.alloc (by simpa using ho1) _)); (repeat' (first | assumption | exact bl_refl _ | refine bl_alloc ?_ _ | refine bl_drew ?_)); (refine sl_state1 ?_ ?_ <;> (first | (focus (go_simp; done)) | (focus (refine (hg1.cell_far _ ?_ ?_).trans ?_ <;> first | (simp; done) | (simp [Value.ownBlock]; done) | (go_simp; done) | (simp [Value.ownBlock]; omega))))); (intro A2 c2 V2 ho2 hB2 hg2))
                    | (refine step_appB rfl (.tmp 54) (.tmp 55) _ _ rfl el_state (xs := M.take j ++ [y]) (ys := M.drop (j + 1)) (w0 := V) rfl rfl ho2 hB2 ((hsd V _).out.below hB2) (by omega) ?_; (intro A3 c3 V3 ho3 hB3 hg3)))
                all_goals
                  (try simp only [Nat.zero_add] at ho3)
                  (try simp only [Nat.add_zero] at ho3)
                  rw [← HY.out] at ho3
                  go_wp2
                  all_goals (go_roundw; (case rel => exact ⟨i + 1, _, c3, A3, by omega, by go_num, rfl, by omega, ho3.mono hk.size, bl_trans hk hB3⟩); (case measure => simp [intOf]; omega))
              · have hsd : Hid (Sl V9 (some ⟨b2, o2 + j * 2 + 2, none⟩) (q - j - 1) (M.drop (j + 1))) := by
                  have h := (hsl.out.drop (m := j + 1)).below hB9
                  have e : Deep.sz State = 2 := rfl
                  rw [e, show o2 + (j + 1) * 2 = o2 + j * 2 + 2 by omega, show q - (j + 1) = q - j - 1 by omega] at h
                  exact h
                clear hsl d0
                have hst := Lib.hid (hst.out.below hB9)
                have hk := bl_trans hk0 hB9
                obtain ⟨V, hVV⟩ : ∃ W, W = V9 := ⟨_, rfl⟩
                subst hVV
                go_upto_region 11 with fail
                have e0 := y0
                have e1 := y1
                go_region_held3 (fun w' => w'.cell? ⟨wo.heap.size, 0, none⟩ = some (.string y.Name) ∧ w'.cell? ⟨wo.heap.size, 1, none⟩ = some (.int .i64 y.Value)) (refine ⟨cell_later (?_ : Below V.heap.size V _) e0, cell_later (?_ : Below V.heap.size V _) e1⟩ <;> (repeat' (first | assumption | exact bl_refl _ | refine bl_alloc ?_ _ | refine bl_drew ?_)))
                  (first
                    | (refine step_appB rfl (.tmp 47) (.tmp 50) _ _ rfl el_state (xs := ([] : List State)) (ys := M.take j) (w0 := V) rfl rfl ?_ ?_ ?_ (by omega) ?_; (first | (focus (refine Own.below (w := V.alloc (.cells #[] 27)) (Own.built V _ (Nat.le_refl _)) ?_; (repeat' (first | assumption | exact bl_refl _ | refine bl_alloc ?_ _ | refine bl_drew ?_)); done)) | (focus (refine Own.below (w := (V.alloc (.cells #[.string y.Name, .int .i64 y.Value] 27)).alloc (.cells #[] 27)) ?_ ?_; (focus (have hbu := Own.built (α := State) (V.alloc (.cells #[.string y.Name, .int .i64 y.Value] 27)) 27 (base := V.heap.size) (by simp); simpa using hbu)); (repeat' (first | assumption | exact bl_refl _ | refine bl_alloc ?_ _ | refine bl_drew ?_)); done))); (repeat' (first | assumption | exact bl_refl _ | refine bl_alloc ?_ _ | refine bl_drew ?_)); (exact hst.out.below (by repeat' (first | assumption | exact bl_refl _ | refine bl_alloc ?_ _ | refine bl_drew ?_))); (intro A1 c1 V1 ho1 hB1 hg1))
                    | (refine step_appB rfl (.tmp 51) (.tmp 53) _ _ rfl el_state (xs := M.take j) (ys := [y]) (w0 := V) rfl rfl ?_ ?_ ?_ (by omega) ?_; (first | (simpa using ho1) | (exact Own.alloc (by simpa using ho1) _)); (repeat' (first | assumption | exact bl_refl _ | refine bl_alloc ?_ _ | refine bl_drew ?_)); (refine sl_state1 ?_ ?_ <;> (first | (focus (go_simp; done)) | (focus (refine (hg1.cell_far _ ?_ ?_).trans ?_ <;> first | (simp; done) | (simp [Value.ownBlock]; done) | (go_simp; done) | (simp [Value.ownBlock]; omega))))); (intro A2 c2 V2 ho2 hB2 hg2))
                    | (refine step_appB rfl (.tmp 54) (.tmp 55) _ _ rfl el_state (xs := M.take j ++ [y]) (ys := M.drop (j + 1)) (w0 := V) rfl rfl ho2 hB2 (hsd.out.below hB2) (by omega) ?_; (intro A3 c3 V3 ho3 hB3 hg3)))
                all_goals
                  (try simp only [Nat.zero_add] at ho3)
                  (try simp only [Nat.add_zero] at ho3)
                  rw [← HY.out] at ho3
                  go_wp2
                  all_goals (go_roundw; (case rel => exact ⟨i + 1, _, c3, A3, by omega, by go_num, rfl, by omega, ho3.mono hk.size, bl_trans hk hB3⟩); (case measure => simp [intOf]; omega))
          · have hle' : Op.bytesLess (nth M j).Name.toList y.Name.toList = true := hle
            have HLE := Lib.hid hle
            clear hle hst hsl
            go_wp2_with fail
            refine wp_region_grow (by kernel_rfl) (by kernel_rfl) (fun X hX => ?_)
            have hbX : Below wr.heap.size wr X := by rw [hX]; exact bl_refl _
            have q0 := Gw.cell (cell_later hbX y0)
            have q1 := Gw.cell (cell_later hbX y1)
            have q2 := Gw.cell (cell_later hbX d0)
            have HX := Lib.hid hX
            clear hX
            repeat (go_big_quiet_step (fail))
            refine wpGrow_nil (fun V6 hV => ?_)
            have hbV6 := bl_trans hbX hV
            have y0 := cell_later hbV6 y0
            have y1 := cell_later hbV6 y1
            have d0 := cell_later hbV6 d0
            clear hV hbX HX q0 q1 q2
            go_wp2
            go_roundw
            case rel => exact ⟨j + 1, by omega, by go_num, bl_trans hb2 hbV6, y0, y1, upto_succ hg HLE.out⟩
            case measure => simp [intOf]; omega
        · obtain rfl : j = q := by omega
          have HY : Hid (knownL (l.take (i + 1)) = M.take j ++ [y] ++ M.drop j) := by rw [Hid, HN.out]; exact upd_new HM.out (Nat.le_refl _) hg.out (fun h => absurd h (by omega)) (fun h => absurd h (by omega))
          have hsd : ∀ W B, Hid (Sl W B 0 (M.drop j)) := fun W B => by
            have e : M.drop j = [] := List.drop_of_length_le (Nat.le_of_eq HM.out)
            rw [Hid, e]; exact Sl.nil _ _
          rcases ho.kind with ⟨rfl, rfl, rfl, hnil⟩ | ⟨g, rfl, hnc, hcm2⟩
          · clear ho hsl hnil
            go_wp2_with fail
            refine wp_region_grow (by kernel_rfl) (by kernel_rfl) (fun X hX => ?_)
            have hbX : Below wr.heap.size wr X := by rw [hX]; exact bl_refl _
            have q0 := Gw.cell (cell_later hbX y0)
            have q1 := Gw.cell (cell_later hbX y1)
            have HX := Lib.hid hX
            clear hX
            repeat (go_big_quiet_step (fail))
            refine wpGrow_nil (fun V6 hV => ?_)
            have hbV6 := bl_trans hbX hV
            have y0 := cell_later hbV6 y0
            have y1 := cell_later hbV6 y1
            clear hV hbX HX q0 q1
            go_upto_region 9 with fail
            refine wp_region_grow (by kernel_rfl) (by kernel_rfl) (fun X hX => ?_)
            have hbX : Below V6.heap.size V6 X := by rw [hX]; exact bl_refl _
            have q0 := Gw.cell (cell_later hbX y0)
            have q1 := Gw.cell (cell_later hbX y1)
            have HX := Lib.hid hX
            clear hX
            repeat (go_big_quiet_step (fail))
            refine wpGrow_nil (fun V9 hV => ?_)
            have hbV9 := bl_trans hbX hV
            have y0 := cell_later hbV9 y0
            have y1 := cell_later hbV9 y1
            clear hV hbX HX q0 q1
            have hB9 := bl_trans hbV6 hbV9
            have hst := Lib.hid (hst.out.below hB9)
            have hk := bl_trans hk0 hB9
            obtain ⟨V, hVV⟩ : ∃ W, W = V9 := ⟨_, rfl⟩
            subst hVV
            go_upto_region 11 with fail
            have e0 := y0
            have e1 := y1
            go_region_held3 (fun w' => w'.cell? ⟨wo.heap.size, 0, none⟩ = some (.string y.Name) ∧ w'.cell? ⟨wo.heap.size, 1, none⟩ = some (.int .i64 y.Value)) (refine ⟨cell_later (?_ : Below V.heap.size V _) e0, cell_later (?_ : Below V.heap.size V _) e1⟩ <;> (repeat' (first | assumption | exact bl_refl _ | refine bl_alloc ?_ _ | refine bl_drew ?_)))
              (first
                | (refine step_appB rfl (.tmp 47) (.tmp 50) _ _ rfl el_state (xs := ([] : List State)) (ys := M.take 0) (w0 := V) rfl rfl ?_ ?_ ?_ (by omega) ?_; (first | (focus (refine Own.below (w := V.alloc (.cells #[] 27)) (Own.built V _ (Nat.le_refl _)) ?_; (repeat' (first | assumption | exact bl_refl _ | refine bl_alloc ?_ _ | refine bl_drew ?_)); done)) | (focus (refine Own.below (w := (V.alloc (.cells #[.string y.Name, .int .i64 y.Value] 27)).alloc (.cells #[] 27)) ?_ ?_; (focus (have hbu := Own.built (α := State) (V.alloc (.cells #[.string y.Name, .int .i64 y.Value] 27)) 27 (base := V.heap.size) (by simp); simpa using hbu)); (repeat' (first | assumption | exact bl_refl _ | refine bl_alloc ?_ _ | refine bl_drew ?_)); done))); (repeat' (first | assumption | exact bl_refl _ | refine bl_alloc ?_ _ | refine bl_drew ?_)); (exact hst.out.below (by repeat' (first | assumption | exact bl_refl _ | refine bl_alloc ?_ _ | refine bl_drew ?_))); (intro A1 c1 V1 ho1 hB1 hg1))
                | (refine step_appB rfl (.tmp 51) (.tmp 53) _ _ rfl el_state (xs := M.take 0) (ys := [y]) (w0 := V) rfl rfl ?_ ?_ ?_ (by omega) ?_; (first | (simpa using ho1) | (exact Own.alloc (by simpa using ho1) _)); (repeat' (first | assumption | exact bl_refl _ | refine bl_alloc ?_ _ | refine bl_drew ?_)); (refine sl_state1 ?_ ?_ <;> (first | (focus (go_simp; done)) | (focus (refine (hg1.cell_far _ ?_ ?_).trans ?_ <;> first | (simp; done) | (simp [Value.ownBlock]; done) | (go_simp; done) | (simp [Value.ownBlock]; omega))))); (intro A2 c2 V2 ho2 hB2 hg2))
                | (refine step_appB rfl (.tmp 54) (.tmp 55) _ _ rfl el_state (xs := M.take 0 ++ [y]) (ys := M.drop 0) (w0 := V) rfl rfl ho2 hB2 ((hsd V _).out.below hB2) (by omega) ?_; (intro A3 c3 V3 ho3 hB3 hg3)))
            all_goals
              (try simp only [Nat.zero_add] at ho3)
              (try simp only [Nat.add_zero] at ho3)
              rw [← HY.out] at ho3
              go_wp2
              all_goals (go_roundw; (case rel => exact ⟨i + 1, _, c3, A3, by omega, by go_num, rfl, by omega, ho3.mono hk.size, bl_trans hk hB3⟩); (case measure => simp [intOf]; omega))
          · by_cases hcj : j = c'
            · subst hcj
              clear ho hsl
              go_wp2_with fail
              refine wp_region_grow (by kernel_rfl) (by kernel_rfl) (fun X hX => ?_)
              have hbX : Below wr.heap.size wr X := by rw [hX]; exact bl_refl _
              have q0 := Gw.cell (cell_later hbX y0)
              have q1 := Gw.cell (cell_later hbX y1)
              have HX := Lib.hid hX
              clear hX
              repeat (go_big_quiet_step (fail))
              refine wpGrow_nil (fun V6 hV => ?_)
              have hbV6 := bl_trans hbX hV
              have y0 := cell_later hbV6 y0
              have y1 := cell_later hbV6 y1
              clear hV hbX HX q0 q1
              go_upto_region 9 with fail
              refine wp_region_grow (by kernel_rfl) (by kernel_rfl) (fun X hX => ?_)
              have hbX : Below V6.heap.size V6 X := by rw [hX]; exact bl_refl _
              have q0 := Gw.cell (cell_later hbX y0)
              have q1 := Gw.cell (cell_later hbX y1)
              have HX := Lib.hid hX
              clear hX
              repeat (go_big_quiet_step (fail))
              refine wpGrow_nil (fun V9 hV => ?_)
              have hbV9 := bl_trans hbX hV
              have y0 := cell_later hbV9 y0
              have y1 := cell_later hbV9 y1
              clear hV hbX HX q0 q1
              have hB9 := bl_trans hbV6 hbV9
              have hst := Lib.hid (hst.out.below hB9)
              have hk := bl_trans hk0 hB9
              obtain ⟨V, hVV⟩ : ∃ W, W = V9 := ⟨_, rfl⟩
              subst hVV
              go_upto_region 11 with fail
              have e0 := y0
              have e1 := y1
              go_region_held3 (fun w' => w'.cell? ⟨wo.heap.size, 0, none⟩ = some (.string y.Name) ∧ w'.cell? ⟨wo.heap.size, 1, none⟩ = some (.int .i64 y.Value)) (refine ⟨cell_later (?_ : Below V.heap.size V _) e0, cell_later (?_ : Below V.heap.size V _) e1⟩ <;> (repeat' (first | assumption | exact bl_refl _ | refine bl_alloc ?_ _ | refine bl_drew ?_)))
                (first
                  | (refine step_appB rfl (.tmp 47) (.tmp 50) _ _ rfl el_state (xs := ([] : List State)) (ys := M.take j) (w0 := V) rfl rfl ?_ ?_ ?_ (by omega) ?_; (first | (focus (refine Own.below (w := V.alloc (.cells #[] 27)) (Own.built V _ (Nat.le_refl _)) ?_; (repeat' (first | assumption | exact bl_refl _ | refine bl_alloc ?_ _ | refine bl_drew ?_)); done)) | (focus (refine Own.below (w := (V.alloc (.cells #[.string y.Name, .int .i64 y.Value] 27)).alloc (.cells #[] 27)) ?_ ?_; (focus (have hbu := Own.built (α := State) (V.alloc (.cells #[.string y.Name, .int .i64 y.Value] 27)) 27 (base := V.heap.size) (by simp); simpa using hbu)); (repeat' (first | assumption | exact bl_refl _ | refine bl_alloc ?_ _ | refine bl_drew ?_)); done))); (repeat' (first | assumption | exact bl_refl _ | refine bl_alloc ?_ _ | refine bl_drew ?_)); (exact hst.out.below (by repeat' (first | assumption | exact bl_refl _ | refine bl_alloc ?_ _ | refine bl_drew ?_))); (intro A1 c1 V1 ho1 hB1 hg1))
                  | (refine step_appB rfl (.tmp 51) (.tmp 53) _ _ rfl el_state (xs := M.take j) (ys := [y]) (w0 := V) rfl rfl ?_ ?_ ?_ (by omega) ?_; (first | (simpa using ho1) | (exact Own.alloc (by simpa using ho1) _)); (repeat' (first | assumption | exact bl_refl _ | refine bl_alloc ?_ _ | refine bl_drew ?_)); (refine sl_state1 ?_ ?_ <;> (first | (focus (go_simp; done)) | (focus (refine (hg1.cell_far _ ?_ ?_).trans ?_ <;> first | (simp; done) | (simp [Value.ownBlock]; done) | (go_simp; done) | (simp [Value.ownBlock]; omega))))); (intro A2 c2 V2 ho2 hB2 hg2))
                  | (refine step_appB rfl (.tmp 54) (.tmp 55) _ _ rfl el_state (xs := M.take j ++ [y]) (ys := M.drop j) (w0 := V) rfl rfl ho2 hB2 ((hsd V _).out.below hB2) (by omega) ?_; (intro A3 c3 V3 ho3 hB3 hg3)))
              all_goals
                (try simp only [Nat.zero_add] at ho3)
                (try simp only [Nat.add_zero] at ho3)
                rw [← HY.out] at ho3
                go_wp2
                all_goals (go_roundw; (case rel => exact ⟨i + 1, _, c3, A3, by omega, by go_num, rfl, by omega, ho3.mono hk.size, bl_trans hk hB3⟩); (case measure => simp [intOf]; omega))
            · have hck : ¬ c' = j := fun e => hcj e.symm
              clear ho hsl
              go_wp2_with fail
              refine wp_region_grow (by kernel_rfl) (by kernel_rfl) (fun X hX => ?_)
              have hbX : Below wr.heap.size wr X := by rw [hX]; exact bl_refl _
              have q0 := Gw.cell (cell_later hbX y0)
              have q1 := Gw.cell (cell_later hbX y1)
              have HX := Lib.hid hX
              clear hX
              repeat (go_big_quiet_step (fail))
              refine wpGrow_nil (fun V6 hV => ?_)
              have hbV6 := bl_trans hbX hV
              have y0 := cell_later hbV6 y0
              have y1 := cell_later hbV6 y1
              clear hV hbX HX q0 q1
              go_upto_region 9 with fail
              refine wp_region_grow (by kernel_rfl) (by kernel_rfl) (fun X hX => ?_)
              have hbX : Below V6.heap.size V6 X := by rw [hX]; exact bl_refl _
              have q0 := Gw.cell (cell_later hbX y0)
              have q1 := Gw.cell (cell_later hbX y1)
              have HX := Lib.hid hX
              clear hX
              repeat (go_big_quiet_step (fail))
              refine wpGrow_nil (fun V9 hV => ?_)
              have hbV9 := bl_trans hbX hV
              have y0 := cell_later hbV9 y0
              have y1 := cell_later hbV9 y1
              clear hV hbX HX q0 q1
              have hB9 := bl_trans hbV6 hbV9
              have hst := Lib.hid (hst.out.below hB9)
              have hk := bl_trans hk0 hB9
              obtain ⟨V, hVV⟩ : ∃ W, W = V9 := ⟨_, rfl⟩
              subst hVV
              go_upto_region 11 with fail
              have e0 := y0
              have e1 := y1
              go_region_held3 (fun w' => w'.cell? ⟨wo.heap.size, 0, none⟩ = some (.string y.Name) ∧ w'.cell? ⟨wo.heap.size, 1, none⟩ = some (.int .i64 y.Value)) (refine ⟨cell_later (?_ : Below V.heap.size V _) e0, cell_later (?_ : Below V.heap.size V _) e1⟩ <;> (repeat' (first | assumption | exact bl_refl _ | refine bl_alloc ?_ _ | refine bl_drew ?_)))
                (first
                  | (refine step_appB rfl (.tmp 47) (.tmp 50) _ _ rfl el_state (xs := ([] : List State)) (ys := M.take j) (w0 := V) rfl rfl ?_ ?_ ?_ (by omega) ?_; (first | (focus (refine Own.below (w := V.alloc (.cells #[] 27)) (Own.built V _ (Nat.le_refl _)) ?_; (repeat' (first | assumption | exact bl_refl _ | refine bl_alloc ?_ _ | refine bl_drew ?_)); done)) | (focus (refine Own.below (w := (V.alloc (.cells #[.string y.Name, .int .i64 y.Value] 27)).alloc (.cells #[] 27)) ?_ ?_; (focus (have hbu := Own.built (α := State) (V.alloc (.cells #[.string y.Name, .int .i64 y.Value] 27)) 27 (base := V.heap.size) (by simp); simpa using hbu)); (repeat' (first | assumption | exact bl_refl _ | refine bl_alloc ?_ _ | refine bl_drew ?_)); done))); (repeat' (first | assumption | exact bl_refl _ | refine bl_alloc ?_ _ | refine bl_drew ?_)); (exact hst.out.below (by repeat' (first | assumption | exact bl_refl _ | refine bl_alloc ?_ _ | refine bl_drew ?_))); (intro A1 c1 V1 ho1 hB1 hg1))
                  | (refine step_appB rfl (.tmp 51) (.tmp 53) _ _ rfl el_state (xs := M.take j) (ys := [y]) (w0 := V) rfl rfl ?_ ?_ ?_ (by omega) ?_; (first | (simpa using ho1) | (exact Own.alloc (by simpa using ho1) _)); (repeat' (first | assumption | exact bl_refl _ | refine bl_alloc ?_ _ | refine bl_drew ?_)); (refine sl_state1 ?_ ?_ <;> (first | (focus (go_simp; done)) | (focus (refine (hg1.cell_far _ ?_ ?_).trans ?_ <;> first | (simp; done) | (simp [Value.ownBlock]; done) | (go_simp; done) | (simp [Value.ownBlock]; omega))))); (intro A2 c2 V2 ho2 hB2 hg2))
                  | (refine step_appB rfl (.tmp 54) (.tmp 55) _ _ rfl el_state (xs := M.take j ++ [y]) (ys := M.drop j) (w0 := V) rfl rfl ho2 hB2 ((hsd V _).out.below hB2) (by omega) ?_; (intro A3 c3 V3 ho3 hB3 hg3)))
              all_goals
                (try simp only [Nat.zero_add] at ho3)
                (try simp only [Nat.add_zero] at ho3)
                rw [← HY.out] at ho3
                go_wp2
                all_goals (go_roundw; (case rel => exact ⟨i + 1, _, c3, A3, by omega, by go_num, rfl, by omega, ho3.mono hk.size, bl_trans hk hB3⟩); (case measure => simp [intOf]; omega))
    · obtain hin2 : i = n := by omega
      have hfl : l.take i = l := List.take_of_length_le (by rw [HL.out]; omega)
      rw [hfl] at ho
      clear hs
      go_wp2
      go_ret
      exact retOwn_mk ho.sl.1 ho hb

end Go.Proofs.YtjnplafphocmiaaDoor
