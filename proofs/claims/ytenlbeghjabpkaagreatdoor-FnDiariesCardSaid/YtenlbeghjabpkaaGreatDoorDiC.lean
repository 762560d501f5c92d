/-
  Several texts in one. No conditions.
-/
import Derived.Test.YtenlbeghjabpkaaGreatDoorDiB
import Derived.Test.YtenlbeghjabpkaaGreatDoorJnX
import Derived.Test.YtenlbeghjabpkaaGreatDoorJnIs
import Derived.Test.YtenlbeghjabpkaaGreatDoorJnLo
import Derived.Test.YtenlbeghjabpkaaGreatDoorJnWs
import Derived.Test.YtenlbeghjabpkaaGreatDoorEnv
import Derived.Test.YtenlbeghjabpkaaGreatDoorRows
import Derived.Lib.LaidTab
import Derived.Stop.LaidErr
import Derived.Shelf.Vars
import Derived.Test.YtenlbeghjabpkaaGreatDoorMem
import Derived.ProofKit
import Derived.OpenShut
import Derived.Deep.Slices
import Derived.Deep.Fields
import Derived.ChangeSame
import Derived.Lib.SmallJoins
namespace Go.Proofs.YtenlbeghjabpkaaGreatDoor
open Go.RowKit

/-- As step_appN; all that has turned lies from the first world on. -/
theorem step_appB {α : Type} [Flat α] {P : Program} {ops : Array Oper} {o : Oper} {a : Act} {w : World} {K : Act → World → Prop} {Q : Exit → Act → World → Prop} {E : Prop} (hgd : o.guard = none) (s x : Operand) (t e : TypeId)
    (ho : o.op = .call { callee := .builtin .append, args := #[s, x], argTypes := #[t, t] }) (he : Elem P t e (Flat.sz α)) {w0 : World} {A B : Option Addr} {n c m d : Nat} {xs ys : List α} (hs : a.eval s = .slice A n c) (hx : a.eval x = .slice B m d)
    (hown : Own w w0.heap.size e (.slice A n c) xs) (hb : Below w0.heap.size w0 w) (hy : Sl w B m ys) (hlim : n + m ≤ 274877906944)
    (h : ∀ A' c' w', Own w' w0.heap.size e (.slice A' (n + m) c') (xs ++ ys) → Below w0.heap.size w0 w' → w.grownBy w' (Value.ownBlock (.slice A n c)) → K (a.put o.dst (.slice A' (n + m) c')) w') :
    if Region.wanted o (yielded ops a.tmps) = true then Oper.wp P o a w K Q else E :=
  step_appN hgd s x t e ho he hs hx hown hb.size hy hlim fun A' c' w' h1 h2 => h A' c' w' h1 (bl_grown hb h2 (fun k hk => (hown.lt k hk).1)) h2
theorem wp_hide {P : Program} {c : Code} {Q : Exit → Act → World → Prop} {a : Act} {w : World} {R : World → Prop} (hR : R w) (h : ∀ V, R V → c.wp P Q a V) : c.wp P Q a w := h w hR
theorem sl_state1 {w : World} {b o : Nat} {s : State} (h0 : w.cell? ⟨b, o, none⟩ = some (.string s.Name)) (h1 : w.cell? ⟨b, o + 1, none⟩ = some (.int .i64 s.Value)) : Sl w (some ⟨b, o, none⟩) 1 [s] :=
  ⟨rfl, fun k x hx => by
    have hk : k = 0 := by have := (List.getElem?_eq_some_iff.1 hx).1; simpa using this
    subst hk
    have hx' : s = x := by simpa using hx
    subst hx'
    refine ⟨b, o, [.string s.Name, .int .i64 s.Value], rfl, rfl, fun j v hv => ?_⟩
    have hj : j < 2 := by have := (List.getElem?_eq_some_iff.1 hv).1; simpa using this
    match j, hj, hv with
    | 0, _, hv => have hv' : Value.string s.Name = v := by simpa using hv
                  subst hv'; simpa using h0
    | 1, _, hv => have hv' : Value.int .i64 s.Value = v := by simpa using hv
                  subst hv'; simpa using h1⟩
set_option maxRecDepth 100000 in
set_option maxHeartbeats 8000000 in
theorem jnKnown_any (l : List State) (A : Option Addr) (n c : Nat) (w : World) (hn : n ≤ 1048576) (hs : Sl w A n l) :
    Calls Tryz.prog 34 #[.slice A n c] w (RetOwn w 26 (knownL l)) := by
  have HL := Lib.hid hs.1
  go_enter Tryz.func34, Tryz.ntmps34
  go_wp2
  go_loopw [3, 10] (fun v iv wr => ∃ (i q c' : Nat) (A' : Option Addr), i ≤ n ∧ iv = .int .i64 i ∧ v = .slice A' q c' ∧ q ≤ i ∧ Own wr w.heap.size 26 (.slice A' q c') (knownL (l.take i)) ∧ Below w.heap.size w wr) (fun _ iv _ => n - (intOf iv).toNat)
  case atStart => exact ⟨0, 0, 0, none, Nat.zero_le _, rfl, rfl, Nat.le_refl _, Own.nil _ _ _, bl_refl _⟩
  case round =>
    obtain ⟨i, q, c', A', hin, rfl, rfl, hq, ho, hb⟩ := hrel
    by_cases hlt : i < n
    · obtain ⟨b, o, rfl, hbz, c0, c1⟩ := (hs.below hb).state hlt
      clear hs
      have hnx := known_next (l := l) (k := i) (by rw [HL.out]; exact hlt)
      obtain ⟨M, hM⟩ : ∃ M, M = knownL (l.take i) := ⟨_, rfl⟩
      obtain ⟨y, hy⟩ : ∃ y, y = nth l i := ⟨_, rfl⟩
      rw [← hM] at ho hnx
      rw [← hy] at c0 c1 hnx
      have HN := Lib.hid hnx
      clear hM hy hnx
      have HM := Lib.hid ho.sl.1
      obtain ⟨hqc, hcm⟩ := ho.cap
      unfold maxLen at hcm
      obtain ⟨wo, hwo⟩ : ∃ W, W = wr := ⟨_, rfl⟩
      subst hwo
      go_wp2
      go_loopw [6] (fun jv wr => ∃ j : Nat, j ≤ q ∧ jv = .int .i64 j ∧ Below wo.heap.size wo wr ∧ wr.cell? ⟨wo.heap.size, 0, none⟩ = some (.string y.Name) ∧ wr.cell? ⟨wo.heap.size, 1, none⟩ = some (.int .i64 y.Value) ∧ Hid (∀ p, p < j → stLess (nth M p) y = true)) (fun jv _ => q - (intOf jv).toNat)
      case atStart => exact ⟨0, Nat.zero_le _, rfl, bl_alloc (bl_refl _) _, by go_simp, by go_simp, fun p hp => absurd hp (by omega)⟩
      case round =>
        obtain ⟨j, hj, rfl, hb2, y0, y1, hg⟩ := hrel
        have hjc : (j : Int) ≤ c' := by omega
        have hjq : (j : Int) ≤ q := by omega
        have hj0 : (0 : Int) ≤ j := by omega
        have hst : Hid (Sl wr A' j (M.take j)) := (ho.sl.below hb2).take hj
        have hsl : Hid (Sl wr A' q M) := ho.sl.below hb2
        have hk0 := bl_trans hb hb2
        clear c0 c1
        by_cases hlq : j < q
        · obtain ⟨b2, o2, rfl, _, d0, d1⟩ := (ho.sl.below hb2).state hlq
          have hck : ¬ c' = j := by omega
          have hqj : 0 < q - j := by omega
          have hqd : decide (0 < q - j) = true := decide_eq_true hqj
          clear ho
          cases hle : stLess (nth M j) y
          · have hle' : Op.bytesLess (nth M j).Name.toList y.Name.toList = false := hle
            have HLE := Lib.hid hle
            clear hle
            go_wp2_with fail
            refine wp_region_grow (by kernel_rfl) (by kernel_rfl) (fun X hX => ?_)
            have hbX : Below wr.heap.size wr X := by rw [hX]; exact bl_refl _
            have q0 := Gw.cell (cell_later hbX y0)
            have q1 := Gw.cell (cell_later hbX y1)
            have q2 := Gw.cell (cell_later hbX d0)
            have HX := Lib.hid hX
            clear hX
            repeat (go_big_quiet_step (fail))
            refine wpGrow_nil (fun V6 hV => ?_)
            have hbV6 := bl_trans hbX hV
            have y0 := cell_later hbV6 y0
            have y1 := cell_later hbV6 y1
            have d0 := cell_later hbV6 d0
            clear hV hbX HX q0 q1 q2
            go_upto_region 9 with fail
            cases hsm : sameN (nth M j) y
            · have hsm' : ((nth M j).Name.toList == y.Name.toList) = false := hsm
              have HY : Hid (knownL (l.take (i + 1)) = M.take j ++ [y] ++ M.drop j) := by rw [Hid, HN.out]; exact upd_new HM.out hj hg.out (fun _ => HLE.out) (fun _ => hsm)
              clear hsm
              refine wp_region_grow (by kernel_rfl) (by kernel_rfl) (fun X hX => ?_)
              have hbX : Below V6.heap.size V6 X := by rw [hX]; exact bl_refl _
              have q0 := Gw.cell (cell_later hbX y0)
              have q1 := Gw.cell (cell_later hbX y1)
              have q2 := Gw.cell (cell_later hbX d0)
              have HX := Lib.hid hX
              clear hX
              repeat (go_big_quiet_step (fail))
              refine wpGrow_nil (fun V9 hV => ?_)
              have hbV9 := bl_trans hbX hV
              have y0 := cell_later hbV9 y0
              have y1 := cell_later hbV9 y1
              have d0 := cell_later hbV9 d0
              clear hV hbX HX q0 q1 q2
              have hB9 := bl_trans hbV6 hbV9
              have hsd := Lib.hid ((hsl.out.drop (m := j)).below hB9)
              clear hsl d0
              have hst := Lib.hid (hst.out.below hB9)
              have hk := bl_trans hk0 hB9
              obtain ⟨V, hVV⟩ : ∃ W, W = V9 := ⟨_, rfl⟩
              subst hVV
              go_upto_region 11 with fail
              have e0 := y0
              have e1 := y1
              go_region_held3 (fun w' => w'.cell? ⟨wo.heap.size, 0, none⟩ = some (.string y.Name) ∧ w'.cell? ⟨wo.heap.size, 1, none⟩ = some (.int .i64 y.Value)) (refine ⟨cell_later (?_ : Below V.heap.size V _) e0, cell_later (?_ : Below V.heap.size V _) e1⟩ <;> (repeat' (first | assumption | exact bl_refl _ | refine bl_alloc ?_ _ | refine bl_drew ?_)))
                (first
                  | (refine step_appB rfl (.tmp 47) (.tmp 50) _ _ rfl el_state (xs := ([] : List State)) (ys := M.take j) (w0 := V) rfl rfl ?_ ?_ ?_ (by omega) ?_; (first | (focus (refine Own.below (w := V.alloc (.cells #[] 26)) (Own.built V _ (Nat.le_refl _)) ?_; (repeat' (first | assumption | exact bl_refl _ | refine bl_alloc ?_ _ | refine bl_drew ?_)); done)) | (focus (refine Own.below (w := (V.alloc (.cells #[.string y.Name, .int .i64 y.Value] 26)).alloc (.cells #[] 26)) ?_ ?_; (focus (have hbu := Own.built (α := State) (V.alloc (.cells #[.string y.Name, .int .i64 y.Value] 26)) 26 (base := V.heap.size) (by simp); simpa using hbu)); (repeat' (first | assumption | exact bl_refl _ | refine bl_alloc ?_ _ | refine bl_drew ?_)); done))); (repeat' (first | assumption | exact bl_refl _ | refine bl_alloc ?_ _ | refine bl_drew ?_)); (exact hst.out.below (by repeat' (first | assumption | exact bl_refl _ | refine bl_alloc ?_ _ | refine bl_drew ?_))); (intro A1 c1 V1 ho1 hB1 hg1))
                  | (refine step_appB rfl (.tmp 51) (.tmp 53) _ _ rfl el_state (xs := M.take j) (ys := [y]) (w0 := V) rfl rfl ?_ ?_ ?_ (by omega) ?_; (first | (simpa using ho1) | (exact Own.alloc (by simpa using ho1) _)); (repeat' (first | assumption | exact bl_refl _ | refine bl_alloc ?_ _ | refine bl_drew ?_)); (refine sl_state1 ?_ ?_ <;> (first | (focus (go_simp; done)) | (focus (refine (hg1.cell_far _ ?_ ?_).trans ?_ <;> first | (simp; done) | (simp [Value.ownBlock]; done) | (go_simp; done) | (simp [Value.ownBlock]; omega))))); (intro A2 c2 V2 ho2 hB2 hg2))
                  | (refine step_appB rfl (.tmp 54) (.tmp 55) _ _ rfl el_state (xs := M.take j ++ [y]) (ys := M.drop j) (w0 := V) rfl rfl ho2 hB2 (hsd.out.below hB2) (by omega) ?_; (intro A3 c3 V3 ho3 hB3 hg3)))
              all_goals
                (try simp only [Nat.zero_add] at ho3)
                (try simp only [Nat.add_zero] at ho3)
                rw [← HY.out] at ho3
                go_wp2
                all_goals (go_roundw; (case rel => exact ⟨i + 1, _, c3, A3, by omega, by go_num, rfl, by omega, ho3.mono hk.size, bl_trans hk hB3⟩); (case measure => simp [intOf]; omega))
            · have hsm' : ((nth M j).Name.toList == y.Name.toList) = true := hsm
              have HY : Hid (knownL (l.take (i + 1)) = M.take j ++ [y] ++ M.drop (j + 1)) := by rw [Hid, HN.out]; exact upd_same HM.out hlq hg.out HLE.out hsm
              clear hsm
              refine wp_region_grow (by kernel_rfl) (by kernel_rfl) (fun X hX => ?_)
              have hbX : Below V6.heap.size V6 X := by rw [hX]; exact bl_refl _
              have q0 := Gw.cell (cell_later hbX y0)
              have q1 := Gw.cell (cell_later hbX y1)
              have q2 := Gw.cell (cell_later hbX d0)
              have HX := Lib.hid hX
              clear hX
              repeat (go_big_quiet_step (fail))
              refine wpGrow_nil (fun V9 hV => ?_)
              have hbV9 := bl_trans hbX hV
              have y0 := cell_later hbV9 y0
              have y1 := cell_later hbV9 y1
              have d0 := cell_later hbV9 d0
              clear hV hbX HX q0 q1 q2
              have hB9 := bl_trans hbV6 hbV9
              by_cases hc1 : c' = j + 1
              · have hsd : ∀ W B, Hid (Sl W B 0 (M.drop (j + 1))) := fun W B => by
                  have e : M.drop (j + 1) = [] := List.drop_of_length_le (by rw [HM.out]; omega)
                  rw [Hid, e]; exact Sl.nil _ _
                have hq1 : q - j = 1 := by omega
                have hc2 : c' - j = 1 := by omega
                have HC1 := Lib.hid hc1
                clear hsl d0 hc1
                have hst := Lib.hid (hst.out.below hB9)
                have hk := bl_trans hk0 hB9
                obtain ⟨V, hVV⟩ : ∃ W, W = V9 := ⟨_, rfl⟩
                subst hVV
                go_upto_region 11 with fail
                have e0 := y0
                have e1 := y1
                go_region_held3 (fun w' => w'.cell? ⟨wo.heap.size, 0, none⟩ = some (.string y.Name) ∧ w'.cell? ⟨wo.heap.size, 1, none⟩ = some (.int .i64 y.Value)) (refine ⟨cell_later (?_ : Below V.heap.size V _) e0, cell_later (?_ : Below V.heap.size V _) e1⟩ <;> (repeat' (first | assumption | exact bl_refl _ | refine bl_alloc ?_ _ | refine bl_drew ?_)))
                  (first
                    | (refine step_appB rfl (.tmp 47) (.tmp 50) _ _ rfl el_state (xs := ([] : List State)) (ys := M.take j) (w0 := V) rfl rfl ?_ ?_ ?_ (by omega) ?_; (first | (focus (refine Own.below (w := V.alloc (.cells #[] 26)) (Own.built V _ (Nat.le_refl _)) ?_; (repeat' (first | assumption | exact bl_refl _ | refine bl_alloc ?_ _ | refine bl_drew ?_)); done)) | (focus (refine Own.below (w := (V.alloc (.cells #[.string y.Name, .int .i64 y.Value] 26)).alloc (.cells #[] 26)) ?_ ?_; (focus (have hbu := Own.built (α := State) (V.alloc (.cells #[.string y.Name, .int .i64 y.Value] 26)) 26 (base := V.heap.size) (by simp); simpa using hbu)); (repeat' (first | assumption | exact bl_refl _ | refine bl_alloc ?_ _ | refine bl_drew ?_)); done))); (repeat' (first | assumption | exact bl_refl _ | refine bl_alloc ?_ _ | refine bl_drew ?_)); (exact hst.out.below (by repeat' (first | assumption | exact bl_refl _ | refine bl_alloc ?_ _ | refine bl_drew ?_))); (intro A1 c1 V1 ho1 hB1 hg1))
                    | (refine step_appB rfl (.tmp 51) (.tmp 53) _ _ rfl el_state (xs := M.take j) (ys := [y]) (w0 := V) rfl rfl ?_ ?_ ?_ (by omega) ?_; (first | (simpa using ho1) | (exact Own.alloc (by simpa using ho1) _)); (repeat' (first | assumption | exact bl_refl _ | refine bl_alloc ?_ _ | refine bl_drew ?_)); (refine sl_state1 ?_ ?_ <;> (first | (focus (go_simp; done)) | (focus (refine (hg1.cell_far _ ?_ ?_).trans ?_ <;> first | (simp; done) | (simp [Value.ownBlock]; done) | (go_simp; done) | (simp [Value.ownBlock]; omega))))); (intro A2 c2 V2 ho2 hB2 hg2))
                    | (refine step_appB rfl (.tmp 54) (.tmp 55) _ _ rfl el_state (xs := M.take j ++ [y]) (ys := M.drop (j + 1)) (w0 := V) rfl rfl ho2 hB2 ((hsd V _).out.below hB2) (by omega) ?_; (intro A3 c3 V3 ho3 hB3 hg3)))
                all_goals
                  (try simp only [Nat.zero_add] at ho3)
                  (try simp only [Nat.add_zero] at ho3)
                  rw [← HY.out] at ho3
                  go_wp2
                  all_goals (go_roundw; (case rel => exact ⟨i + 1, _, c3, A3, by omega, by go_num, rfl, by omega, ho3.mono hk.size, bl_trans hk hB3⟩); (case measure => simp [intOf]; omega))
              · have hsd : Hid (Sl V9 (some ⟨b2, o2 + j * 2 + 2, none⟩) (q - j - 1) (M.drop (j + 1))) := by
                  have h := (hsl.out.drop (m := j + 1)).below hB9
                  have e : Deep.sz State = 2 := rfl
                  rw [e, show o2 + (j + 1) * 2 = o2 + j * 2 + 2 by omega, show q - (j + 1) = q - j - 1 by omega] at h
                  exact h
                clear hsl d0
                have hst := Lib.hid (hst.out.below hB9)
                have hk := bl_trans hk0 hB9
                obtain ⟨V, hVV⟩ : ∃ W, W = V9 := ⟨_, rfl⟩
                subst hVV
                go_upto_region 11 with fail
                have e0 := y0
                have e1 := y1
                go_region_held3 (fun w' => w'.cell? ⟨wo.heap.size, 0, none⟩ = some (.string y.Name) ∧ w'.cell? ⟨wo.heap.size, 1, none⟩ = some (.int .i64 y.Value)) (refine ⟨cell_later (?_ : Below V.heap.size V _) e0, cell_later (?_ : Below V.heap.size V _) e1⟩ <;> (repeat' (first | assumption | exact bl_refl _ | refine bl_alloc ?_ _ | refine bl_drew ?_)))
                  (first
                    | (refine step_appB rfl (.tmp 47) (.tmp 50) _ _ rfl el_state (xs := ([] : List State)) (ys := M.take j) (w0 := V) rfl rfl ?_ ?_ ?_ (by omega) ?_; (first | (focus (refine Own.below (w := V.alloc (.cells #[] 26)) (Own.built V _ (Nat.le_refl _)) ?_; (repeat' (first | assumption | exact bl_refl _ | refine bl_alloc ?_ _ | refine bl_drew ?_)); done)) | (focus (refine Own.below (w := (V.alloc (.cells #[.string y.Name, .int .i64 y.Value] 26)).alloc (.cells #[] 26)) ?_ ?_; (focus (have hbu := Own.built (α := State) (V.alloc (.cells #[.string y.Name, .int .i64 y.Value] 26)) 26 (base := V.heap.size) (by simp); simpa using hbu)); (repeat' (first | assumption | exact bl_refl _ | refine bl_alloc ?_ _ | refine bl_drew ?_)); done))); (repeat' (first | assumption | exact bl_refl _ | refine bl_alloc ?_ _ | refine bl_drew ?_)); (exact hst.out.below (by repeat' (first | assumption | exact bl_refl _ | refine bl_alloc ?_ _ | refine bl_drew ?_))); (intro A1 c1 V1 ho1 hB1 hg1))
                    | (refine step_appB rfl (.tmp 51) (.tmp 53) _ _ rfl el_state (xs := M.take j) (ys := [y]) (w0 := V) rfl rfl ?_ ?_ ?_ (by omega) ?_; (first | (simpa using ho1) | (exact Own.alloc (by simpa using ho1) _)); (repeat' (first | assumption | exact bl_refl _ | refine bl_alloc ?_ _ | refine bl_drew ?_)); (refine sl_state1 ?_ ?_ <;> (first | (focus (go_simp; done)) | (focus (refine (hg1.cell_far _ ?_ ?_).trans ?_ <;> first | (simp; done) | (simp [Value.ownBlock]; done) | (go_simp; done) | (simp [Value.ownBlock]; omega))))); (intro A2 c2 V2 ho2 hB2 hg2))
                    | (refine step_appB rfl (.tmp 54) (.tmp 55) _ _ rfl el_state (xs := M.take j ++ [y]) (ys := M.drop (j + 1)) (w0 := V) rfl rfl ho2 hB2 (hsd.out.below hB2) (by omega) ?_; (intro A3 c3 V3 ho3 hB3 hg3)))
                all_goals
                  (try simp only [Nat.zero_add] at ho3)
                  (try simp only [Nat.add_zero] at ho3)
                  rw [← HY.out] at ho3
                  go_wp2
                  all_goals (go_roundw; (case rel => exact ⟨i + 1, _, c3, A3, by omega, by go_num, rfl, by omega, ho3.mono hk.size, bl_trans hk hB3⟩); (case measure => simp [intOf]; omega))
          · have hle' : Op.bytesLess (nth M j).Name.toList y.Name.toList = true := hle
            have HLE := Lib.hid hle
            clear hle hst hsl
            go_wp2_with fail
            refine wp_region_grow (by kernel_rfl) (by kernel_rfl) (fun X hX => ?_)
            have hbX : Below wr.heap.size wr X := by rw [hX]; exact bl_refl _
            have q0 := Gw.cell (cell_later hbX y0)
            have q1 := Gw.cell (cell_later hbX y1)
            have q2 := Gw.cell (cell_later hbX d0)
            have HX := Lib.hid hX
            clear hX
            repeat (go_big_quiet_step (fail))
            refine wpGrow_nil (fun V6 hV => ?_)
            have hbV6 := bl_trans hbX hV
            have y0 := cell_later hbV6 y0
            have y1 := cell_later hbV6 y1
            have d0 := cell_later hbV6 d0
            clear hV hbX HX q0 q1 q2
            go_wp2
            go_roundw
            case rel => exact ⟨j + 1, by omega, by go_num, bl_trans hb2 hbV6, y0, y1, upto_succ hg HLE.out⟩
            case measure => simp [intOf]; omega
        · obtain rfl : j = q := by omega
          have HY : Hid (knownL (l.take (i + 1)) = M.take j ++ [y] ++ M.drop j) := by rw [Hid, HN.out]; exact upd_new HM.out (Nat.le_refl _) hg.out (fun h => absurd h (by omega)) (fun h => absurd h (by omega))
          have hsd : ∀ W B, Hid (Sl W B 0 (M.drop j)) := fun W B => by
            have e : M.drop j = [] := List.drop_of_length_le (Nat.le_of_eq HM.out)
            rw [Hid, e]; exact Sl.nil _ _
          rcases ho.kind with ⟨rfl, rfl, rfl, hnil⟩ | ⟨g, rfl, hnc, hcm2⟩
          · clear ho hsl hnil
            go_wp2_with fail
            refine wp_region_grow (by kernel_rfl) (by kernel_rfl) (fun X hX => ?_)
            have hbX : Below wr.heap.size wr X := by rw [hX]; exact bl_refl _
            have q0 := Gw.cell (cell_later hbX y0)
            have q1 := Gw.cell (cell_later hbX y1)
            have HX := Lib.hid hX
            clear hX
            repeat (go_big_quiet_step (fail))
            refine wpGrow_nil (fun V6 hV => ?_)
            have hbV6 := bl_trans hbX hV
            have y0 := cell_later hbV6 y0
            have y1 := cell_later hbV6 y1
            clear hV hbX HX q0 q1
            go_upto_region 9 with fail
            refine wp_region_grow (by kernel_rfl) (by kernel_rfl) (fun X hX => ?_)
            have hbX : Below V6.heap.size V6 X := by rw [hX]; exact bl_refl _
            have q0 := Gw.cell (cell_later hbX y0)
            have q1 := Gw.cell (cell_later hbX y1)
            have HX := Lib.hid hX
            clear hX
            repeat (go_big_quiet_step (fail))
            refine wpGrow_nil (fun V9 hV => ?_)
            have hbV9 := bl_trans hbX hV
            have y0 := cell_later hbV9 y0
            have y1 := cell_later hbV9 y1
            clear hV hbX HX q0 q1
            have hB9 := bl_trans hbV6 hbV9
            have hst := Lib.hid (hst.out.below hB9)
            have hk := bl_trans hk0 hB9
            obtain ⟨V, hVV⟩ : ∃ W, W = V9 := ⟨_, rfl⟩
            subst hVV
            go_upto_region 11 with fail
            have e0 := y0
            have e1 := y1
            go_region_held3 (fun w' => w'.cell? ⟨wo.heap.size, 0, none⟩ = some (.string y.Name) ∧ w'.cell? ⟨wo.heap.size, 1, none⟩ = some (.int .i64 y.Value)) (refine ⟨cell_later (?_ : Below V.heap.size V _) e0, cell_later (?_ : Below V.heap.size V _) e1⟩ <;> (repeat' (first | assumption | exact bl_refl _ | refine bl_alloc ?_ _ | refine bl_drew ?_)))
              (first
                | (refine step_appB rfl (.tmp 47) (.tmp 50) _ _ rfl el_state (xs := ([] : List State)) (ys := M.take 0) (w0 := V) rfl rfl ?_ ?_ ?_ (by omega) ?_; (first | (focus (refine Own.below (w := V.alloc (.cells #[] 26)) (Own.built V _ (Nat.le_refl _)) ?_; (repeat' (first | assumption | exact bl_refl _ | refine bl_alloc ?_ _ | refine bl_drew ?_)); done)) | (focus (refine Own.below (w := (V.alloc (.cells #[.string y.Name, .int .i64 y.Value] 26)).alloc (.cells #[] 26)) ?_ ?_; (focus (have hbu := Own.built (α := State) (V.alloc (.cells #[.string y.Name, .int .i64 y.Value] 26)) 26 (base := V.heap.size) (by simp); simpa using hbu)); (repeat' (first | assumption | exact bl_refl _ | refine bl_alloc ?_ _ | refine bl_drew ?_)); done))); (repeat' (first | assumption | exact bl_refl _ | refine bl_alloc ?_ _ | refine bl_drew ?_)); (exact hst.out.below (by repeat' (first | assumption | exact bl_refl _ | refine bl_alloc ?_ _ | refine bl_drew ?_))); (intro A1 c1 V1 ho1 hB1 hg1))
                | (refine step_appB rfl (.tmp 51) (.tmp 53) _ _ rfl el_state (xs := M.take 0) (ys := [y]) (w0 := V) rfl rfl ?_ ?_ ?_ (by omega) ?_; (first | (simpa using ho1) | (exact Own.alloc (by simpa using ho1) _)); (repeat' (first | assumption | exact bl_refl _ | refine bl_alloc ?_ _ | refine bl_drew ?_)); (refine sl_state1 ?_ ?_ <;> (first | (focus (go_simp; done)) | (focus (refine (hg1.cell_far _ ?_ ?_).trans ?_ <;> first | (simp; done) | (simp [Value.ownBlock]; done) | (go_simp; done) | (simp [Value.ownBlock]; omega))))); (intro A2 c2 V2 ho2 hB2 hg2))
                | (refine step_appB rfl (.tmp 54) (.tmp 55) _ _ rfl el_state (xs := M.take 0 ++ [y]) (ys := M.drop 0) (w0 := V) rfl rfl ho2 hB2 ((hsd V _).out.below hB2) (by omega) ?_; (intro A3 c3 V3 ho3 hB3 hg3)))
            all_goals
              (try simp only [Nat.zero_add] at ho3)
              (try simp only [Nat.add_zero] at ho3)
              rw [← HY.out] at ho3
              go_wp2
              all_goals (go_roundw; (case rel => exact ⟨i + 1, _, c3, A3, by omega, by go_num, rfl, by omega, ho3.mono hk.size, bl_trans hk hB3⟩); (case measure => simp [intOf]; omega))
          · by_cases hcj : j = c'
            · subst hcj
              clear ho hsl
              go_wp2_with fail
              refine wp_region_grow (by kernel_rfl) (by kernel_rfl) (fun X hX => ?_)
              have hbX : Below wr.heap.size wr X := by rw [hX]; exact bl_refl _
              have q0 := Gw.cell (cell_later hbX y0)
              have q1 := Gw.cell (cell_later hbX y1)
              have HX := Lib.hid hX
              clear hX
              repeat (go_big_quiet_step (fail))
              refine wpGrow_nil (fun V6 hV => ?_)
              have hbV6 := bl_trans hbX hV
              have y0 := cell_later hbV6 y0
              have y1 := cell_later hbV6 y1
              clear hV hbX HX q0 q1
              go_upto_region 9 with fail
              refine wp_region_grow (by kernel_rfl) (by kernel_rfl) (fun X hX => ?_)
              have hbX : Below V6.heap.size V6 X := by rw [hX]; exact bl_refl _
              have q0 := Gw.cell (cell_later hbX y0)
              have q1 := Gw.cell (cell_later hbX y1)
              have HX := Lib.hid hX
              clear hX
              repeat (go_big_quiet_step (fail))
              refine wpGrow_nil (fun V9 hV => ?_)
              have hbV9 := bl_trans hbX hV
              have y0 := cell_later hbV9 y0
              have y1 := cell_later hbV9 y1
              clear hV hbX HX q0 q1
              have hB9 := bl_trans hbV6 hbV9
              have hst := Lib.hid (hst.out.below hB9)
              have hk := bl_trans hk0 hB9
              obtain ⟨V, hVV⟩ : ∃ W, W = V9 := ⟨_, rfl⟩
              subst hVV
              go_upto_region 11 with fail
              have e0 := y0
              have e1 := y1
              go_region_held3 (fun w' => w'.cell? ⟨wo.heap.size, 0, none⟩ = some (.string y.Name) ∧ w'.cell? ⟨wo.heap.size, 1, none⟩ = some (.int .i64 y.Value)) (refine ⟨cell_later (?_ : Below V.heap.size V _) e0, cell_later (?_ : Below V.heap.size V _) e1⟩ <;> (repeat' (first | assumption | exact bl_refl _ | refine bl_alloc ?_ _ | refine bl_drew ?_)))
                (first
                  | (refine step_appB rfl (.tmp 47) (.tmp 50) _ _ rfl el_state (xs := ([] : List State)) (ys := M.take j) (w0 := V) rfl rfl ?_ ?_ ?_ (by omega) ?_; (first | (focus (refine Own.below (w := V.alloc (.cells #[] 26)) (Own.built V _ (Nat.le_refl _)) ?_; (repeat' (first | assumption | exact bl_refl _ | refine bl_alloc ?_ _ | refine bl_drew ?_)); done)) | (focus (refine Own.below (w := (V.alloc (.cells #[.string y.Name, .int .i64 y.Value] 26)).alloc (.cells #[] 26)) ?_ ?_; (focus (have hbu := Own.built (α := State) (V.alloc (.cells #[.string y.Name, .int .i64 y.Value] 26)) 26 (base := V.heap.size) (by simp); simpa using hbu)); (repeat' (first | assumption | exact bl_refl _ | refine bl_alloc ?_ _ | refine bl_drew ?_)); done))); (repeat' (first | assumption | exact bl_refl _ | refine bl_alloc ?_ _ | refine bl_drew ?_)); (exact hst.out.below (by repeat' (first | assumption | exact bl_refl _ | refine bl_alloc ?_ _ | refine bl_drew ?_))); (intro A1 c1 V1 ho1 hB1 hg1))
                  | (refine step_appB rfl (.tmp 51) (.tmp 53) _ _ rfl el_state (xs := M.take j) (ys := [y]) (w0 := V) rfl rfl ?_ ?_ ?_ (by omega) ?_; (first | (simpa using ho1) | (exact Own.alloc (by simpa using ho1) _)); (repeat' (first | assumption | exact bl_refl _ | refine bl_alloc ?_ _ | refine bl_drew ?_)); (refine sl_state1 ?_ ?_ <;> (first | (focus (go_simp; done)) | (focus (refine (hg1.cell_far _ ?_ ?_).trans ?_ <;> first | (simp; done) | (simp [Value.ownBlock]; done) | (go_simp; done) | (simp [Value.ownBlock]; omega))))); (intro A2 c2 V2 ho2 hB2 hg2))
                  | (refine step_appB rfl (.tmp 54) (.tmp 55) _ _ rfl el_state (xs := M.take j ++ [y]) (ys := M.drop j) (w0 := V) rfl rfl ho2 hB2 ((hsd V _).out.below hB2) (by omega) ?_; (intro A3 c3 V3 ho3 hB3 hg3)))
              all_goals
                (try simp only [Nat.zero_add] at ho3)
                (try simp only [Nat.add_zero] at ho3)
                rw [← HY.out] at ho3
                go_wp2
                all_goals (go_roundw; (case rel => exact ⟨i + 1, _, c3, A3, by omega, by go_num, rfl, by omega, ho3.mono hk.size, bl_trans hk hB3⟩); (case measure => simp [intOf]; omega))
            · have hck : ¬ c' = j := fun e => hcj e.symm
              clear ho hsl
              go_wp2_with fail
              refine wp_region_grow (by kernel_rfl) (by kernel_rfl) (fun X hX => ?_)
              have hbX : Below wr.heap.size wr X := by rw [hX]; exact bl_refl _
              have q0 := Gw.cell (cell_later hbX y0)
              have q1 := Gw.cell (cell_later hbX y1)
              have HX := Lib.hid hX
              clear hX
              repeat (go_big_quiet_step (fail))
              refine wpGrow_nil (fun V6 hV => ?_)
              have hbV6 := bl_trans hbX hV
              have y0 := cell_later hbV6 y0
              have y1 := cell_later hbV6 y1
              clear hV hbX HX q0 q1
              go_upto_region 9 with fail
              refine wp_region_grow (by kernel_rfl) (by kernel_rfl) (fun X hX => ?_)
              have hbX : Below V6.heap.size V6 X := by rw [hX]; exact bl_refl _
              have q0 := Gw.cell (cell_later hbX y0)
              have q1 := Gw.cell (cell_later hbX y1)
              have HX := Lib.hid hX
              clear hX
              repeat (go_big_quiet_step (fail))
              refine wpGrow_nil (fun V9 hV => ?_)
              have hbV9 := bl_trans hbX hV
              have y0 := cell_later hbV9 y0
              have y1 := cell_later hbV9 y1
              clear hV hbX HX q0 q1
              have hB9 := bl_trans hbV6 hbV9
              have hst := Lib.hid (hst.out.below hB9)
              have hk := bl_trans hk0 hB9
              obtain ⟨V, hVV⟩ : ∃ W, W = V9 := ⟨_, rfl⟩
              subst hVV
              go_upto_region 11 with fail
              have e0 := y0
              have e1 := y1
              go_region_held3 (fun w' => w'.cell? ⟨wo.heap.size, 0, none⟩ = some (.string y.Name) ∧ w'.cell? ⟨wo.heap.size, 1, none⟩ = some (.int .i64 y.Value)) (refine ⟨cell_later (?_ : Below V.heap.size V _) e0, cell_later (?_ : Below V.heap.size V _) e1⟩ <;> (repeat' (first | assumption | exact bl_refl _ | refine bl_alloc ?_ _ | refine bl_drew ?_)))
                (first
                  | (refine step_appB rfl (.tmp 47) (.tmp 50) _ _ rfl el_state (xs := ([] : List State)) (ys := M.take j) (w0 := V) rfl rfl ?_ ?_ ?_ (by omega) ?_; (first | (focus (refine Own.below (w := V.alloc (.cells #[] 26)) (Own.built V _ (Nat.le_refl _)) ?_; (repeat' (first | assumption | exact bl_refl _ | refine bl_alloc ?_ _ | refine bl_drew ?_)); done)) | (focus (refine Own.below (w := (V.alloc (.cells #[.string y.Name, .int .i64 y.Value] 26)).alloc (.cells #[] 26)) ?_ ?_; (focus (have hbu := Own.built (α := State) (V.alloc (.cells #[.string y.Name, .int .i64 y.Value] 26)) 26 (base := V.heap.size) (by simp); simpa using hbu)); (repeat' (first | assumption | exact bl_refl _ | refine bl_alloc ?_ _ | refine bl_drew ?_)); done))); (repeat' (first | assumption | exact bl_refl _ | refine bl_alloc ?_ _ | refine bl_drew ?_)); (exact hst.out.below (by repeat' (first | assumption | exact bl_refl _ | refine bl_alloc ?_ _ | refine bl_drew ?_))); (intro A1 c1 V1 ho1 hB1 hg1))
                  | (refine step_appB rfl (.tmp 51) (.tmp 53) _ _ rfl el_state (xs := M.take j) (ys := [y]) (w0 := V) rfl rfl ?_ ?_ ?_ (by omega) ?_; (first | (simpa using ho1) | (exact Own.alloc (by simpa using ho1) _)); (repeat' (first | assumption | exact bl_refl _ | refine bl_alloc ?_ _ | refine bl_drew ?_)); (refine sl_state1 ?_ ?_ <;> (first | (focus (go_simp; done)) | (focus (refine (hg1.cell_far _ ?_ ?_).trans ?_ <;> first | (simp; done) | (simp [Value.ownBlock]; done) | (go_simp; done) | (simp [Value.ownBlock]; omega))))); (intro A2 c2 V2 ho2 hB2 hg2))
                  | (refine step_appB rfl (.tmp 54) (.tmp 55) _ _ rfl el_state (xs := M.take j ++ [y]) (ys := M.drop j) (w0 := V) rfl rfl ho2 hB2 ((hsd V _).out.below hB2) (by omega) ?_; (intro A3 c3 V3 ho3 hB3 hg3)))
              all_goals
                (try simp only [Nat.zero_add] at ho3)
                (try simp only [Nat.add_zero] at ho3)
                rw [← HY.out] at ho3
                go_wp2
                all_goals (go_roundw; (case rel => exact ⟨i + 1, _, c3, A3, by omega, by go_num, rfl, by omega, ho3.mono hk.size, bl_trans hk hB3⟩); (case measure => simp [intOf]; omega))
    · obtain hin2 : i = n := by omega
      have hfl : l.take i = l := List.take_of_length_le (by rw [HL.out]; omega)
      rw [hfl] at ho
      clear hs
      go_wp2
      go_ret
      exact retOwn_mk ho.sl.1 ho hb

end Go.Proofs.YtenlbeghjabpkaaGreatDoor

namespace Go.Proofs.YtenlbeghjabpkaaGreatDoor
open Go.RowKit

theorem not_less {x y : State} (h : 0 ≤ cmpN x y) : stLess x y = false := by
  cases h2 : stLess x y with
  | false => rfl
  | true => have := (cmpN_lt x y).2 h2; omega
theorem upd_found {xs : List State} {s : State} {k n : Nat} (hl : xs.length = n) (hk : k < n) (h1 : ∀ j, j < k → cmpN (nth xs j) s < 0) (h2 : ∀ j, k ≤ j → j < n → 0 ≤ cmpN (nth xs j) s) (h3 : cmpN (nth xs k) s = 0) : updS xs s = xs.set k s := by
  rw [upd_same hl hk (fun j hj => (cmpN_lt _ _).1 (h1 j hj)) (not_less (h2 k (Nat.le_refl _) hk)) (by unfold sameN; rw [(cmpN_zero _ _).1 h3]; simp)]
  rw [List.set_eq_take_append_cons_drop, if_pos (by omega), List.append_assoc]; rfl
theorem upd_ins {xs : List State} {s : State} {k n : Nat} (hl : xs.length = n) (hk : k ≤ n) (h1 : ∀ j, j < k → cmpN (nth xs j) s < 0) (h2 : ∀ j, k ≤ j → j < n → 0 ≤ cmpN (nth xs j) s) (h3 : k < n → ¬ cmpN (nth xs k) s = 0) : updS xs s = insAt xs k s := by
  rw [upd_new hl hk (fun j hj => (cmpN_lt _ _).1 (h1 j hj)) (fun h => not_less (h2 k (Nat.le_refl _) h)) (fun h => by
    cases h4 : sameN (nth xs k) s with
    | false => rfl
    | true => exact absurd ((cmpN_zero _ _).2 (eq_of_beq h4)) (h3 h))]
  unfold insAt
  rw [List.append_assoc]; rfl
set_option maxRecDepth 100000 in
set_option maxHeartbeats 8000000 in
theorem lastStates_any (l : List State) (A : Option Addr) (n c : Nat) (w : World) (hn : n ≤ 1048576) (hs : Sl w A n l) :
    Calls Tryz.prog 33 #[.slice A n c] w (RetOwn w 26 (knownL l)) := by
  have HL := Lib.hid hs.1
  go_enter Tryz.func33, Tryz.ntmps33
  go_wp2
  go_loopw [3, 10] (fun v iv wr => ∃ (i q c' : Nat) (A' : Option Addr), i ≤ n ∧ iv = .int .i64 i ∧ v = .slice A' q c' ∧ q ≤ i ∧ Own wr w.heap.size 26 (.slice A' q c') (knownL (l.take i)) ∧ Below w.heap.size w wr) (fun _ iv _ => n - (intOf iv).toNat)
  case atStart => exact ⟨0, 0, 0, none, Nat.zero_le _, rfl, rfl, Nat.le_refl _, Own.nil _ _ _, bl_refl _⟩
  case round =>
    obtain ⟨i, q, c', A', hin, rfl, rfl, hq, ho, hb⟩ := hrel
    by_cases hlt : i < n
    · obtain ⟨b, o, rfl, hbz, c0, c1⟩ := (hs.below hb).state hlt
      clear hs
      have hnx := known_next (l := l) (k := i) (by rw [HL.out]; exact hlt)
      have hsr := known_srt (l.take i)
      obtain ⟨M, hM⟩ : ∃ M, M = knownL (l.take i) := ⟨_, rfl⟩
      obtain ⟨y, hy⟩ : ∃ y, y = nth l i := ⟨_, rfl⟩
      rw [← hM] at ho hnx hsr
      rw [← hy] at c0 c1 hnx
      have HN := Lib.hid hnx
      have HS := Lib.hid hsr
      clear hM hy hnx hsr
      have HM := Lib.hid ho.sl.1
      obtain ⟨hqc, hcm⟩ := ho.cap
      unfold maxLen at hcm
      go_wp2_with fail
      refine (searchFunc_state M A' q c' y _ #[] (fun x => cmpN x y) _ (by omega) (ho.sl.below (bl_alloc (bl_refl _) _)) enters_last (srt_mono HS.out y HM.out) (fun x _ W => lastCmp_any x y W)).mono ?_
      rintro e V ⟨k, rfl, hkq, hg, hb1⟩
      have y0 : V.cell? ⟨wr.heap.size, 0, none⟩ = some (.string y.Name) := cell_later hb1 (by go_simp)
      have y1 : V.cell? ⟨wr.heap.size, 1, none⟩ = some (.int .i64 y.Value) := cell_later hb1 (by go_simp)
      have hB1 := bl_trans (a := wr) (bl_alloc (bl_refl _) _) hb1
      have hk1 := bl_trans hb hB1
      have hoV := ho.below hB1
      clear hb1 hB1 ho c0 c1
      by_cases hin2 : k < q ∧ cmpN (nth M k) y = 0
      · obtain ⟨hkq2, hz⟩ := hin2
        have HU : Hid (knownL (l.take (i + 1)) = M.set k y) := by rw [Hid, HN.out]; exact upd_found HM.out hkq2 hg.1 hg.2 hz
        have hfd : (decide (k < q) && decide (cmpN (nth M k) y = 0)) = true := by simp [hkq2, hz]
        rw [hfd]
        clear hz hfd hg
        obtain ⟨g, rfl⟩ := hoV.form (by omega)
        have d0 : V.cell? ⟨g, k * 2, none⟩ = some (.string (nth M k).Name) := hoV.cellAt hkq2 0 _ rfl
        have d1 : V.cell? ⟨g, k * 2 + 1, none⟩ = some (.int .i64 (nth M k).Value) := hoV.cellAt hkq2 1 _ rfl
        have f0 := hoV.frozenAt (k * 2)
        have f1 := hoV.frozenAt (k * 2 + 1)
        have hgb : w.heap.size ≤ g := (hoV.lt g rfl).1
        have HO := Lib.hid (hoV.put hkq2 y)
        clear hoV
        go_wp2
        go_roundw
        case rel => exact ⟨i + 1, q, c', some ⟨g, 0, none⟩, by omega, by go_num, rfl, by omega, by rw [HU.out]; exact HO.out, bl_set (bl_set hk1 hgb _) hgb _⟩
        case measure => simp [intOf]; omega
      · have HU : Hid (knownL (l.take (i + 1)) = insAt M k y) := by rw [Hid, HN.out]; exact upd_ins HM.out hkq hg.1 hg.2 (fun h hz => hin2 ⟨h, hz⟩)
        have hfd : (decide (k < q) && decide (cmpN (nth M k) y = 0)) = false := by
          rw [Bool.and_eq_false_iff, decide_eq_false_iff_not, decide_eq_false_iff_not]
          by_cases h : k < q
          · exact .inr (fun hz => hin2 ⟨h, hz⟩)
          · exact .inl h
        rw [hfd]
        clear hfd hg hin2
        go_wp2_with fail
        refine (insert_state M A' q c' k w.heap.size _ _ y _ (by omega) hkq (hoV.alloc _) (by have := hk1.size; simp only [World.size_alloc]; omega) (by simp only [World.alloc, Array.getElem?_push_size]; rfl) (fun g hgA hgv => ?_)).mono ?_
        focus (have := (hoV.lt g (by rw [hgA]; rfl)).2; omega)
        rintro e V2 ⟨A2, c2, rfl, ho2, hg2⟩
        have hk2 := bl_grown (bl_alloc hk1 _) hg2 (fun k hk => (hoV.lt k hk).1)
        clear hg2 hoV
        go_wp2
        go_roundw
        case rel => exact ⟨i + 1, q + 1, c2, A2, by omega, by go_num, rfl, by omega, by rw [HU.out]; exact ho2, hk2⟩
        case measure => simp [intOf]; omega
    · obtain hin2 : i = n := by omega
      have hfl : l.take i = l := List.take_of_length_le (by rw [HL.out]; omega)
      rw [hfl] at ho
      clear hs
      go_wp2
      go_ret
      exact retOwn_mk ho.sl.1 ho hb

end Go.Proofs.YtenlbeghjabpkaaGreatDoor

namespace Go.Proofs.YtenlbeghjabpkaaGreatDoor
open Go.RowKit

noncomputable def ksF (d : Diary) : List State × Bool := if openB d.Safe d.Open then (knownL (statesB d.Safe d.Open), true) else ([], false)
theorem ksF_yes {d : Diary} (h : openB d.Safe d.Open = true) : ksF d = (knownL (statesB d.Safe d.Open), true) := by unfold ksF; rw [if_pos h]
theorem ksF_no {d : Diary} (h : openB d.Safe d.Open = false) : ksF d = ([], false) := by unfold ksF; rw [if_neg (by rw [h]; exact Bool.false_ne_true)]
theorem ksF_len (d : Diary) : (ksF d).1.length ≤ 40 := by
  unfold ksF; split
  · have h1 := states_len d.Safe d.Open; have h2 := known_len (statesB d.Safe d.Open); simp only []; omega
  · simp
set_option maxHeartbeats 1000000 in
theorem specKnownStates_any (d : Diary) (w : World) (hz : d.Safe.size + d.Open.size ≤ 1048576) :
    Calls Tryz.prog 10 #[.agg #[.string d.Safe, .string d.Open]] w (RetOwn2 w 26 (ksF d)) := by
  go_enter Tryz.func10, Tryz.ntmps10
  have hk0 := bl_refl w
  go_wp2_with fail
  refine (jnOpen_any d _ (by omega) (by omega)).mono ?_
  rintro e V1 ⟨rfl, hb1⟩
  have hB1 := bl_trans (a := w) (by repeat' (first | exact bl_refl _ | refine bl_alloc ?_ _ | refine bl_drew ?_ | refine bl_drewN ?_ _ | refine bl_set ?_ ?_ _ | (simp; done) | (simp; omega))) hb1
  have hk1 := bl_trans hk0 hB1
  have z1 : Hid (w.heap.size + 1 ≤ V1.heap.size) := by have := hb1.size; simp only [World.size_alloc] at this; exact (by omega : _)
  have ba_0_1 : V1.cell? ⟨w.heap.size, 0, none⟩ = some (.string d.Safe) := cell_later hb1 (by go_simp)
  have ba_1_1 : V1.cell? ⟨w.heap.size, 1, none⟩ = some (.string d.Open) := cell_later hb1 (by go_simp)
  have la_1 : w.heap.size < V1.heap.size := World.block_lt_of_cell? _ _ ba_0_1
  clear hb1
  cases h : openB d.Safe d.Open
  · have q := Lib.hid (ksF_no h)
    clear h
    go_wp2
    go_ret2
    exact retOwn2_mk q.out (Own.nil _ _ _) hk1
  · have q := Lib.hid (ksF_yes h)
    have h3 := h
    rw [open_spec] at h3
    simp only [Bool.and_eq_true, decide_eq_true_eq] at h3
    obtain ⟨⟨⟨s1, s2⟩, _⟩, _⟩ := h3
    clear h
    go_wp2_with fail
    refine (jnStates_any d _ s1 s2).mono ?_
    rintro e V2 ⟨A9, c9, rfl, ho9, hb2⟩
    have hB2 := bl_trans (a := V1) (bl_refl _) hb2
    have hk2 := bl_trans hk1 hB2
    have z2 := Lib.hid hB2.size
    have ba_0_2 : V2.cell? ⟨w.heap.size, 0, none⟩ = some (.string d.Safe) := cell_later hB2 ba_0_1
    have ba_1_2 : V2.cell? ⟨w.heap.size, 1, none⟩ = some (.string d.Open) := cell_later hB2 ba_1_1
    have la_2 : w.heap.size < V2.heap.size := World.block_lt_of_cell? _ _ ba_0_2
    clear ba_0_1 ba_1_1 la_1
    have hs9 := hk2.size
    clear hb2
    go_wp2_with fail
    refine (jnKnown_any _ _ _ _ _ (Nat.le_trans (states_len _ _) (by omega)) ho9.sl).mono ?_
    rintro e V3 ⟨A8, c8, rfl, ho8, hb3⟩
    have hk3 := bl_trans hk2 hb3
    clear hb3 ho9
    go_wp2
    go_ret2
    exact retOwn2_mk q.out (ho8.mono hk2.size) hk3
set_option maxHeartbeats 1000000 in
theorem implKnownStates_any (d : Diary) (w : World) (hz : d.Safe.size + d.Open.size ≤ 1048576) (he : Env w) :
    Calls Tryz.prog 9 #[.agg #[.string d.Safe, .string d.Open]] w (RetOwn2 w 26 (ksF d)) := by
  go_enter Tryz.func9, Tryz.ntmps9
  go_wp2_with fail
  refine (statesOf_any d _ (by omega) (by omega) (he.below (by repeat' (first | exact bl_refl _ | refine bl_alloc ?_ _ | refine bl_drew ?_)))).mono ?_
  rintro e V1 ⟨A1, c1, rfl, ho1, hb1⟩
  have hk1 := bl_trans (a := w) (by repeat' (first | exact bl_refl _ | refine bl_alloc ?_ _ | refine bl_drew ?_)) hb1
  clear hb1
  cases h : openB d.Safe d.Open
  · have q := Lib.hid (ksF_no h)
    rw [stF_no h] at ho1 ⊢
    clear h
    go_wp2
    go_ret2
    exact retOwn2_mk q.out (Own.nil _ _ _) hk1
  · have q := Lib.hid (ksF_yes h)
    rw [stF_yes h] at ho1 ⊢
    clear h
    go_wp2_with fail
    refine (lastStates_any _ _ _ _ _ (Nat.le_trans (states_len _ _) (by omega)) ho1.sl).mono ?_
    rintro e V3 ⟨A8, c8, rfl, ho8, hb3⟩
    have hk3 := bl_trans hk1 hb3
    clear hb3 ho1
    go_wp2
    go_ret2
    exact retOwn2_mk q.out (ho8.mono hk1.size) hk3

end Go.Proofs.YtenlbeghjabpkaaGreatDoor

namespace Go.Proofs.YtenlbeghjabpkaaGreatDoor
open Go.RowKit

theorem rd_ok (f : Nat) : ∀ (num : Int) (l : List UInt8) (x : State), x ∈ (rd f num l).1 → stateB x = true := by
  induction f with
  | zero => intro num l x h; simp [rd] at h
  | succ f ih =>
    intro num l x h
    cases hn : nlAt l with
    | none => rw [rd_stop hn] at h; simp at h
    | some n =>
      cases hp : parseB ⟨(l.take (n + 1)).toArray⟩ with
      | none => rw [rd_bad hn (fun p e => by rw [hp] at e; cases e)] at h; simp at h
      | some p =>
        by_cases hnum : p.1 = num
        · rw [rd_good hn (x := p.2) (by rw [hp, ← hnum])] at h
          simp only [List.mem_cons] at h
          rcases h with rfl | h
          · have h1 := (parseB_some hp).1
            simp only [okL, Bool.and_eq_true] at h1
            exact h1.2
          · exact ih _ _ _ h
        · rw [rd_bad hn (fun q e => by rw [hp] at e; injection e with e; rw [← e]; exact hnum)] at h; simp at h
theorem upd_mem {xs : List State} {s x : State} (h : x ∈ updS xs s) : x ∈ xs ∨ x = s := by
  unfold updS at h
  simp only [List.mem_append, List.mem_singleton] at h
  rcases h with (h | h) | h
  · exact .inl (List.mem_of_mem_take h)
  · exact .inr h
  · exact .inl (List.mem_of_mem_drop h)
theorem known_mem {l : List State} {x : State} (h : x ∈ knownL l) : x ∈ l := by
  have key : ∀ (l acc : List State), x ∈ l.foldl updS acc → x ∈ acc ∨ x ∈ l := by
    intro l
    induction l with
    | nil => intro acc h; exact .inl h
    | cons a l ih =>
      intro acc h
      rcases ih _ h with h | h
      · rcases upd_mem h with h | h
        · exact .inl h
        · exact .inr (by rw [h]; exact List.mem_cons_self)
      · exact .inr (List.mem_cons_of_mem _ h)
  rcases key l [] h with h | h
  · cases h
  · exact h
theorem known_ok {d : Diary} {i : Nat} (h : i < (knownL (statesB d.Safe d.Open)).length) : okL (i : Int) (nth (knownL (statesB d.Safe d.Open)) i) = true := by
  have h1 : stateB (nth (knownL (statesB d.Safe d.Open)) i) = true := rd_ok _ _ _ _ (known_mem (nth_mem h))
  have h2 := known_len (statesB d.Safe d.Open)
  have h3 := states_len d.Safe d.Open
  rw [okL, h1, inB_yes (by omega) (by omega)]; rfl
noncomputable def catN (l : List State) : Nat → ByteArray
  | 0 => ByteArray.empty
  | i + 1 => catN l i ++ lineB (i : Int) (nth l i)
theorem cat_len {l : List State} (h : ∀ i, i < l.length → okL (i : Int) (nth l i) = true) : ∀ i, i ≤ l.length → (catN l i).size ≤ 21 * i
  | 0, _ => Nat.le_refl 0
  | i + 1, hi => by
    have h1 := cat_len h i (by omega)
    have h2 := line_len (h i (by omega))
    rw [catN, ba_size_app]; omega
noncomputable def shF (d : Diary) : Diary × Bool := if openB d.Safe d.Open then (⟨catN (knownL (statesB d.Safe d.Open)) (knownL (statesB d.Safe d.Open)).length, ByteArray.empty⟩, true) else (⟨ByteArray.empty, ByteArray.empty⟩, false)
theorem shF_yes {d : Diary} (h : openB d.Safe d.Open = true) : shF d = (⟨catN (knownL (statesB d.Safe d.Open)) (knownL (statesB d.Safe d.Open)).length, ByteArray.empty⟩, true) := by unfold shF; rw [if_pos h]
theorem shF_no {d : Diary} (h : openB d.Safe d.Open = false) : shF d = (⟨ByteArray.empty, ByteArray.empty⟩, false) := by unfold shF; rw [if_neg (by rw [h]; exact Bool.false_ne_true)]
theorem shF_safe (d : Diary) : (shF d).1.Safe.size ≤ 840 := by
  unfold shF; split
  · have h1 := cat_len (l := knownL (statesB d.Safe d.Open)) (fun i hi => known_ok hi) _ (Nat.le_refl _)
    have h2 := known_len (statesB d.Safe d.Open)
    have h3 := states_len d.Safe d.Open
    simp only []; omega
  · exact Nat.zero_le _
theorem shF_open (d : Diary) : (shF d).1.Open.size ≤ 840 := by
  unfold shF; split <;> exact Nat.zero_le _

end Go.Proofs.YtenlbeghjabpkaaGreatDoor

namespace Go.Proofs.YtenlbeghjabpkaaGreatDoor
open Go.RowKit

set_option maxRecDepth 100000 in
set_option maxHeartbeats 8000000 in
theorem specShortenDiary_any (d : Diary) (w : World) (hz : d.Safe.size + d.Open.size ≤ 1048576) :
    Calls Tryz.prog 12 #[.agg #[.string d.Safe, .string d.Open]] w fun e w' => e = .returned (.tuple #[.agg #[.string (shF d).1.Safe, .string (shF d).1.Open], .bool (shF d).2]) ∧ Below w.heap.size w w' := by
  go_enter Tryz.func12, Tryz.ntmps12
  go_wp2_with fail
  refine (jnOpen_any d _ (by omega) (by omega)).mono ?_
  rintro e V1 ⟨rfl, hb1⟩
  have hk1 := bl_trans (a := w) (by repeat' (first | exact bl_refl _ | refine bl_alloc ?_ _ | refine bl_drew ?_ | refine bl_drewN ?_ _ | refine bl_set ?_ (by simp) _)) hb1
  have b0 : V1.cell? ⟨w.heap.size, 0, none⟩ = some (.string d.Safe) := cell_later hb1 (by go_simp)
  have b1 : V1.cell? ⟨w.heap.size, 1, none⟩ = some (.string d.Open) := cell_later hb1 (by go_simp)
  have r0 : V1.cell? ⟨w.heap.size + 1, 0, none⟩ = some (.string ⟨#[]⟩) := cell_later hb1 (by go_simp)
  have fr0 : V1.frozen? ⟨w.heap.size + 1, 0, none⟩ = false := frozen_later hb1 (by simp) (by go_simp)
  have r1 : V1.cell? ⟨w.heap.size + 1, 1, none⟩ = some (.string ⟨#[]⟩) := cell_later hb1 (by go_simp)
  have fr1 : V1.frozen? ⟨w.heap.size + 1, 1, none⟩ = false := frozen_later hb1 (by simp) (by go_simp)
  have la := World.block_lt_of_cell? _ _ b0
  have lr : w.heap.size + 1 < _ := World.block_lt_of_cell? _ _ r0
  clear hb1
  cases h : openB d.Safe d.Open
  · have q := Lib.hid (shF_no h)
    clear h
    go_wp2
    refine bodyPost_ret (v := .tuple #[.agg #[.string ByteArray.empty, .string ByteArray.empty], .bool false]) (by simp [results, Tryz.results12, go_sem, r0, r1]; try rfl) rfl ?_
    exact ⟨ret_db q.out, (by repeat' (first | exact hk1 | refine bl_alloc ?_ _ | refine bl_drew ?_ | refine bl_drewN ?_ _ | refine bl_set ?_ (by simp only []; omega) _))⟩
  · have q := Lib.hid (shF_yes h)
    have h3 := h
    rw [open_spec] at h3
    simp only [Bool.and_eq_true, decide_eq_true_eq] at h3
    obtain ⟨⟨⟨s1, s2⟩, _⟩, _⟩ := h3
    clear h
    go_wp2_with fail
    refine (jnStates_any d _ s1 s2).mono ?_
    rintro e V2 ⟨A2, c2, rfl, ho2, hb⟩
    have m0 : V2.cell? ⟨V1.heap.size, 0, none⟩ = some (.string ⟨#[]⟩) := cell_later hb (by go_simp)
    have m1 : V2.cell? ⟨V1.heap.size, 1, none⟩ = some (.string ⟨#[]⟩) := cell_later hb (by go_simp)
    have fm0 : V2.frozen? ⟨V1.heap.size, 0, none⟩ = false := frozen_later hb (by simp) (by go_simp)
    have fm1 : V2.frozen? ⟨V1.heap.size, 1, none⟩ = false := frozen_later hb (by simp) (by go_simp)
    have hB := bl_trans (a := V1) (by repeat' (first | exact bl_refl _ | refine bl_alloc ?_ _ | refine bl_drew ?_ | refine bl_drewN ?_ _ | refine bl_set ?_ (by simp) _)) hb
    have hk2 := bl_trans hk1 hB
    have r0 := cell_later hB r0
    have r1 := cell_later hB r1
    have fr0 := frozen_later hB lr fr0
    have fr1 := frozen_later hB lr fr1
    have lr : w.heap.size + 1 < _ := World.block_lt_of_cell? _ _ r0
    have lm : V1.heap.size < _ := World.block_lt_of_cell? _ _ m0
    have lV := hB.size
    clear hb hB b0 b1
    go_wp2_with fail
    refine (jnKnown_any _ _ _ _ _ (Nat.le_trans (states_len _ _) (by omega)) ho2.sl).mono ?_
    rintro e V3 ⟨A8, c8, rfl, ho8, hb⟩
    have hB := hb
    have m0 := cell_later hB m0
    have m1 := cell_later hB m1
    have fm0 := frozen_later hB lm fm0
    have fm1 := frozen_later hB lm fm1
    have r0 := cell_later hB r0
    have r1 := cell_later hB r1
    have fr0 := frozen_later hB lr fr0
    have fr1 := frozen_later hB lr fr1
    have hk3 := bl_trans hk2 hB
    clear hb hB ho2
    have hl8 := known_len (statesB d.Safe d.Open)
    have hl40 := states_len d.Safe d.Open
    have hokk : ∀ i : Nat, i < (knownL (statesB d.Safe d.Open)).length → okL (i : Int) (nth (knownL (statesB d.Safe d.Open)) i) = true := fun i hi => known_ok hi
    have hcat := cat_len hokk
    have h10 := hk1.size
    have hap : ∀ k, k ∈ (Value.ownBlock (.slice A8 (knownL (statesB d.Safe d.Open)).length c8)).toList → k ∉ [V1.heap.size] := fun k hk e => by have := (ho8.lies k hk).1; rw [List.mem_singleton] at e; skip; omega
    obtain ⟨K, hK⟩ : ∃ K, K = knownL (statesB d.Safe d.Open) := ⟨_, rfl⟩
    rw [← hK] at ho8 hl8 hokk hcat hap q ⊢
    obtain ⟨N, hN⟩ : ∃ N, N = K.length := ⟨_, rfl⟩
    rw [← hN] at ho8 hl8 hap hokk hcat ⊢
    have HQ : Hid (shF d = (⟨catN K N, ByteArray.empty⟩, true)) := by rw [Hid, q.out, hN]
    clear hK hN q
    have HOK := Lib.hid hokk
    have HCAT := Lib.hid hcat
    have HAP := Lib.hid hap
    clear hokk hcat hap
    have hr1 : w.heap.size + 1 ∉ [V1.heap.size] := by rw [List.mem_singleton]; omega
    have hne : ¬ (w.heap.size + 1 = V1.heap.size) := by omega
    have hne2 : ¬ (V1.heap.size = w.heap.size + 1) := by omega
    go_wp2
    go_loopw [16] (fun iv wr => ∃ i : Nat, i ≤ N ∧ iv = .int .i64 i ∧ OnlyF [V1.heap.size] V3 wr ∧ Below w.heap.size w wr ∧ wr.cell? ⟨V1.heap.size, 0, none⟩ = some (.string (catN K i)) ∧ wr.cell? ⟨V1.heap.size, 1, none⟩ = some (.string ⟨#[]⟩) ∧ wr.frozen? ⟨V1.heap.size, 0, none⟩ = false ∧ wr.frozen? ⟨V1.heap.size, 1, none⟩ = false ∧ wr.cell? ⟨w.heap.size + 1, 0, none⟩ = some (.string ⟨#[]⟩) ∧ wr.cell? ⟨w.heap.size + 1, 1, none⟩ = some (.string ⟨#[]⟩) ∧ wr.frozen? ⟨w.heap.size + 1, 0, none⟩ = false ∧ wr.frozen? ⟨w.heap.size + 1, 1, none⟩ = false) (fun iv _ => N - (intOf iv).toNat)
    case atStart => exact ⟨0, Nat.zero_le _, rfl, OnlyF.refl _ _, hk3, m0, m1, fm0, fm1, r0, r1, fr0, fr1⟩
    case round =>
      obtain ⟨i, hi, rfl, hof, hb, m0, m1, fm0, fm1, r0, r1, fr0, fr1⟩ := hrel
      by_cases hlt : i < N
      · have hoW := ho8.only hof HAP.out
        obtain ⟨b, o, rfl, hbz, c0, c1⟩ := hoW.sl.state hlt
        have hcs := HCAT.out i (by omega)
        have HOKi := Lib.hid (HOK.out i hlt)
        have hll := line_len HOKi.out
        have hadd : ¬ (9223372036854775807 < (catN K i).size + (lineB (i : Int) (nth K i)).size) := by omega
        have lm : V1.heap.size < _ := World.block_lt_of_cell? _ _ m0
        have lr : w.heap.size + 1 < _ := World.block_lt_of_cell? _ _ r0
        have hwm : ¬ (wr.heap.size = V1.heap.size) := by omega
        have hwr : ¬ (wr.heap.size = w.heap.size + 1) := by omega
        clear hoW ho8
        go_upto_region 7 with fail
        go_region_with (first | (go_at_call 32; refine (jnLine_any (i : Int) (nth K i) _ HOKi.out).mono ?_; rintro e V ⟨rfl, hbc⟩; have hE := bl_trans (a := wr) (by repeat' (first | exact bl_refl _ | refine bl_alloc ?_ _ | refine bl_drew ?_)) hbc; have m0 := cell_later hE m0; have m1 := cell_later hE m1; have r0 := cell_later hE r0; have r1 := cell_later hE r1; have fm0 := frozen_later hE lm fm0; have fm1 := frozen_later hE lm fm1; have fr0 := frozen_later hE lr fr0; have fr1 := frozen_later hE lr fr1))
        all_goals
          go_wp2
          go_roundw
          case rel => exact ⟨i + 1, by omega, by go_num, by repeat' (first | exact hof.trans (OnlyF.below hE) | refine OnlyF.set ?_ (List.mem_singleton.2 rfl) _ | refine OnlyF.drew ?_), by repeat' (first | exact bl_trans hb hE | refine bl_set ?_ (by simp only []; omega) _ | refine bl_drew ?_), by go_simp; try rfl, by go_simp, by go_simp, by go_simp, by go_simp, by go_simp, by go_simp, by go_simp⟩
          case measure => simp [intOf]; omega
      · obtain hiN : i = N := by omega
        subst hiN
        go_wp2
        refine bodyPost_ret (v := .tuple #[.agg #[.string (catN K i), .string ByteArray.empty], .bool true]) (by simp [results, Tryz.results12, go_sem, r0, r1]; try rfl) rfl ?_
        exact ⟨ret_db HQ.out, (by repeat' (first | exact hb | refine bl_alloc ?_ _ | refine bl_drew ?_ | refine bl_drewN ?_ _ | refine bl_set ?_ (by simp only []; omega) _))⟩

end Go.Proofs.YtenlbeghjabpkaaGreatDoor

namespace Go.Proofs.YtenlbeghjabpkaaGreatDoor
open Go.RowKit

set_option maxRecDepth 100000 in
set_option maxHeartbeats 8000000 in
theorem implShortenDiary_any (d : Diary) (w : World) (hz : d.Safe.size + d.Open.size ≤ 1048576) (he : Env w) :
    Calls Tryz.prog 11 #[.agg #[.string d.Safe, .string d.Open]] w fun e w' => e = .returned (.tuple #[.agg #[.string (shF d).1.Safe, .string (shF d).1.Open], .bool (shF d).2]) ∧ Below w.heap.size w w' := by
  go_enter Tryz.func11, Tryz.ntmps11
  go_wp2_with fail
  refine (statesOf_any d _ (by omega) (by omega) (he.below (by repeat' (first | exact bl_refl _ | refine bl_alloc ?_ _ | refine bl_drew ?_ | refine bl_drewN ?_ _ | refine bl_set ?_ (by simp) _)))).mono ?_
  rintro e V1 ⟨A1, c1, rfl, ho1, hb1⟩
  have hk1 := bl_trans (a := w) (by repeat' (first | exact bl_refl _ | refine bl_alloc ?_ _ | refine bl_drew ?_ | refine bl_drewN ?_ _ | refine bl_set ?_ (by simp) _)) hb1
  have r0 : V1.cell? ⟨w.heap.size + 1, 0, none⟩ = some (.string ⟨#[]⟩) := cell_later hb1 (by go_simp)
  have fr0 : V1.frozen? ⟨w.heap.size + 1, 0, none⟩ = false := frozen_later hb1 (by simp) (by go_simp)
  have r1 : V1.cell? ⟨w.heap.size + 1, 1, none⟩ = some (.string ⟨#[]⟩) := cell_later hb1 (by go_simp)
  have fr1 : V1.frozen? ⟨w.heap.size + 1, 1, none⟩ = false := frozen_later hb1 (by simp) (by go_simp)
  have lr : w.heap.size + 1 < _ := World.block_lt_of_cell? _ _ r0
  clear hb1
  cases h : openB d.Safe d.Open
  · have q := Lib.hid (shF_no h)
    rw [stF_no h] at ho1 ⊢
    clear h
    go_wp2
    refine bodyPost_ret (v := .tuple #[.agg #[.string ByteArray.empty, .string ByteArray.empty], .bool false]) (by simp [results, Tryz.results11, go_sem, r0, r1]; try rfl) rfl ?_
    exact ⟨ret_db q.out, (by repeat' (first | exact hk1 | refine bl_alloc ?_ _ | refine bl_drew ?_ | refine bl_drewN ?_ _ | refine bl_set ?_ (by simp only []; omega) _))⟩
  · have q := Lib.hid (shF_yes h)
    rw [stF_yes h] at ho1 ⊢
    clear h
    go_wp2_with fail
    refine (lastStates_any _ _ _ _ _ (Nat.le_trans (states_len _ _) (by omega)) (ho1.sl.below (by repeat' (first | exact bl_refl _ | refine bl_alloc ?_ _ | refine bl_drew ?_ | refine bl_drewN ?_ _ | refine bl_set ?_ (by simp) _)))).mono ?_
    rintro e V3 ⟨A8, c8, rfl, ho8, hb⟩
    have m0 : V3.cell? ⟨V1.heap.size, 0, none⟩ = some (.string ⟨#[]⟩) := cell_later hb (by go_simp)
    have m1 : V3.cell? ⟨V1.heap.size, 1, none⟩ = some (.string ⟨#[]⟩) := cell_later hb (by go_simp)
    have fm0 : V3.frozen? ⟨V1.heap.size, 0, none⟩ = false := frozen_later hb (by simp) (by go_simp)
    have fm1 : V3.frozen? ⟨V1.heap.size, 1, none⟩ = false := frozen_later hb (by simp) (by go_simp)
    have hB := bl_trans (a := V1) (by repeat' (first | exact bl_refl _ | refine bl_alloc ?_ _ | refine bl_drew ?_ | refine bl_drewN ?_ _ | refine bl_set ?_ (by simp) _)) hb
    have r0 := cell_later hB r0
    have r1 := cell_later hB r1
    have fr0 := frozen_later hB lr fr0
    have fr1 := frozen_later hB lr fr1
    have lm : V1.heap.size < _ := World.block_lt_of_cell? _ _ m0
    have hk3 := bl_trans hk1 hB
    have hin := he.below hk3
    clear hb hB ho1
    have hl8 := known_len (statesB d.Safe d.Open)
    have hl40 := states_len d.Safe d.Open
    have hokk : ∀ i : Nat, i < (knownL (statesB d.Safe d.Open)).length → okL (i : Int) (nth (knownL (statesB d.Safe d.Open)) i) = true := fun i hi => known_ok hi
    have hcat := cat_len hokk
    have h10 := hk1.size
    have hap : ∀ k, k ∈ (Value.ownBlock (.slice A8 (knownL (statesB d.Safe d.Open)).length c8)).toList → k ∉ [V1.heap.size] := fun k hk e => by have := (ho8.lies k hk).1; rw [List.mem_singleton] at e; simp only [World.size_alloc] at this; skip; omega
    obtain ⟨K, hK⟩ : ∃ K, K = knownL (statesB d.Safe d.Open) := ⟨_, rfl⟩
    rw [← hK] at ho8 hl8 hokk hcat hap q ⊢
    obtain ⟨N, hN⟩ : ∃ N, N = K.length := ⟨_, rfl⟩
    rw [← hN] at ho8 hl8 hap hokk hcat ⊢
    have HQ : Hid (shF d = (⟨catN K N, ByteArray.empty⟩, true)) := by rw [Hid, q.out, hN]
    clear hK hN q
    have HOK := Lib.hid hokk
    have HCAT := Lib.hid hcat
    have HAP := Lib.hid hap
    clear hokk hcat hap
    have hr1 : w.heap.size + 1 ∉ [V1.heap.size] := by rw [List.mem_singleton]; omega
    have hne : ¬ (w.heap.size + 1 = V1.heap.size) := by omega
    have hne2 : ¬ (V1.heap.size = w.heap.size + 1) := by omega
    go_wp2
    go_loopw [21] (fun iv wr => ∃ i : Nat, i ≤ N ∧ iv = .int .i64 i ∧ OnlyF [V1.heap.size] V3 wr ∧ Below w.heap.size w wr ∧ wr.cell? ⟨V1.heap.size, 0, none⟩ = some (.string (catN K i)) ∧ wr.cell? ⟨V1.heap.size, 1, none⟩ = some (.string ⟨#[]⟩) ∧ wr.frozen? ⟨V1.heap.size, 0, none⟩ = false ∧ wr.frozen? ⟨V1.heap.size, 1, none⟩ = false ∧ wr.cell? ⟨w.heap.size + 1, 0, none⟩ = some (.string ⟨#[]⟩) ∧ wr.cell? ⟨w.heap.size + 1, 1, none⟩ = some (.string ⟨#[]⟩) ∧ wr.frozen? ⟨w.heap.size + 1, 0, none⟩ = false ∧ wr.frozen? ⟨w.heap.size + 1, 1, none⟩ = false) (fun iv _ => N - (intOf iv).toNat)
    case atStart => exact ⟨0, Nat.zero_le _, rfl, OnlyF.refl _ _, hk3, m0, m1, fm0, fm1, r0, r1, fr0, fr1⟩
    case round =>
      obtain ⟨i, hi, rfl, hof, hb, m0, m1, fm0, fm1, r0, r1, fr0, fr1⟩ := hrel
      by_cases hlt : i < N
      · have hoW := ho8.only hof HAP.out
        obtain ⟨b, o, rfl, hbz, c0, c1⟩ := hoW.sl.state hlt
        have hcs := HCAT.out i (by omega)
        have HOKi := Lib.hid (HOK.out i hlt)
        have hll := line_len HOKi.out
        have hadd : ¬ (9223372036854775807 < (catN K i).size + (lineB (i : Int) (nth K i)).size) := by omega
        have lm : V1.heap.size < _ := World.block_lt_of_cell? _ _ m0
        have lr : w.heap.size + 1 < _ := World.block_lt_of_cell? _ _ r0
        have hwm : ¬ (wr.heap.size = V1.heap.size) := by omega
        have hwr : ¬ (wr.heap.size = w.heap.size + 1) := by omega
        have HT := (he.below hb).tab
        clear hoW ho8
        go_upto_region 8 with fail
        go_region_with (first | (go_at_call 27; refine (stateLine_any (i : Int) (nth K i) _ HOKi.out (HT.below (by repeat' (first | exact bl_refl _ | refine bl_alloc ?_ _ | refine bl_drew ?_)))).mono ?_; rintro e V ⟨rfl, hbc⟩; have hE := bl_trans (a := wr) (by repeat' (first | exact bl_refl _ | refine bl_alloc ?_ _ | refine bl_drew ?_)) hbc; have m0 := cell_later hE m0; have m1 := cell_later hE m1; have r0 := cell_later hE r0; have r1 := cell_later hE r1; have fm0 := frozen_later hE lm fm0; have fm1 := frozen_later hE lm fm1; have fr0 := frozen_later hE lr fr0; have fr1 := frozen_later hE lr fr1))
        all_goals
          go_wp2
          go_roundw
          case rel => exact ⟨i + 1, by omega, by go_num, by repeat' (first | exact hof.trans (OnlyF.below hE) | refine OnlyF.set ?_ (List.mem_singleton.2 rfl) _ | refine OnlyF.drew ?_), by repeat' (first | exact bl_trans hb hE | refine bl_set ?_ (by simp only []; omega) _ | refine bl_drew ?_), by go_simp; try rfl, by go_simp, by go_simp, by go_simp, by go_simp, by go_simp, by go_simp, by go_simp⟩
          case measure => simp [intOf]; omega
      · obtain hiN : i = N := by omega
        subst hiN
        go_wp2
        refine bodyPost_ret (v := .tuple #[.agg #[.string (catN K i), .string ByteArray.empty], .bool true]) (by simp [results, Tryz.results11, go_sem, r0, r1]; try rfl) rfl ?_
        exact ⟨ret_db HQ.out, (by repeat' (first | exact hb | refine bl_alloc ?_ _ | refine bl_drew ?_ | refine bl_drewN ?_ _ | refine bl_set ?_ (by simp only []; omega) _))⟩

end Go.Proofs.YtenlbeghjabpkaaGreatDoor

namespace Go.Proofs.YtenlbeghjabpkaaGreatDoor
open Go.RowKit

/-- what was read is read again from just those bytes -/
theorem rd_self (f : Nat) : ∀ (num : Int) (l : List UInt8), rd f num (l.take (rd f num l).2) = rd f num l := by
  induction f with
  | zero => intro num l; rfl
  | succ f ih =>
    intro num l
    cases hn : nlAt l with
    | none => rw [rd_stop hn]; exact rd_stop rfl
    | some n =>
      have h1 := (nlAt_some hn).1
      by_cases hp : ∃ x, parseB ⟨(l.take (n + 1)).toArray⟩ = some (num, x)
      · obtain ⟨x, hx⟩ := hp
        rw [rd_good hn hx]
        have e1 : l.take (n + 1 + (rd f (num + 1) (l.drop (n + 1))).2) = l.take (n + 1) ++ (l.drop (n + 1)).take (rd f (num + 1) (l.drop (n + 1))).2 := by rw [List.take_add]
        have hl : (l.take (n + 1)).length = n + 1 := by rw [List.length_take]; omega
        have hn' : nlAt (l.take (n + 1)) = some n := by
          obtain ⟨_, h2, h3⟩ := nlAt_some hn
          refine nlAt_mk (by rw [List.getElem?_take_of_lt (by omega)]; exact h2) fun k hk => by rw [List.getElem?_take_of_lt (by omega)]; exact h3 k hk
        rw [e1, rd_good (nlAt_app _ hn') (by rw [List.take_append_of_le_length (by omega), List.take_of_length_le (by omega)]; exact hx), List.drop_append_of_le_length (by omega), List.drop_eq_nil_of_le (by omega), List.nil_append, ih]
      · rw [rd_bad hn (fun p hq e => hp ⟨p.2, by rw [hq, ← e]⟩)]; exact rd_stop rfl
theorem ba_take (s : ByteArray) (m : Nat) : (s.extract 0 m).data.toList = s.data.toList.take m := by
  simp
theorem rd_nil (f : Nat) (num : Int) : rd f num [] = ([], 0) := rd_stop rfl
theorem open_nil {s : ByteArray} (h : (rd 40 0 s.data.toList).2 = s.size) : openB s ByteArray.empty = true := by
  unfold openB
  have e : ByteArray.empty.data.toList = [] := rfl
  rw [e, rd_nil]
  simp [h]
theorem states_nil (s : ByteArray) : statesB s ByteArray.empty = (rd 40 0 s.data.toList).1 := by
  unfold statesB
  rw [ByteArray.append_empty]
theorem open_size {s o : ByteArray} (h : openB s o = true) : (rd 40 0 s.data.toList).2 = s.size ∧ (rd 40 0 (s ++ o).data.toList).2 = s.size + o.size := by
  unfold openB at h
  simp only [Bool.and_eq_true, decide_eq_true_eq] at h
  refine ⟨h.1, ?_⟩
  rw [open_all h.1, h.2]
/-- the recovered diary -/
theorem rec_open (s : ByteArray) : openB (s.extract 0 (rd 40 0 s.data.toList).2) ByteArray.empty = true := by
  refine open_nil ?_
  rw [ba_take, rd_self, ByteArray.size_extract]
  have := (rd_le 40 0 s.data.toList).2.1
  rw [ba_len] at this
  omega
theorem rec_states (s : ByteArray) : statesB (s.extract 0 (rd 40 0 s.data.toList).2) ByteArray.empty = (rd 40 0 s.data.toList).1 := by
  rw [states_nil, ba_take, rd_self]
theorem flush_open {s o : ByteArray} (h : openB s o = true) : openB (s ++ o) ByteArray.empty = true := open_nil (by rw [(open_size h).2, ByteArray.size_append])
theorem flush_states (s o : ByteArray) : statesB (s ++ o) ByteArray.empty = statesB s o := by rw [states_nil]; rfl
/-- what a crash leaves -/
theorem kept_take {d : Diary} {k : Int} : (rd 40 0 (d.Safe ++ d.Open.extract 0 k.toNat).data.toList).1 = (statesB d.Safe d.Open).take (keptN d k) := by
  have e : (d.Safe ++ d.Open.extract 0 k.toNat).data.toList = (d.Safe ++ d.Open).data.toList.take (d.Safe.size + k.toNat) := by
    rw [ba_app, ba_app, ba_take, ← ba_len d.Safe, List.take_length_add_append]
  have h := rd_take 40 0 (d.Safe ++ d.Open).data.toList (d.Safe.size + k.toNat)
  rw [← e] at h
  unfold keptN statesB
  exact (List.prefix_iff_eq_take.1 h)
theorem crash_safe {d : Diary} {k : Int} (h : openB d.Safe d.Open = true) : d.Safe.size ≤ (rd 40 0 (d.Safe ++ d.Open.extract 0 k.toNat).data.toList).2 := by
  rw [open_all (open_size h).1]
  exact Nat.le_add_right _ _
theorem crash_all {d : Diary} {k : Int} (hk : k = d.Open.size) : (statesB d.Safe d.Open).drop (keptN d k) = [] := by
  have e : d.Open.extract 0 k.toNat = d.Open := by subst hk; simp
  unfold keptN
  rw [e]
  exact List.drop_eq_nil_of_le (Nat.le_refl _)
end Go.Proofs.YtenlbeghjabpkaaGreatDoor

namespace Go.Proofs.YtenlbeghjabpkaaGreatDoor
open Go.RowKit

/-- a line behind -/
theorem rd_line {f : Nat} {n : Int} {x : State} (h : okL n x = true) : rd (f + 1) n (lineB n x).data.toList = ([x], (lineB n x).size) := by
  obtain ⟨l, hl, hn⟩ := line_nl h
  have h1 : nlAt (lineB n x).data.toList = some l.length := by
    rw [hl]
    refine nlAt_mk (by simp) fun k hk e => ?_
    rw [List.getElem?_append_left hk] at e
    exact hn (List.mem_of_getElem? e)
  have h2 : (lineB n x).data.toList.take (l.length + 1) = (lineB n x).data.toList := by rw [hl]; exact List.take_of_length_le (by simp)
  have h3 : (lineB n x).data.toList.drop (l.length + 1) = [] := by rw [hl]; exact List.drop_eq_nil_of_le (by simp)
  have h4 : l.length + 1 = (lineB n x).size := by rw [← ba_len, hl, List.length_append]; rfl
  rw [rd_good h1 (x := x) (by rw [h2]; exact parseB_line h), h3, rd_nil, Nat.add_zero, h4]
theorem rd_snoc {L : ByteArray} {a : List State} {x : State} (h : rd 40 0 L.data.toList = (a, L.size)) (hok : okL (a.length : Int) x = true) (hl : a.length < 40) :
    rd 40 0 (L ++ lineB (a.length : Int) x).data.toList = (a ++ [x], (L ++ lineB (a.length : Int) x).size) := by
  rw [ba_app, rd_append 40 0 L.data.toList _ a (by rw [ba_len]; exact h), Int.zero_add]
  obtain ⟨g, hg⟩ : ∃ g, 40 - a.length = g + 1 := ⟨39 - a.length, by omega⟩
  rw [hg, rd_line hok, ba_len, ByteArray.size_append]
theorem write_open {d : Diary} {x : State} (h : openB d.Safe d.Open = true) (hx : stateB x = true) (hl : (statesB d.Safe d.Open).length < 40) :
    openB d.Safe (d.Open ++ lineB ((statesB d.Safe d.Open).length : Int) x) = true ∧ statesB d.Safe (d.Open ++ lineB ((statesB d.Safe d.Open).length : Int) x) = statesB d.Safe d.Open ++ [x] := by
  have hok : okL ((statesB d.Safe d.Open).length : Int) x = true := by unfold okL; rw [hx, inB_yes (by omega) (by omega)]; rfl
  obtain ⟨h1, h2⟩ := open_size h
  have h3 : rd 40 0 (d.Safe ++ d.Open).data.toList = (statesB d.Safe d.Open, (d.Safe ++ d.Open).size) := Prod.ext rfl (by rw [h2, ByteArray.size_append])
  have h4 := rd_snoc h3 hok hl
  rw [ByteArray.append_assoc] at h4
  constructor
  · have h5 : (rd 40 0 (d.Safe ++ (d.Open ++ lineB ((statesB d.Safe d.Open).length : Int) x)).data.toList).2 = d.Safe.size + (d.Open ++ lineB ((statesB d.Safe d.Open).length : Int) x).size := by rw [h4]; rw [ByteArray.size_append]
    unfold openB
    rw [open_all h1] at h5
    simp only [Bool.and_eq_true, decide_eq_true_eq]
    exact ⟨h1, by simp only at h5; omega⟩
  · show (rd 40 0 (d.Safe ++ (d.Open ++ lineB ((statesB d.Safe d.Open).length : Int) x)).data.toList).1 = _
    rw [h4]
/-- the shortened text -/
theorem cat_rd {l : List State} (h : ∀ i, i < l.length → okL (i : Int) (nth l i) = true) (hl : l.length ≤ 40) : ∀ i, i ≤ l.length → rd 40 0 (catN l i).data.toList = (l.take i, (catN l i).size)
  | 0, _ => by
    show rd 40 0 (ByteArray.empty).data.toList = _
    exact rd_nil 40 0
  | i + 1, hi => by
    have ih := cat_rd h hl i (by omega)
    have e : (l.take i).length = i := by rw [List.length_take]; omega
    have h2 := rd_snoc (x := nth l i) ih (by rw [e]; exact h i (by omega)) (by omega)
    rw [e] at h2
    show rd 40 0 (catN l i ++ lineB (i : Int) (nth l i)).data.toList = (_, (catN l i ++ lineB (i : Int) (nth l i)).size)
    rw [h2]
    congr 1
    exact (take_succ (by omega)).symm
/-- known states, more -/
theorem sameN_iff {x y : State} : sameN x y = true ↔ x.Name = y.Name := by
  unfold sameN
  constructor
  · intro h; exact bytes_inj (by simpa using h)
  · intro h; rw [h]; simp
theorem sameN_comm (x y : State) : sameN x y = sameN y x := by
  cases h : sameN y x with
  | true => rw [sameN_iff] at h ⊢; exact h.symm
  | false =>
    cases h2 : sameN x y with
    | false => rfl
    | true => rw [sameN_iff] at h2; rw [← h, sameN_iff.2 h2.symm]
theorem nth_mem_ix {xs : List State} {x : State} (h : x ∈ xs) : ∃ i, i < xs.length ∧ nth xs i = x := by
  obtain ⟨i, hi, e⟩ := List.getElem_of_mem h
  exact ⟨i, hi, by rw [← e]; exact nth_get (List.getElem?_eq_getElem hi)⟩
theorem srt_names {xs : List State} (h : SrtS xs) {x y : State} (hx : x ∈ xs) (hy : y ∈ xs) (e : x.Name = y.Name) : x = y := by
  obtain ⟨i, hi, rfl⟩ := nth_mem_ix hx
  obtain ⟨j, hj, rfl⟩ := nth_mem_ix hy
  rcases Nat.lt_trichotomy i j with h1 | h1 | h1
  · have := srt_at h h1 hj
    unfold stLess at this
    rw [e, bl_irr] at this; cases this
  · rw [h1]
  · have := srt_at h h1 hi
    unfold stLess at this
    rw [e, bl_irr] at this; cases this
theorem upd_self (xs : List State) (s : State) : s ∈ updS xs s := by unfold updS; simp
theorem upd_only {xs : List State} {s x : State} (h : SrtS xs) (hx : x ∈ updS xs s) : x = s ∨ sameN x s = false := by
  cases e : sameN x s with
  | false => exact .inr rfl
  | true => exact .inl (srt_names (upd_srt h) hx (upd_self xs s) (sameN_iff.1 e))
theorem upd_keep {xs : List State} {s x : State} (hx : x ∈ xs) (hn : sameN x s = false) : x ∈ updS xs s := by
  obtain ⟨i, hi, rfl⟩ := nth_mem_ix hx
  have hm : ∀ k, i < k → nth xs i ∈ xs.take k := fun k hk => by
    refine List.mem_of_getElem? (i := i) ?_
    rw [List.getElem?_take_of_lt hk]
    exact (nth_get (List.getElem?_eq_getElem hi)) ▸ List.getElem?_eq_getElem hi
  have hd : ∀ k, k ≤ i → nth xs i ∈ xs.drop k := fun k hk => by
    refine List.mem_of_getElem? (i := i - k) ?_
    rw [List.getElem?_drop, show k + (i - k) = i by omega]
    exact (nth_get (List.getElem?_eq_getElem hi)) ▸ List.getElem?_eq_getElem hi
  unfold updS
  rw [List.mem_append, List.mem_append]
  by_cases h1 : i < placeS xs s
  · exact .inl (.inl (hm _ h1))
  · refine .inr (hd _ ?_)
    split
    · rename_i h2
      simp only [Bool.and_eq_true] at h2
      by_cases h3 : i = placeS xs s
      · rw [h3] at hn; rw [hn] at h2; exact absurd h2.2 Bool.false_ne_true
      · omega
    · omega
/-- the last state of a name -/
def lastS (l : List State) (x : State) : State := l.foldl (fun a y => if sameN y x then y else a) x
theorem lastS_snoc (l : List State) (s x : State) : lastS (l ++ [s]) x = if sameN s x then s else lastS l x := by unfold lastS; rw [List.foldl_append]; rfl
theorem known_snoc (l : List State) (s : State) : knownL (l ++ [s]) = updS (knownL l) s := by unfold knownL; rw [List.foldl_append]; rfl
theorem snoc_rec {P : List State → Prop} (h0 : P []) (h1 : ∀ l s, P l → P (l ++ [s])) (l : List State) : P l := by
  have h : ∀ n, ∀ l : List State, l.length = n → P l := by
    intro n
    induction n with
    | zero => intro l hl; rw [List.eq_nil_of_length_eq_zero hl]; exact h0
    | succ n ih =>
      intro l hl
      have hne : l ≠ [] := by intro e; rw [e] at hl; cases hl
      rw [← List.dropLast_concat_getLast hne]
      exact h1 _ _ (ih _ (by rw [List.length_dropLast, hl]; rfl))
  exact h _ l rfl
theorem known_last (l : List State) : ∀ x, x ∈ knownL l → lastS l x = x := by
  refine snoc_rec (P := fun l => ∀ x, x ∈ knownL l → lastS l x = x) (fun x h => by cases h) (fun l s ih x hx => ?_) l
  rw [known_snoc] at hx
  rw [lastS_snoc]
  rcases upd_only (known_srt l) hx with rfl | h
  · rw [if_pos (sameN_iff.2 rfl)]
  · rw [sameN_comm, h, if_neg Bool.false_ne_true]
    rcases upd_mem hx with h2 | h2
    · exact ih x h2
    · subst h2; rw [sameN_iff.2 rfl] at h; cases h
theorem known_has (l : List State) : ∀ y, y ∈ l → ∃ x, x ∈ knownL l ∧ x.Name = y.Name := by
  refine snoc_rec (P := fun l => ∀ y, y ∈ l → ∃ x, x ∈ knownL l ∧ x.Name = y.Name) (fun x h => by cases h) (fun l s ih y hy => ?_) l
  rw [known_snoc]
  rw [List.mem_append, List.mem_singleton] at hy
  rcases hy with hy | rfl
  · obtain ⟨x, h1, h2⟩ := ih y hy
    cases h3 : sameN x s with
    | true => exact ⟨s, upd_self _ _, by rw [← sameN_iff.1 h3, h2]⟩
    | false => exact ⟨x, upd_keep h1 h3, h2⟩
  · exact ⟨y, upd_self _ _, rfl⟩
theorem known_idem {K : List State} (h : SrtS K) : knownL K = K := by
  have hk : ∀ k, k ≤ K.length → knownL (K.take k) = K.take k := by
    intro k
    induction k with
    | zero => intro _; rfl
    | succ k ih =>
      intro hk
      have e : (K.take k).length = k := by rw [List.length_take]; omega
      rw [known_next (by omega), ih (by omega), upd_new (k := k) e (Nat.le_refl _) (fun j hj => ?_) (fun h => absurd h (Nat.lt_irrefl _)) (fun h => absurd h (Nat.lt_irrefl _)), take_succ (by omega)]
      · rw [List.take_of_length_le (by omega), List.drop_eq_nil_of_le (by omega), List.append_nil]
      · have h1 := srt_at h hj (by omega : k < K.length)
        have h2 : nth (K.take k) j = nth K j := by
          refine (nth_get ?_)
          rw [List.getElem?_take_of_lt hj, List.getElem?_eq_getElem (by omega)]
          congr 1
          exact (nth_get (List.getElem?_eq_getElem (by omega : j < K.length))).symm
        rw [h2]; exact h1
  have := hk K.length (Nat.le_refl _)
  rwa [List.take_length] at this
/-- the shortened diary -/
theorem short_rd (d : Diary) : rd 40 0 (catN (knownL (statesB d.Safe d.Open)) (knownL (statesB d.Safe d.Open)).length).data.toList = (knownL (statesB d.Safe d.Open), (catN (knownL (statesB d.Safe d.Open)) (knownL (statesB d.Safe d.Open)).length).size) := by
  have h1 := known_len (statesB d.Safe d.Open)
  have h2 := states_len d.Safe d.Open
  have := cat_rd (l := knownL (statesB d.Safe d.Open)) (fun i hi => known_ok hi) (by omega) _ (Nat.le_refl _)
  rwa [List.take_length] at this
theorem short_open (d : Diary) : openB (catN (knownL (statesB d.Safe d.Open)) (knownL (statesB d.Safe d.Open)).length) ByteArray.empty = true := open_nil (by rw [short_rd])
theorem short_states (d : Diary) : statesB (catN (knownL (statesB d.Safe d.Open)) (knownL (statesB d.Safe d.Open)).length) ByteArray.empty = knownL (statesB d.Safe d.Open) := by rw [states_nil, short_rd]
theorem short_known (d : Diary) : knownL (knownL (statesB d.Safe d.Open)) = knownL (statesB d.Safe d.Open) := known_idem (known_srt _)
end Go.Proofs.YtenlbeghjabpkaaGreatDoor

namespace Go.Proofs.YtenlbeghjabpkaaGreatDoor
open Go.RowKit

/-- the variables that a row over the readers lists -/
def jnLaid : List (String × DataW Unit) := [("math/bits.deBruijn32tab", Rows.laid_math_bits_deBruijn32tab), ("math/bits.deBruijn64tab", Rows.laid_math_bits_deBruijn64tab), ("internal/strconv.uint64pow10", Rows.laid_internal_strconv_uint64pow10), ("unicode/utf8.acceptRanges", Rows.laid_unicode_utf8_acceptRanges), ("strconv.ErrRange", Rows.laid_strconv_ErrRange), ("strconv.ErrSyntax", Rows.laid_strconv_ErrSyntax), ("unicode/utf8.first", Rows.laid_unicode_utf8_first)]
def jnLaidT : List (String × DataW Unit) := [("math/bits.deBruijn32tab", Rows.laid_math_bits_deBruijn32tab), ("math/bits.deBruijn64tab", Rows.laid_math_bits_deBruijn64tab), ("internal/strconv.uint64pow10", Rows.laid_internal_strconv_uint64pow10)]
theorem pow_data : (Rows.laid_internal_strconv_uint64pow10 : DataW Unit) = Lib.tabData .u64 Lib.pow10Tab := by kernel_rfl
theorem tab_head {W : World} {rest : List (String × DataW Unit)} (h : laidMet Tryz.prog (("internal/strconv.uint64pow10", Rows.laid_internal_strconv_uint64pow10) :: rest) W) : Tab W := by
  rw [pow_data] at h
  exact Lib.tabIs_of_head (g := 1) (by kernel_rfl) (by kernel_rfl) Tryz.underlying104 Tryz.underlying47 (by kernel_rfl) (by kernel_rfl) h
theorem star_err : "*" ++ "errors.errorString" = "*errors.errorString" := by decide
theorem row_err (u : TypeId) (h : Tryz.prog.typeName? 3 u = some "*errors.errorString") : u = 123 :=
  typeName_ptr_named (nm := "errors.errorString") (by rw [star_err]; kernel_rfl) (by kernel_rfl) (by decide) u (by rw [star_err]; exact h)
theorem tab_of {W : World} (h : laidMetH Tryz.prog jnLaidT W) : Tab W := by
  have h : laidMet Tryz.prog jnLaidT W := h
  exact tab_head h.tail.tail
theorem env_of {W : World} (h : laidMetH Tryz.prog jnLaid W) (hs : W.ShapedOpen Tryz.prog) : Env W := by
  have h : laidMet Tryz.prog jnLaid W := h
  refine ⟨tab_head h.tail.tail, ?_, ?_, Tryz.laysSplit.s1_3 W hs⟩
  · obtain ⟨a, s, hv, _, _, _⟩ := laid_sentinel h.tail.tail.tail.tail.tail (g := 2) (ti := 83) (tp := 123) (te := 125) (ts := 9) (by kernel_rfl) (by kernel_rfl) Tryz.underlying83 row_err Tryz.underlying123 Tryz.underlying125 rfl rfl Tryz.underlying9 (by kernel_rfl) (by kernel_rfl)
    exact ⟨_, _, hv⟩
  · obtain ⟨a, s, hv, _, _, _⟩ := laid_sentinel h.tail.tail.tail.tail (g := 3) (ti := 83) (tp := 123) (te := 125) (ts := 9) (by kernel_rfl) (by kernel_rfl) Tryz.underlying83 row_err Tryz.underlying123 Tryz.underlying125 rfl rfl Tryz.underlying9 (by kernel_rfl) (by kernel_rfl)
    exact ⟨_, _, hv⟩
end Go.Proofs.YtenlbeghjabpkaaGreatDoor

namespace Go.Proofs.YtenlbeghjabpkaaGreatDoor
open Go.RowKit Go.WideShapes Go.ChangeShapes Go.ChangeAt Go.Deep

/-- A list in memory is plain data, too: the slice value of one cell. -/
instance {α : Type} [Deep α] : Deep (List α) where
  sz := 1
  pos := by omega
  rep := fun w cs xs => ∃ A c, cs = [.slice A xs.length c] ∧ Sl w A xs.length xs ∧ xs.length ≤ maxLen
  len := fun {_ _ _} h => by obtain ⟨A, c, rfl, _⟩ := h; rfl
  keep := fun {_ _ _ _} k h => by obtain ⟨A, c, e, hs, hl⟩ := h; exact ⟨A, c, e, hs.keep k, hl⟩

/-- What every datum that can be read keeps to. -/
class Ok (α : Type) where
  ok : α → Prop
instance : Ok Int := ⟨fun x => -9223372036854775808 ≤ x ∧ x ≤ 9223372036854775807⟩
instance : Ok Bool := ⟨fun _ => True⟩
instance : Ok ByteArray := ⟨fun s => s.size ≤ maxLen⟩
instance {α : Type} [Ok α] : Ok (List α) := ⟨fun xs => ∀ x, x ∈ xs → Ok.ok x⟩
/-- Whatever reads at type t reads as an α. -/
def Opens (P : Program) (t : TypeId) (α : Type) [Deep α] [Ok α] : Prop :=
  ∀ {H : Type} {enc : TypeId × Value → H} {w : World} {base : Nat} {sp : Nat → Bool} {held : Bool} {fuel : Nat} {cs : List Value} {x : DataW H × List MemPlace},
    DataW.trod enc P w base sp held fuel t cs = some x → ∃ y : α, Deep.rep w cs y ∧ Ok.ok y

theorem opens_int {P : Program} {t : TypeId} (ht : P.underlying t = some (.int .i64)) : Opens P t Int := fun h => by
  obtain ⟨n, rfl, _, hw⟩ := DataW.trod_int ht h
  exact ⟨n, rfl, by simpa [Ok.ok, Lit.wf, IntKind.min, IntKind.max, IntKind.signed, IntKind.bits] using hw⟩
theorem opens_string {P : Program} {t : TypeId} (ht : P.underlying t = some .string) : Opens P t ByteArray := fun h => by
  obtain ⟨n, rfl, _, hw⟩ := DataW.trod_string ht h
  exact ⟨n, rfl, hw⟩

theorem opens_bool {P : Program} {t : TypeId} (ht : P.underlying t = some .bool) : Opens P t Bool := fun h => by
  obtain ⟨n, rfl, _⟩ := DataW.trod_bool ht h
  exact ⟨n, rfl, trivial⟩
/-- A field of one cell, at its place in the struct's cells. -/
theorem opens_field {P : Program} {t : TypeId} {α : Type} [Deep α] [Ok α] (ho : Opens P t α) (hc : P.cellsOf t = 1) {H : Type} {enc : TypeId × Value → H} {w : World} {base : Nat} {sp : Nat → Bool} {held : Bool} {fuel off : Nat} {cs : List Value}
    {xs : List (DataW H × List MemPlace)} {i : Nat} (h : DataW.trod enc P w base sp held fuel t ((cs.drop off).take (P.cellsOf t)) = xs[i]?) (hi : i < xs.length) (hl : off < cs.length) :
    ∃ (c : Value) (y : α), cs[off]? = some c ∧ Deep.rep w [c] y ∧ Ok.ok y := by
  rw [List.getElem?_eq_getElem hi, hc] at h
  obtain ⟨y, hy, hk⟩ := ho h
  refine ⟨cs[off], y, List.getElem?_eq_getElem hl, ?_, hk⟩
  have e : (cs.drop off).take 1 = [cs[off]] := by rw [List.drop_eq_getElem_cons hl]; rfl
  rwa [e] at hy
theorem list2 {cs : List Value} {a b : Value} (h : cs.length = 2) (h0 : cs[0]? = some a) (h1 : cs[1]? = some b) : cs = [a, b] := by
  match cs, h with
  | [x, y], _ => simp at h0 h1; subst h0; subst h1; rfl
theorem list3 {cs : List Value} {a b c : Value} (h : cs.length = 3) (h0 : cs[0]? = some a) (h1 : cs[1]? = some b) (h2 : cs[2]? = some c) : cs = [a, b, c] := by
  match cs, h with
  | [x, y, z], _ => simp at h0 h1 h2; subst h0; subst h1; subst h2; rfl
theorem list4 {cs : List Value} {a b c d : Value} (h : cs.length = 4) (h0 : cs[0]? = some a) (h1 : cs[1]? = some b) (h2 : cs[2]? = some c) (h3 : cs[3]? = some d) : cs = [a, b, c, d] := by
  match cs, h with
  | [x, y, z, t], _ => simp at h0 h1 h2 h3; subst h0; subst h1; subst h2; subst h3; rfl
theorem list5 {cs : List Value} {a b c d e : Value} (h : cs.length = 5) (h0 : cs[0]? = some a) (h1 : cs[1]? = some b) (h2 : cs[2]? = some c) (h3 : cs[3]? = some d) (h4 : cs[4]? = some e) : cs = [a, b, c, d, e] := by
  match cs, h with
  | [x, y, z, t, u], _ => simp at h0 h1 h2 h3 h4; subst h0; subst h1; subst h2; subst h3; subst h4; rfl
theorem sl_choose {α : Type} [Deep α] [Ok α] {w : World} {b o n : Nat} (h : ∀ i, i < n → ∃ (x : α) (cs : List Value), (Deep.rep w cs x ∧ Ok.ok x) ∧ ∀ j v, cs[j]? = some v → w.cell? ⟨b, o + i * Deep.sz α + j, none⟩ = some v) :
    ∃ xs : List α, Sl w (some ⟨b, o, none⟩) n xs ∧ Ok.ok xs := by
  induction n with
  | zero => exact ⟨[], Sl.nil _ _, fun _ h => by cases h⟩
  | succ n ih =>
    obtain ⟨xs, ⟨hl, hx⟩, hok⟩ := ih (fun i hi => h i (by omega))
    obtain ⟨x, cs, ⟨hr, hkx⟩, hc⟩ := h n (by omega)
    refine ⟨xs ++ [x], ⟨by simp [hl], fun k y hy => ?_⟩, fun y hy => by
      rcases List.mem_append.1 hy with hy | hy
      · exact hok y hy
      · simp at hy; subst hy; exact hkx⟩
    rcases Nat.lt_or_ge k n with hk | hk
    · rw [List.getElem?_append_left (by omega)] at hy
      exact hx k y hy
    · have hk2 : k < (xs ++ [x]).length := (List.getElem?_eq_some_iff.1 hy).1
      obtain rfl : k = n := by simp [hl] at hk2; omega
      rw [List.getElem?_append_right (by omega)] at hy
      simp [hl] at hy
      subst hy
      exact ⟨b, o, cs, rfl, hr, hc⟩

theorem opens_slice {P : Program} {t e : TypeId} {α : Type} [Deep α] [Ok α] (ht : P.underlying t = some (.slice e)) (hsz : P.cellsOf e = Deep.sz α) (he : Opens P e α) : Opens P t (List α) := fun {_ _ w _ _ _ _ _ _} h => by
  rcases open_slice ht h with ⟨rfl, _⟩ | ⟨a, len, cap, m, n, D, Pl, rfl, hb, hl, hm, hmm, _, hx⟩
  · exact ⟨[], ⟨none, 0, rfl, Sl.nil _ _, by simp [maxLen]⟩, fun _ h => by cases h⟩
  · have hlm : len ≤ m := by rw [hmm]; split <;> omega
    by_cases h0 : len = 0
    · subst h0
      exact ⟨[], ⟨some a, cap, rfl, Sl.nil _ _, by simp [maxLen]⟩, fun _ h => by cases h⟩
    · have hp := Deep.pos (α := α)
      have hspot : a = ⟨a.block, a.off, none⟩ := by
        obtain ⟨cs', hc, ht'⟩ := hx 0 (by omega)
        obtain ⟨_, hlen, hat⟩ := World.cells?_some hc
        have h1 := hat 0 (by omega)
        rw [List.getElem?_eq_getElem (by omega)] at h1
        have e : (a.add (0 * P.cellsOf e)).add 0 = a := by simp [Addr.add]
        rw [e] at h1
        rcases a with ⟨b, o, s⟩
        cases s with
        | none => rfl
        | some s => simp [World.cell?] at h1; split at h1 <;> cases h1
      obtain ⟨xs, hs, hok⟩ := sl_choose (α := α) (w := w) (b := a.block) (o := a.off) (n := len) (fun i hi => by
        obtain ⟨cs', hc, ht'⟩ := hx i (by omega)
        obtain ⟨_, hlen, hat⟩ := World.cells?_some hc
        obtain ⟨y, hy⟩ := he ht'
        refine ⟨y, cs', hy, fun j v hv => ?_⟩
        have hj : j < P.cellsOf e := by rw [← hlen]; exact (List.getElem?_eq_some_iff.1 hv).1
        have h1 := hat j hj
        rw [hspot, addr_add, addr_add, hv, hsz] at h1
        exact h1)
      have hl2 := hs.1
      refine ⟨xs, ⟨some a, cap, by rw [hl2], ?_, by omega⟩, hok⟩
      rw [hl2, hspot]
      exact hs

section
variable {H : Type} {enc : TypeId × Value → H} {P : Program}
theorem trodAll_stays (hl : laidOutB P = true) {W W' : World} {sp : Nat → Bool} (hsame : ∀ p : MemPlace, p.block < W.heap.size → W.sameAt W' p) : ∀ (ts : List TypeId) (vs : List Value) (ds : List (DataW H)) (ps : List MemPlace),
    (∀ t ∈ ts, P.readableRec t = true ∧ t < P.types.size) → DataW.TrodAll enc P W 0 (fun _ => true) true ts vs ds ps → (∀ p ∈ ps, p.block < W.heap.size) → (∀ p ∈ ps, sp p.block = true) → DataW.TrodAll enc P W' 0 sp true ts vs ds ps
  | [], _, _, _, _, h, _, _ => by obtain ⟨rfl, rfl, rfl⟩ := trodAll_nil h; exact trodAll_mk0
  | t :: ts, vs, ds, ps, hr, h, hlt, hsp => by
    obtain ⟨v, vs', d, ds', p, q, rfl, rfl, rfl, h0, h1⟩ := trodAll_cons h
    have hr0 := hr t (List.mem_cons_self)
    exact trodAll_cons_mk (WideElems.Trod_stays hl hr0.1 hr0.2 h0 (fun x hx => hsame x (hlt x (List.mem_append_left _ hx))) (fun x hx => hsp x (List.mem_append_left _ hx)))
      (trodAll_stays hl hsame ts vs' ds' q (fun t' ht' => hr t' (List.mem_cons_of_mem _ ht')) h1 (fun x hx => hlt x (List.mem_append_right _ hx)) (fun x hx => hsp x (List.mem_append_right _ hx)))

/-- The row's last step: the call answered true, and nothing that was there has turned. -/
theorem post_law {f : Func} {s : ChangeSpec} {tb : TypeId} {W W' : World} {args : Array Value} {ds gs : List (DataW H)} {before : List MemPlace}
    (hl : laidOutB P = true) (hb : P.underlying tb = some .bool) (hrt : f.resultTypes = #[tb]) (hv0 : s.vars = []) (hr : f.params.toList.all (fun t => P.readableRec t && decide (t < P.types.size)) = true)
    (hs : (s.fn H (ds ++ gs)).results = [.lit (.bool true)] ∧ (s.fn H (ds ++ gs)).args = ds ∧ (s.fn H (ds ++ gs)).vars = [])
    (hW : DataW.Whole enc P f.params.toList s.vars false W args.toList ds gs before) (hbe : Below W.heap.size W W') :
    s.post enc P f false true false false W args (.bool true) W' := by
  have hlt : ∀ p ∈ before, p.block < W.heap.size := fun p hp => hW.lt p hp
  obtain ⟨p, q, hA, hV, rfl, hz, hn⟩ := id hW
  rw [hv0] at hV
  obtain ⟨rfl, rfl⟩ := trodVars_none hV
  rw [List.append_nil] at hs
  have hr' : ∀ t ∈ f.params.toList, P.readableRec t = true ∧ t < P.types.size := fun t ht => by
    have := List.all_eq_true.1 hr t ht
    simpa using this
  have hargs : ∀ sp : Nat → Bool, (∀ x ∈ p, sp x.block = true) → DataW.TrodAll enc P W' 0 sp true f.params.toList args.toList ds p := fun sp hsp =>
    trodAll_stays hl (fun x hx => hbe.same hx) _ _ _ _ hr' hA (fun x hx => hlt x (by simpa using hx)) hsp
  have hres : ∀ (b : Nat) (sp : Nat → Bool) (hd : Bool), DataW.TrodAll enc P W' b sp hd f.resultTypes.toList (Value.resultList f.resultTypes.size (.bool true)) [.lit (.bool true)] [] := fun b sp hd => by
    rw [hrt]
    exact trodAll_mk1 (shut_bool hb true)
  have hold : ∀ x ∈ p, (fun b => decide (b < W.heap.size)) x.block = true := fun x hx => by simpa using hlt x (by simpa using hx)
  refine ⟨ds, [], p ++ [], [], p, [], hW, ?_, ?_, ?_, World.keptBut_mono (fun _ hx => hx.elim) (hbe.frame (fun _ => False)), fun h => by cases h⟩
  · rw [List.append_nil, hs.1]; exact hres _ _ _
  · rw [List.append_nil, hs.2.1]; exact hargs _ hold
  · rw [List.append_nil, hs.2.2, hv0]; exact rfl
end
end Go.Proofs.YtenlbeghjabpkaaGreatDoor
