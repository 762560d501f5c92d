/-
  RenewSkill: the reference's text. No conditions.
-/
import Derived.Test.YtgjnjfaohpmhkaaLibS
import Derived.Test.YtgjnjfaohpmhkaaRenP
import Derived.Test.YtgjnjfaohpmhkaaLibK
import Derived.Test.YtgjnjfaohpmhkaaMem2
import Derived.Test.YtgjnjfaohpmhkaaMem8
namespace Go.Proofs.Ytgjnjfaohpmhkaa
open Go.RowKit

theorem Sl.dropK {α : Type} [Flat α] {w : World} {b o n i : Nat} {xs : List α} (h : Sl w (some ⟨b, o, none⟩) n xs) : Sl w (some ⟨b, o + i * Flat.sz α, none⟩) (n - i) (xs.drop i) :=
  ⟨by rw [List.length_drop, h.1], fun k x hx => by
    rw [List.getElem?_drop] at hx
    obtain ⟨b', o', cs, hA, hr, hc⟩ := h.2 (i + k) x hx
    injection hA with hA
    injection hA with h1 h2
    subst h1; subst h2
    refine ⟨b, _, cs, rfl, hr, fun j v hv => ?_⟩
    have := hc j v hv
    have e : o + (i + k) * Deep.sz α + j = o + i * Flat.sz α + k * Deep.sz α + j := by
      have : Deep.sz α = Flat.sz α := rfl
      rw [this, Nat.add_mul]; omega
    rwa [e] at this⟩
theorem sl_skill1 {w : World} {b o : Nat} {s : Skill} (h0 : w.cell? ⟨b, o, none⟩ = some (.string s.Person)) (h1 : w.cell? ⟨b, o + 1, none⟩ = some (.int .i64 s.Kind)) (h2 : w.cell? ⟨b, o + 2, none⟩ = some (.int .i64 s.Until)) : Sl w (some ⟨b, o, none⟩) 1 [s] :=
  ⟨rfl, fun k x hx => by
    have hk : k = 0 := by have := (List.getElem?_eq_some_iff.1 hx).1; simpa using this
    subst hk
    have hx' : s = x := by simpa using hx
    subst hx'
    refine ⟨b, o, [.string s.Person, .int .i64 s.Kind, .int .i64 s.Until], rfl, rfl, fun j v hv => ?_⟩
    have hj : j < 3 := by have := (List.getElem?_eq_some_iff.1 hv).1; simpa using this
    match j, hj, hv with
    | 0, _, hv => have hv' : Value.string s.Person = v := by simpa using hv
                  subst hv'; simpa using h0
    | 1, _, hv => have hv' : Value.int .i64 s.Kind = v := by simpa using hv
                  subst hv'; simpa using h1
    | 2, _, hv => have hv' : Value.int .i64 s.Until = v := by simpa using hv
                  subst hv'; simpa using h2⟩
theorem Own.capK {α : Type} [Flat α] {w : World} {base : Nat} {E : TypeId} {A : Option Addr} {n c : Nat} {xs : List α} (h : Own w base E (.slice A n c) xs) : n ≤ c ∧ c ≤ maxLen ∧ ((A = none ∧ c = 0) ∨ ∃ g, A = some ⟨g, 0, none⟩) := by
  refine ⟨h.cap.1, h.cap.2, ?_⟩
  rcases h.2 with ⟨hv, _⟩ | ⟨g, cap, cur, hv, _⟩
  · injection hv with e1 e2 e3
    exact .inl ⟨e1, e3⟩
  · injection hv with e1 e2 e3
    exact .inr ⟨g, e1⟩
set_option maxRecDepth 100000 in
set_option maxHeartbeats 8000000 in
theorem specRenewSkill_any (xs : List Skill) (y : Skill) (A : Option Addr) (n c : Nat) (w : World) (hz : y.Person.size ≤ maxLen) (hn : (n : Int) ≤ 9223372036854775807) (hs : Sl w A n xs) (hv : ∀ x, x ∈ xs → x.Person.size ≤ maxLen) (hc : n ≤ c ∧ c ≤ maxLen ∧ ((A = none ∧ c = 0) ∨ ∃ g, A = some ⟨g, 0, none⟩)) :
    Calls Try.prog 78 #[.slice A n c, .string y.Person, .int .i64 y.Kind, .int .i64 y.Until] w (RetOwn2 w 44 (renF xs y)) := by
  have HV := Lib.hid hv
  have HL := Lib.hid hs.1
  obtain ⟨hc1, hc2, hA⟩ := hc
  unfold maxLen at hc2
  clear hv
  go_enter Try.func78, Try.ntmps78
  go_wp2_with fail
  refine (drGood_any xs _ _ _ _ hn (hs.below (bl_alloc (bl_refl _) _)) HV.out).mono ?_
  rintro e V1 ⟨rfl, hb1⟩
  have hk1 := bl_trans (a := w) (bl_alloc (bl_refl _) _) hb1
  have y0 : V1.cell? ⟨w.heap.size, 0, none⟩ = some (.string y.Person) := cell_later hb1 (by go_simp)
  have y1 : V1.cell? ⟨w.heap.size, 1, none⟩ = some (.int .i64 y.Kind) := cell_later hb1 (by go_simp)
  have y2 : V1.cell? ⟨w.heap.size, 2, none⟩ = some (.int .i64 y.Until) := cell_later hb1 (by go_simp)
  clear hb1
  cases h0 : skillsB xs
  · have Hz := Lib.hid (renF_no (l := xs) (x := y) (by rw [h0]; rfl))
    clear h0
    go_wp2
    go_ret2
    exact retOwn2_mk Hz.out (Own.nil _ _ _) hk1
  have H0 := Lib.hid h0
  clear h0
  go_wp2_with fail
  refine (drOne_any y _ hz).mono ?_
  rintro e V2 ⟨rfl, hb2⟩
  have hk2 := bl_trans hk1 hb2
  have y0 := cell_later hb2 y0
  have y1 := cell_later hb2 y1
  have y2 := cell_later hb2 y2
  clear hb2 hk1
  cases h1 : skillB y
  · have Hz := Lib.hid (renF_no (l := xs) (x := y) (by rw [h1, Bool.and_false]))
    clear h1
    go_wp2
    go_ret2
    exact retOwn2_mk Hz.out (Own.nil _ _ _) hk2
  have H1 := Lib.hid h1
  clear h1
  have hn2 : n ≤ 24 := by have := skillsB_len H0.out; have := HL.out; omega
  have hl := HL.out
  go_wp2
  go_loopw [11] (fun jv wr => ∃ j : Nat, j ≤ n ∧ jv = .int .i64 j ∧ Below w.heap.size w wr ∧ wr.cell? ⟨w.heap.size, 0, none⟩ = some (.string y.Person) ∧ wr.cell? ⟨w.heap.size, 1, none⟩ = some (.int .i64 y.Kind) ∧ wr.cell? ⟨w.heap.size, 2, none⟩ = some (.int .i64 y.Until) ∧ Hid (∀ p, p < j → skLess (nth xs p) y = true)) (fun jv _ => n - (intOf jv).toNat)
  case atStart => exact ⟨0, Nat.zero_le _, rfl, hk2, y0, y1, y2, fun p hp => absurd hp (by omega)⟩
  case round =>
    clear y0 y1 y2
    obtain ⟨j, hj, rfl, hk0, y0, y1, y2, hg⟩ := hrel
    have hjc : (j : Int) ≤ c := by omega
    have hjn : (j : Int) ≤ n := by omega
    have hj0 : (0 : Int) ≤ j := by omega
    have hst : Hid (Sl wr A j (xs.take j)) := (hs.below hk0).take hj
    have hsl : Hid (Sl wr A n xs) := hs.below hk0
    by_cases hlq : j < n
    · obtain ⟨b, o, rfl, _, d0, d1, d2⟩ := (hs.below hk0).skill hlq
      have hck : ¬ c = j := by omega
      have hqj : 0 < n - j := by omega
      have hqd : decide (0 < n - j) = true := decide_eq_true hqj
      clear hs
      cases hle : skLess (nth xs j) y
      · have HLE := Lib.hid hle
        have HQ : Hid (j < n → skLess (nth xs j) y = false) := fun _ => HLE.out
        go_wp2_with fail
        refine wp_region_grow (by kernel_rfl) (by kernel_rfl) (fun X hX => ?_)
        have hbX : Below wr.heap.size wr X := by rw [hX]; exact bl_refl _
        have q0 := Gw.cell (cell_later hbX y0)
        have q1 := Gw.cell (cell_later hbX y1)
        have q2 := Gw.cell (cell_later hbX y2)
        have q3 := Gw.cell (cell_later hbX d0)
        have q4 := Gw.cell (cell_later hbX d1)
        have q5 := Gw.cell (cell_later hbX d2)
        have HX := Lib.hid hX
        clear hX
        have y0_ := cell_later hbX y0
        have y1_ := cell_later hbX y1
        have y2_ := cell_later hbX y2
        have d0_ := cell_later hbX d0
        have d1_ := cell_later hbX d1
        have d2_ := cell_later hbX d2
        clear y0 y1 y2 d0 d1 d2
        repeat (go_big_quiet_step ((go_at_call 84; exact Calls.grow_of (drBefore_any (nth xs j) y _))))
        refine wpGrow_nil (fun V5 hV => ?_)
        have hbV5 := bl_trans hbX hV
        have y0 := cell_later hV y0_
        have y1 := cell_later hV y1_
        have y2 := cell_later hV y2_
        have d0 := cell_later hV d0_
        have d1 := cell_later hV d1_
        have d2 := cell_later hV d2_
        clear hV hbX HX q0 q1 q2 q3 q4 q5 y0_ y1_ y2_ d0_ d1_ d2_
        go_upto_region 8 with fail
        clear hle
        cases hsm : skLess y (nth xs j)
        · have HSM := Lib.hid hsm
          refine wp_region_grow (by kernel_rfl) (by kernel_rfl) (fun X hX => ?_)
          have hbX : Below V5.heap.size V5 X := by rw [hX]; exact bl_refl _
          have q0 := Gw.cell (cell_later hbX y0)
          have q1 := Gw.cell (cell_later hbX y1)
          have q2 := Gw.cell (cell_later hbX y2)
          have q3 := Gw.cell (cell_later hbX d0)
          have q4 := Gw.cell (cell_later hbX d1)
          have q5 := Gw.cell (cell_later hbX d2)
          have HX := Lib.hid hX
          clear hX
          have y0_ := cell_later hbX y0
          have y1_ := cell_later hbX y1
          have y2_ := cell_later hbX y2
          have d0_ := cell_later hbX d0
          have d1_ := cell_later hbX d1
          have d2_ := cell_later hbX d2
          clear y0 y1 y2 d0 d1 d2
          repeat (go_big_quiet_step ((go_at_call 84; exact Calls.grow_of (drBefore_any y (nth xs j) _))))
          refine wpGrow_nil (fun V8 hV => ?_)
          have hbV8 := bl_trans hbX hV
          have y0 := cell_later hV y0_
          have y1 := cell_later hV y1_
          have y2 := cell_later hV y2_
          have d0 := cell_later hV d0_
          have d1 := cell_later hV d1_
          have d2 := cell_later hV d2_
          clear hV hbX HX q0 q1 q2 q3 q4 q5 y0_ y1_ y2_ d0_ d1_ d2_
          have hB9 := bl_trans hbV5 hbV8
          clear hsm
          by_cases hlate : y.Until < (nth xs j).Until
          · have Hz := Lib.hid (renF_late H0.out H1.out HL.out hlq hg.out HLE.out HSM.out hlate)
            have hd : decide ((nth xs j).Until > y.Until) = true := by simpa using hlate
            have hk9 := bl_trans hk0 hB9
            clear hst hsl
            go_wp2
            go_ret2
            exact retOwn2_mk Hz.out (Own.nil _ _ _) hk9
          · have hd : decide ((nth xs j).Until > y.Until) = false := by simpa using hlate
            have HS : Hid (j + 1 < n → skLess y (nth xs (j + 1)) = true) := fun h => by
              have h3 := skills_srt H0.out (j + 1) j (by omega) (by omega)
              obtain ⟨e1, e2⟩ := sk_same HLE.out HSM.out
              rw [sk_or] at h3 ⊢
              rwa [e1, e2] at h3
            obtain ⟨O, hO⟩ : ∃ O, O = xs.take j ++ [y] ++ xs.drop (j + 1) := ⟨_, rfl⟩
            have HY := Lib.hid hO
            have HVO : Hid (∀ x, x ∈ O → x.Person.size ≤ maxLen) := by
              intro x hx
              rw [hO] at hx
              simp only [List.mem_append, List.mem_singleton] at hx
              rcases hx with (hx | hx) | hx
              · exact HV.out x (List.mem_of_mem_take hx)
              · rw [hx]; exact hz
              · exact HV.out x (List.mem_of_mem_drop hx)
            have hOl : O.length = n := by rw [hO]; simp only [List.length_append, List.length_take, List.length_drop, List.length_cons, List.length_nil]; omega
            have hp := put_ok H0.out H1.out (by omega) hg.out (by omega) (Nat.le_refl _) (fun h => HS.out (by omega))
            rw [← hO] at hp
            have HG : Hid (skillsB O = true) := by rw [Hid, hp, hOl]; simp; omega
            have HZ : Hid (renF xs y = (O, true)) := by rw [Hid, renF_same H0.out H1.out HL.out hlq hg.out HLE.out HSM.out hlate, hO]
            clear hO hp hOl
            by_cases hc3 : c = j + 1
            · have hsd : ∀ W B, Hid (Sl W B 0 (xs.drop (j + 1))) := fun W B => by
                have e : xs.drop (j + 1) = [] := List.drop_of_length_le (by omega)
                rw [Hid, e]; exact Sl.nil _ _
              have hq1 : n - j = 1 := by omega
              have hq2 : c - j = 1 := by omega
              have HC3 := Lib.hid hc3
              clear hsl d0 d1 hc3
              have hst := Lib.hid (hst.out.below hB9)
              have hk := bl_trans hk0 hB9
              obtain ⟨V, hVV⟩ : ∃ W, W = V8 := ⟨_, rfl⟩
              subst hVV
              go_upto_region 12 with fail
              clear d2
              have e0 := y0
              have e1 := y1
              have e2 := y2
              go_region_held3 (fun w' => w'.cell? ⟨w.heap.size, 0, none⟩ = some (.string y.Person) ∧ w'.cell? ⟨w.heap.size, 1, none⟩ = some (.int .i64 y.Kind) ∧ w'.cell? ⟨w.heap.size, 2, none⟩ = some (.int .i64 y.Until)) (refine ⟨cell_later (?_ : Below V.heap.size V _) e0, cell_later (?_ : Below V.heap.size V _) e1, cell_later (?_ : Below V.heap.size V _) e2⟩ <;> (repeat' (first | assumption | exact bl_refl _ | refine bl_alloc ?_ _ | refine bl_drew ?_)))
                (first
                  | (refine step_appB rfl (.tmp 62) (.tmp 65) _ _ rfl el_skill (xs := ([] : List Skill)) (ys := xs.take j) (w0 := V) rfl rfl ?_ ?_ ?_ (by omega) ?_; (first | (focus (refine Own.below (w := V.alloc (.cells #[] 44)) (Own.built V _ (Nat.le_refl _)) ?_; (repeat' (first | assumption | exact bl_refl _ | refine bl_alloc ?_ _ | refine bl_drew ?_)); done)) | (focus (refine Own.below (w := (V.alloc (.cells #[.string y.Person, .int .i64 y.Kind, .int .i64 y.Until] 44)).alloc (.cells #[] 44)) ?_ ?_; (focus (have hbu := Own.built (α := Skill) (V.alloc (.cells #[.string y.Person, .int .i64 y.Kind, .int .i64 y.Until] 44)) 44 (base := V.heap.size) (by simp); simpa using hbu)); (repeat' (first | assumption | exact bl_refl _ | refine bl_alloc ?_ _ | refine bl_drew ?_)); done))); (repeat' (first | assumption | exact bl_refl _ | refine bl_alloc ?_ _ | refine bl_drew ?_)); (exact hst.out.below (by repeat' (first | assumption | exact bl_refl _ | refine bl_alloc ?_ _ | refine bl_drew ?_))); (intro A1 c1 V1 ho1 hB1 hg1))
                  | (refine step_appB rfl (.tmp 66) (.tmp 68) _ _ rfl el_skill (xs := xs.take j) (ys := [y]) (w0 := V) rfl rfl ?_ ?_ ?_ (by omega) ?_; (first | (simpa using ho1) | (exact Own.alloc (by simpa using ho1) _)); (repeat' (first | assumption | exact bl_refl _ | refine bl_alloc ?_ _ | refine bl_drew ?_)); (refine sl_skill1 ?_ ?_ ?_ <;> (first | (focus (go_simp; done)) | (focus (refine (hg1.cell_far _ ?_ ?_).trans ?_ <;> first | (simp; done) | (simp [Value.ownBlock]; done) | (go_simp; done) | (simp [Value.ownBlock]; omega))))); (intro A2 c2 V2 ho2 hB2 hg2))
                  | (refine step_appB rfl (.tmp 69) (.tmp 70) _ _ rfl el_skill (xs := xs.take j ++ [y]) (ys := xs.drop (j + 1)) (w0 := V) rfl rfl ho2 hB2 ((hsd V _).out.below hB2) (by omega) ?_; (intro A3 c3 V3 ho3 hB3 hg3)))
              all_goals
                (try simp only [Nat.zero_add] at ho3)
                (try simp only [Nat.add_zero] at ho3)
                rw [← HY.out] at ho3
                go_wp2_with fail
                refine (drGood_any O _ _ _ _ (by omega) ho3.sl HVO.out).mono ?_
                rintro e V9 ⟨rfl, hb9⟩
                have hk9 := bl_trans (bl_trans hk hB3) hb9
                have ho9 := (ho3.below hb9).mono hk.size
                clear ho3 hB3 hb9 hg3 ho2 hB2 hg2 ho1 hB1 hg1
                rw [HG.out]
                go_wp2
                go_ret2
                exact retOwn2_mk HZ.out ho9 hk9
            · have hsd : Hid (Sl V8 (some ⟨b, o + j * 3 + 3, none⟩) (n - j - 1) (xs.drop (j + 1))) := by
                have h := (hsl.out.dropK (i := j + 1)).below hB9
                have e : Flat.sz Skill = 3 := rfl
                rw [e, show o + (j + 1) * 3 = o + j * 3 + 3 by omega, show n - (j + 1) = n - j - 1 by omega] at h
                exact h
              have hck3 : ¬ c - j = 1 := by omega
              clear hsl d0 d1
              have hst := Lib.hid (hst.out.below hB9)
              have hk := bl_trans hk0 hB9
              obtain ⟨V, hVV⟩ : ∃ W, W = V8 := ⟨_, rfl⟩
              subst hVV
              go_upto_region 12 with fail
              clear d2
              have e0 := y0
              have e1 := y1
              have e2 := y2
              go_region_held3 (fun w' => w'.cell? ⟨w.heap.size, 0, none⟩ = some (.string y.Person) ∧ w'.cell? ⟨w.heap.size, 1, none⟩ = some (.int .i64 y.Kind) ∧ w'.cell? ⟨w.heap.size, 2, none⟩ = some (.int .i64 y.Until)) (refine ⟨cell_later (?_ : Below V.heap.size V _) e0, cell_later (?_ : Below V.heap.size V _) e1, cell_later (?_ : Below V.heap.size V _) e2⟩ <;> (repeat' (first | assumption | exact bl_refl _ | refine bl_alloc ?_ _ | refine bl_drew ?_)))
                (first
                  | (refine step_appB rfl (.tmp 62) (.tmp 65) _ _ rfl el_skill (xs := ([] : List Skill)) (ys := xs.take j) (w0 := V) rfl rfl ?_ ?_ ?_ (by omega) ?_; (first | (focus (refine Own.below (w := V.alloc (.cells #[] 44)) (Own.built V _ (Nat.le_refl _)) ?_; (repeat' (first | assumption | exact bl_refl _ | refine bl_alloc ?_ _ | refine bl_drew ?_)); done)) | (focus (refine Own.below (w := (V.alloc (.cells #[.string y.Person, .int .i64 y.Kind, .int .i64 y.Until] 44)).alloc (.cells #[] 44)) ?_ ?_; (focus (have hbu := Own.built (α := Skill) (V.alloc (.cells #[.string y.Person, .int .i64 y.Kind, .int .i64 y.Until] 44)) 44 (base := V.heap.size) (by simp); simpa using hbu)); (repeat' (first | assumption | exact bl_refl _ | refine bl_alloc ?_ _ | refine bl_drew ?_)); done))); (repeat' (first | assumption | exact bl_refl _ | refine bl_alloc ?_ _ | refine bl_drew ?_)); (exact hst.out.below (by repeat' (first | assumption | exact bl_refl _ | refine bl_alloc ?_ _ | refine bl_drew ?_))); (intro A1 c1 V1 ho1 hB1 hg1))
                  | (refine step_appB rfl (.tmp 66) (.tmp 68) _ _ rfl el_skill (xs := xs.take j) (ys := [y]) (w0 := V) rfl rfl ?_ ?_ ?_ (by omega) ?_; (first | (simpa using ho1) | (exact Own.alloc (by simpa using ho1) _)); (repeat' (first | assumption | exact bl_refl _ | refine bl_alloc ?_ _ | refine bl_drew ?_)); (refine sl_skill1 ?_ ?_ ?_ <;> (first | (focus (go_simp; done)) | (focus (refine (hg1.cell_far _ ?_ ?_).trans ?_ <;> first | (simp; done) | (simp [Value.ownBlock]; done) | (go_simp; done) | (simp [Value.ownBlock]; omega))))); (intro A2 c2 V2 ho2 hB2 hg2))
                  | (refine step_appB rfl (.tmp 69) (.tmp 70) _ _ rfl el_skill (xs := xs.take j ++ [y]) (ys := xs.drop (j + 1)) (w0 := V) rfl rfl ho2 hB2 (hsd.out.below hB2) (by omega) ?_; (intro A3 c3 V3 ho3 hB3 hg3)))
              all_goals
                (try simp only [Nat.zero_add] at ho3)
                (try simp only [Nat.add_zero] at ho3)
                rw [← HY.out] at ho3
                go_wp2_with fail
                refine (drGood_any O _ _ _ _ (by omega) ho3.sl HVO.out).mono ?_
                rintro e V9 ⟨rfl, hb9⟩
                have hk9 := bl_trans (bl_trans hk hB3) hb9
                have ho9 := (ho3.below hb9).mono hk.size
                clear ho3 hB3 hb9 hg3 ho2 hB2 hg2 ho1 hB1 hg1
                rw [HG.out]
                go_wp2
                go_ret2
                exact retOwn2_mk HZ.out ho9 hk9
        · have HSM := Lib.hid hsm
          have HS : Hid (j < n → skLess y (nth xs j) = true) := fun _ => HSM.out
          refine wp_region_grow (by kernel_rfl) (by kernel_rfl) (fun X hX => ?_)
          have hbX : Below V5.heap.size V5 X := by rw [hX]; exact bl_refl _
          have q0 := Gw.cell (cell_later hbX y0)
          have q1 := Gw.cell (cell_later hbX y1)
          have q2 := Gw.cell (cell_later hbX y2)
          have q3 := Gw.cell (cell_later hbX d0)
          have q4 := Gw.cell (cell_later hbX d1)
          have q5 := Gw.cell (cell_later hbX d2)
          have HX := Lib.hid hX
          clear hX
          have y0_ := cell_later hbX y0
          have y1_ := cell_later hbX y1
          have y2_ := cell_later hbX y2
          have d0_ := cell_later hbX d0
          have d1_ := cell_later hbX d1
          have d2_ := cell_later hbX d2
          clear y0 y1 y2 d0 d1 d2
          repeat (go_big_quiet_step ((go_at_call 84; exact Calls.grow_of (drBefore_any y (nth xs j) _))))
          refine wpGrow_nil (fun V8 hV => ?_)
          have hbV8 := bl_trans hbX hV
          have y0 := cell_later hV y0_
          have y1 := cell_later hV y1_
          have y2 := cell_later hV y2_
          have d0 := cell_later hV d0_
          have d1 := cell_later hV d1_
          have d2 := cell_later hV d2_
          clear hV hbX HX q0 q1 q2 q3 q4 q5 y0_ y1_ y2_ d0_ d1_ d2_
          have hB9 := bl_trans hbV5 hbV8
          clear hsm
          obtain ⟨O, hO⟩ : ∃ O, O = xs.take j ++ [y] ++ xs.drop j := ⟨_, rfl⟩
          have HY := Lib.hid hO
          have HVO : Hid (∀ x, x ∈ O → x.Person.size ≤ maxLen) := by
            intro x hx
            rw [hO] at hx
            simp only [List.mem_append, List.mem_singleton] at hx
            rcases hx with (hx | hx) | hx
            · exact HV.out x (List.mem_of_mem_take hx)
            · rw [hx]; exact hz
            · exact HV.out x (List.mem_of_mem_drop hx)
          have hOl : O.length = n + 1 := by rw [hO]; simp only [List.length_append, List.length_take, List.length_drop, List.length_cons, List.length_nil]; omega
          have hp := put_ok H0.out H1.out (by omega) hg.out (Nat.le_refl _) (by omega) (fun h => HS.out (by omega))
          rw [← hO] at hp
          have HGf : Hid (n = 24 → skillsB O = false) := fun h => by rw [hp, hOl]; simp; omega
          have HGt : Hid (¬ n = 24 → skillsB O = true) := fun h => by rw [hp, hOl]; simp; omega
          have HZf : Hid (n = 24 → renF xs y = ([], false)) := fun h => renF_full H0.out H1.out HL.out (by omega) hg.out HQ.out HS.out h
          have HZt : Hid (¬ n = 24 → renF xs y = (O, true)) := fun h => by rw [renF_new H0.out H1.out HL.out (by omega) hg.out HQ.out HS.out h, hO]
          clear hO hp hOl
          have hsd := Lib.hid ((hsl.out.dropK (i := j)).below hB9)
          clear hsl d0 d1 d2
          have hst := Lib.hid (hst.out.below hB9)
          have hk := bl_trans hk0 hB9
          obtain ⟨V, hVV⟩ : ∃ W, W = V8 := ⟨_, rfl⟩
          subst hVV
          go_upto_region 12 with fail
          have e0 := y0
          have e1 := y1
          have e2 := y2
          go_region_held3 (fun w' => w'.cell? ⟨w.heap.size, 0, none⟩ = some (.string y.Person) ∧ w'.cell? ⟨w.heap.size, 1, none⟩ = some (.int .i64 y.Kind) ∧ w'.cell? ⟨w.heap.size, 2, none⟩ = some (.int .i64 y.Until)) (refine ⟨cell_later (?_ : Below V.heap.size V _) e0, cell_later (?_ : Below V.heap.size V _) e1, cell_later (?_ : Below V.heap.size V _) e2⟩ <;> (repeat' (first | assumption | exact bl_refl _ | refine bl_alloc ?_ _ | refine bl_drew ?_)))
            (first
              | (refine step_appB rfl (.tmp 62) (.tmp 65) _ _ rfl el_skill (xs := ([] : List Skill)) (ys := xs.take j) (w0 := V) rfl rfl ?_ ?_ ?_ (by omega) ?_; (first | (focus (refine Own.below (w := V.alloc (.cells #[] 44)) (Own.built V _ (Nat.le_refl _)) ?_; (repeat' (first | assumption | exact bl_refl _ | refine bl_alloc ?_ _ | refine bl_drew ?_)); done)) | (focus (refine Own.below (w := (V.alloc (.cells #[.string y.Person, .int .i64 y.Kind, .int .i64 y.Until] 44)).alloc (.cells #[] 44)) ?_ ?_; (focus (have hbu := Own.built (α := Skill) (V.alloc (.cells #[.string y.Person, .int .i64 y.Kind, .int .i64 y.Until] 44)) 44 (base := V.heap.size) (by simp); simpa using hbu)); (repeat' (first | assumption | exact bl_refl _ | refine bl_alloc ?_ _ | refine bl_drew ?_)); done))); (repeat' (first | assumption | exact bl_refl _ | refine bl_alloc ?_ _ | refine bl_drew ?_)); (exact hst.out.below (by repeat' (first | assumption | exact bl_refl _ | refine bl_alloc ?_ _ | refine bl_drew ?_))); (intro A1 c1 V1 ho1 hB1 hg1))
              | (refine step_appB rfl (.tmp 66) (.tmp 68) _ _ rfl el_skill (xs := xs.take j) (ys := [y]) (w0 := V) rfl rfl ?_ ?_ ?_ (by omega) ?_; (first | (simpa using ho1) | (exact Own.alloc (by simpa using ho1) _)); (repeat' (first | assumption | exact bl_refl _ | refine bl_alloc ?_ _ | refine bl_drew ?_)); (refine sl_skill1 ?_ ?_ ?_ <;> (first | (focus (go_simp; done)) | (focus (refine (hg1.cell_far _ ?_ ?_).trans ?_ <;> first | (simp; done) | (simp [Value.ownBlock]; done) | (go_simp; done) | (simp [Value.ownBlock]; omega))))); (intro A2 c2 V2 ho2 hB2 hg2))
              | (refine step_appB rfl (.tmp 69) (.tmp 70) _ _ rfl el_skill (xs := xs.take j ++ [y]) (ys := xs.drop j) (w0 := V) rfl rfl ho2 hB2 (hsd.out.below hB2) (by omega) ?_; (intro A3 c3 V3 ho3 hB3 hg3)))
          all_goals
            (try simp only [Nat.zero_add] at ho3)
            (try simp only [Nat.add_zero] at ho3)
            rw [← HY.out] at ho3
            go_wp2_with fail
            refine (drGood_any O _ _ _ _ (by omega) ho3.sl HVO.out).mono ?_
            rintro e V9 ⟨rfl, hb9⟩
            have hk9 := bl_trans (bl_trans hk hB3) hb9
            have ho9 := (ho3.below hb9).mono hk.size
            clear ho3 hB3 hb9 hg3 ho2 hB2 hg2 ho1 hB1 hg1
            by_cases h24 : n = 24
            · rw [HGf.out h24]
              have Hz := Lib.hid (HZf.out h24)
              go_wp2
              go_ret2
              exact retOwn2_mk Hz.out (Own.nil _ _ _) hk9
            · rw [HGt.out h24]
              have Hz := Lib.hid (HZt.out h24)
              go_wp2
              go_ret2
              exact retOwn2_mk Hz.out ho9 hk9
      · have HLE := Lib.hid hle
        clear hst hsl
        go_wp2_with fail
        refine wp_region_grow (by kernel_rfl) (by kernel_rfl) (fun X hX => ?_)
        have hbX : Below wr.heap.size wr X := by rw [hX]; exact bl_refl _
        have q0 := Gw.cell (cell_later hbX y0)
        have q1 := Gw.cell (cell_later hbX y1)
        have q2 := Gw.cell (cell_later hbX y2)
        have q3 := Gw.cell (cell_later hbX d0)
        have q4 := Gw.cell (cell_later hbX d1)
        have q5 := Gw.cell (cell_later hbX d2)
        have HX := Lib.hid hX
        clear hX
        have y0_ := cell_later hbX y0
        have y1_ := cell_later hbX y1
        have y2_ := cell_later hbX y2
        have d0_ := cell_later hbX d0
        have d1_ := cell_later hbX d1
        have d2_ := cell_later hbX d2
        clear y0 y1 y2 d0 d1 d2
        repeat (go_big_quiet_step ((go_at_call 84; exact Calls.grow_of (drBefore_any (nth xs j) y _))))
        refine wpGrow_nil (fun V5 hV => ?_)
        have hbV5 := bl_trans hbX hV
        have y0 := cell_later hV y0_
        have y1 := cell_later hV y1_
        have y2 := cell_later hV y2_
        have d0 := cell_later hV d0_
        have d1 := cell_later hV d1_
        have d2 := cell_later hV d2_
        clear hV hbX HX q0 q1 q2 q3 q4 q5 y0_ y1_ y2_ d0_ d1_ d2_
        clear hle
        go_wp2
        go_roundw
        case rel => exact ⟨j + 1, by omega, by go_num, bl_trans hk0 hbV5, y0, y1, y2, upto_succ hg HLE.out⟩
        case measure => simp [intOf]; omega
    · have HS : Hid (j < n → skLess y (nth xs j) = true) := fun h => absurd h (by omega)
      have HQ : Hid (j < n → skLess (nth xs j) y = false) := fun h => absurd h (by omega)
      obtain ⟨O, hO⟩ : ∃ O, O = xs.take j ++ [y] ++ xs.drop j := ⟨_, rfl⟩
      have HY := Lib.hid hO
      have HVO : Hid (∀ x, x ∈ O → x.Person.size ≤ maxLen) := by
        intro x hx
        rw [hO] at hx
        simp only [List.mem_append, List.mem_singleton] at hx
        rcases hx with (hx | hx) | hx
        · exact HV.out x (List.mem_of_mem_take hx)
        · rw [hx]; exact hz
        · exact HV.out x (List.mem_of_mem_drop hx)
      have hOl : O.length = n + 1 := by rw [hO]; simp only [List.length_append, List.length_take, List.length_drop, List.length_cons, List.length_nil]; omega
      have hp := put_ok H0.out H1.out (by omega) hg.out (Nat.le_refl _) (by omega) (fun h => HS.out (by omega))
      rw [← hO] at hp
      have HGf : Hid (n = 24 → skillsB O = false) := fun h => by rw [hp, hOl]; simp; omega
      have HGt : Hid (¬ n = 24 → skillsB O = true) := fun h => by rw [hp, hOl]; simp; omega
      have HZf : Hid (n = 24 → renF xs y = ([], false)) := fun h => renF_full H0.out H1.out HL.out (by omega) hg.out HQ.out HS.out h
      have HZt : Hid (¬ n = 24 → renF xs y = (O, true)) := fun h => by rw [renF_new H0.out H1.out HL.out (by omega) hg.out HQ.out HS.out h, hO]
      clear hO hp hOl
      have hjn2 : j = n := by omega
      rcases hA with ⟨rfl, hc0⟩ | ⟨g, rfl⟩
      · have hnn := hs.none_len
        have hn0 : n = 0 := by first | exact hnn.1 | exact hnn.2 | omega
        clear hnn
        obtain rfl : j = 0 := by omega
        subst hn0
        subst hc0
        have hsd : ∀ W B, Hid (Sl W B 0 (xs.drop 0)) := fun W B => by
          have e : xs.drop 0 = [] := List.drop_of_length_le (by omega)
          rw [Hid, e]; exact Sl.nil _ _
        clear hs hsl
        go_wp2_with fail
        refine wp_region_grow (by kernel_rfl) (by kernel_rfl) (fun X hX => ?_)
        have hbX : Below wr.heap.size wr X := by rw [hX]; exact bl_refl _
        have q0 := Gw.cell (cell_later hbX y0)
        have q1 := Gw.cell (cell_later hbX y1)
        have q2 := Gw.cell (cell_later hbX y2)
        have HX := Lib.hid hX
        clear hX
        have y0_ := cell_later hbX y0
        have y1_ := cell_later hbX y1
        have y2_ := cell_later hbX y2
        clear y0 y1 y2
        repeat (go_big_quiet_step (fail))
        refine wpGrow_nil (fun V5 hV => ?_)
        have hbV5 := bl_trans hbX hV
        have y0 := cell_later hV y0_
        have y1 := cell_later hV y1_
        have y2 := cell_later hV y2_
        clear hV hbX HX q0 q1 q2 y0_ y1_ y2_
        go_upto_region 8 with fail
        refine wp_region_grow (by kernel_rfl) (by kernel_rfl) (fun X hX => ?_)
        have hbX : Below V5.heap.size V5 X := by rw [hX]; exact bl_refl _
        have q0 := Gw.cell (cell_later hbX y0)
        have q1 := Gw.cell (cell_later hbX y1)
        have q2 := Gw.cell (cell_later hbX y2)
        have HX := Lib.hid hX
        clear hX
        have y0_ := cell_later hbX y0
        have y1_ := cell_later hbX y1
        have y2_ := cell_later hbX y2
        clear y0 y1 y2
        repeat (go_big_quiet_step (fail))
        refine wpGrow_nil (fun V8 hV => ?_)
        have hbV8 := bl_trans hbX hV
        have y0 := cell_later hV y0_
        have y1 := cell_later hV y1_
        have y2 := cell_later hV y2_
        clear hV hbX HX q0 q1 q2 y0_ y1_ y2_
        have hB9 := bl_trans hbV5 hbV8
        have hst := Lib.hid (hst.out.below hB9)
        have hk := bl_trans hk0 hB9
        obtain ⟨V, hVV⟩ : ∃ W, W = V8 := ⟨_, rfl⟩
        subst hVV
        go_upto_region 12 with fail
        have e0 := y0
        have e1 := y1
        have e2 := y2
        go_region_held3 (fun w' => w'.cell? ⟨w.heap.size, 0, none⟩ = some (.string y.Person) ∧ w'.cell? ⟨w.heap.size, 1, none⟩ = some (.int .i64 y.Kind) ∧ w'.cell? ⟨w.heap.size, 2, none⟩ = some (.int .i64 y.Until)) (refine ⟨cell_later (?_ : Below V.heap.size V _) e0, cell_later (?_ : Below V.heap.size V _) e1, cell_later (?_ : Below V.heap.size V _) e2⟩ <;> (repeat' (first | assumption | exact bl_refl _ | refine bl_alloc ?_ _ | refine bl_drew ?_)))
          (first
            | (refine step_appB rfl (.tmp 62) (.tmp 65) _ _ rfl el_skill (xs := ([] : List Skill)) (ys := xs.take 0) (w0 := V) rfl rfl ?_ ?_ ?_ (by omega) ?_; (first | (focus (refine Own.below (w := V.alloc (.cells #[] 44)) (Own.built V _ (Nat.le_refl _)) ?_; (repeat' (first | assumption | exact bl_refl _ | refine bl_alloc ?_ _ | refine bl_drew ?_)); done)) | (focus (refine Own.below (w := (V.alloc (.cells #[.string y.Person, .int .i64 y.Kind, .int .i64 y.Until] 44)).alloc (.cells #[] 44)) ?_ ?_; (focus (have hbu := Own.built (α := Skill) (V.alloc (.cells #[.string y.Person, .int .i64 y.Kind, .int .i64 y.Until] 44)) 44 (base := V.heap.size) (by simp); simpa using hbu)); (repeat' (first | assumption | exact bl_refl _ | refine bl_alloc ?_ _ | refine bl_drew ?_)); done))); (repeat' (first | assumption | exact bl_refl _ | refine bl_alloc ?_ _ | refine bl_drew ?_)); (exact hst.out.below (by repeat' (first | assumption | exact bl_refl _ | refine bl_alloc ?_ _ | refine bl_drew ?_))); (intro A1 c1 V1 ho1 hB1 hg1))
            | (refine step_appB rfl (.tmp 66) (.tmp 68) _ _ rfl el_skill (xs := xs.take 0) (ys := [y]) (w0 := V) rfl rfl ?_ ?_ ?_ (by omega) ?_; (first | (simpa using ho1) | (exact Own.alloc (by simpa using ho1) _)); (repeat' (first | assumption | exact bl_refl _ | refine bl_alloc ?_ _ | refine bl_drew ?_)); (refine sl_skill1 ?_ ?_ ?_ <;> (first | (focus (go_simp; done)) | (focus (refine (hg1.cell_far _ ?_ ?_).trans ?_ <;> first | (simp; done) | (simp [Value.ownBlock]; done) | (go_simp; done) | (simp [Value.ownBlock]; omega))))); (intro A2 c2 V2 ho2 hB2 hg2))
            | (refine step_appB rfl (.tmp 69) (.tmp 70) _ _ rfl el_skill (xs := xs.take 0 ++ [y]) (ys := xs.drop 0) (w0 := V) rfl rfl ho2 hB2 ((hsd V _).out.below hB2) (by omega) ?_; (intro A3 c3 V3 ho3 hB3 hg3)))
        all_goals
          (try simp only [Nat.zero_add] at ho3)
          (try simp only [Nat.add_zero] at ho3)
          rw [← HY.out] at ho3
          go_wp2_with fail
          refine (drGood_any O _ _ _ _ (by omega) ho3.sl HVO.out).mono ?_
          rintro e V9 ⟨rfl, hb9⟩
          have hk9 := bl_trans (bl_trans hk hB3) hb9
          have ho9 := (ho3.below hb9).mono hk.size
          clear ho3 hB3 hb9 hg3 ho2 hB2 hg2 ho1 hB1 hg1
          by_cases h24 : (0 : Nat) = 24
          · rw [HGf.out h24]
            have Hz := Lib.hid (HZf.out h24)
            go_wp2
            go_ret2
            exact retOwn2_mk Hz.out (Own.nil _ _ _) hk9
          · rw [HGt.out h24]
            have Hz := Lib.hid (HZt.out h24)
            go_wp2
            go_ret2
            exact retOwn2_mk Hz.out ho9 hk9
      · obtain rfl : n = j := by omega
        have hsd : ∀ W B, Hid (Sl W B 0 (xs.drop n)) := fun W B => by
          have e : xs.drop n = [] := List.drop_of_length_le (by omega)
          rw [Hid, e]; exact Sl.nil _ _
        by_cases hcj : n = c
        · subst hcj
          clear hs hsl
          go_wp2_with fail
          refine wp_region_grow (by kernel_rfl) (by kernel_rfl) (fun X hX => ?_)
          have hbX : Below wr.heap.size wr X := by rw [hX]; exact bl_refl _
          have q0 := Gw.cell (cell_later hbX y0)
          have q1 := Gw.cell (cell_later hbX y1)
          have q2 := Gw.cell (cell_later hbX y2)
          have HX := Lib.hid hX
          clear hX
          have y0_ := cell_later hbX y0
          have y1_ := cell_later hbX y1
          have y2_ := cell_later hbX y2
          clear y0 y1 y2
          repeat (go_big_quiet_step (fail))
          refine wpGrow_nil (fun V5 hV => ?_)
          have hbV5 := bl_trans hbX hV
          have y0 := cell_later hV y0_
          have y1 := cell_later hV y1_
          have y2 := cell_later hV y2_
          clear hV hbX HX q0 q1 q2 y0_ y1_ y2_
          go_upto_region 8 with fail
          refine wp_region_grow (by kernel_rfl) (by kernel_rfl) (fun X hX => ?_)
          have hbX : Below V5.heap.size V5 X := by rw [hX]; exact bl_refl _
          have q0 := Gw.cell (cell_later hbX y0)
          have q1 := Gw.cell (cell_later hbX y1)
          have q2 := Gw.cell (cell_later hbX y2)
          have HX := Lib.hid hX
          clear hX
          have y0_ := cell_later hbX y0
          have y1_ := cell_later hbX y1
          have y2_ := cell_later hbX y2
          clear y0 y1 y2
          repeat (go_big_quiet_step (fail))
          refine wpGrow_nil (fun V8 hV => ?_)
          have hbV8 := bl_trans hbX hV
          have y0 := cell_later hV y0_
          have y1 := cell_later hV y1_
          have y2 := cell_later hV y2_
          clear hV hbX HX q0 q1 q2 y0_ y1_ y2_
          have hB9 := bl_trans hbV5 hbV8
          have hst := Lib.hid (hst.out.below hB9)
          have hk := bl_trans hk0 hB9
          obtain ⟨V, hVV⟩ : ∃ W, W = V8 := ⟨_, rfl⟩
          subst hVV
          go_upto_region 12 with fail
          have e0 := y0
          have e1 := y1
          have e2 := y2
          go_region_held3 (fun w' => w'.cell? ⟨w.heap.size, 0, none⟩ = some (.string y.Person) ∧ w'.cell? ⟨w.heap.size, 1, none⟩ = some (.int .i64 y.Kind) ∧ w'.cell? ⟨w.heap.size, 2, none⟩ = some (.int .i64 y.Until)) (refine ⟨cell_later (?_ : Below V.heap.size V _) e0, cell_later (?_ : Below V.heap.size V _) e1, cell_later (?_ : Below V.heap.size V _) e2⟩ <;> (repeat' (first | assumption | exact bl_refl _ | refine bl_alloc ?_ _ | refine bl_drew ?_)))
            (first
              | (refine step_appB rfl (.tmp 62) (.tmp 65) _ _ rfl el_skill (xs := ([] : List Skill)) (ys := xs.take n) (w0 := V) rfl rfl ?_ ?_ ?_ (by omega) ?_; (first | (focus (refine Own.below (w := V.alloc (.cells #[] 44)) (Own.built V _ (Nat.le_refl _)) ?_; (repeat' (first | assumption | exact bl_refl _ | refine bl_alloc ?_ _ | refine bl_drew ?_)); done)) | (focus (refine Own.below (w := (V.alloc (.cells #[.string y.Person, .int .i64 y.Kind, .int .i64 y.Until] 44)).alloc (.cells #[] 44)) ?_ ?_; (focus (have hbu := Own.built (α := Skill) (V.alloc (.cells #[.string y.Person, .int .i64 y.Kind, .int .i64 y.Until] 44)) 44 (base := V.heap.size) (by simp); simpa using hbu)); (repeat' (first | assumption | exact bl_refl _ | refine bl_alloc ?_ _ | refine bl_drew ?_)); done))); (repeat' (first | assumption | exact bl_refl _ | refine bl_alloc ?_ _ | refine bl_drew ?_)); (exact hst.out.below (by repeat' (first | assumption | exact bl_refl _ | refine bl_alloc ?_ _ | refine bl_drew ?_))); (intro A1 c1 V1 ho1 hB1 hg1))
              | (refine step_appB rfl (.tmp 66) (.tmp 68) _ _ rfl el_skill (xs := xs.take n) (ys := [y]) (w0 := V) rfl rfl ?_ ?_ ?_ (by omega) ?_; (first | (simpa using ho1) | (exact Own.alloc (by simpa using ho1) _)); (repeat' (first | assumption | exact bl_refl _ | refine bl_alloc ?_ _ | refine bl_drew ?_)); (refine sl_skill1 ?_ ?_ ?_ <;> (first | (focus (go_simp; done)) | (focus (refine (hg1.cell_far _ ?_ ?_).trans ?_ <;> first | (simp; done) | (simp [Value.ownBlock]; done) | (go_simp; done) | (simp [Value.ownBlock]; omega))))); (intro A2 c2 V2 ho2 hB2 hg2))
              | (refine step_appB rfl (.tmp 69) (.tmp 70) _ _ rfl el_skill (xs := xs.take n ++ [y]) (ys := xs.drop n) (w0 := V) rfl rfl ho2 hB2 ((hsd V _).out.below hB2) (by omega) ?_; (intro A3 c3 V3 ho3 hB3 hg3)))
          all_goals
            (try simp only [Nat.zero_add] at ho3)
            (try simp only [Nat.add_zero] at ho3)
            rw [← HY.out] at ho3
            go_wp2_with fail
            refine (drGood_any O _ _ _ _ (by omega) ho3.sl HVO.out).mono ?_
            rintro e V9 ⟨rfl, hb9⟩
            have hk9 := bl_trans (bl_trans hk hB3) hb9
            have ho9 := (ho3.below hb9).mono hk.size
            clear ho3 hB3 hb9 hg3 ho2 hB2 hg2 ho1 hB1 hg1
            by_cases h24 : n = 24
            · rw [HGf.out h24]
              have Hz := Lib.hid (HZf.out h24)
              go_wp2
              go_ret2
              exact retOwn2_mk Hz.out (Own.nil _ _ _) hk9
            · rw [HGt.out h24]
              have Hz := Lib.hid (HZt.out h24)
              go_wp2
              go_ret2
              exact retOwn2_mk Hz.out ho9 hk9
        · have hck : ¬ c = n := fun e => hcj e.symm
          clear hs hsl
          go_wp2_with fail
          refine wp_region_grow (by kernel_rfl) (by kernel_rfl) (fun X hX => ?_)
          have hbX : Below wr.heap.size wr X := by rw [hX]; exact bl_refl _
          have q0 := Gw.cell (cell_later hbX y0)
          have q1 := Gw.cell (cell_later hbX y1)
          have q2 := Gw.cell (cell_later hbX y2)
          have HX := Lib.hid hX
          clear hX
          have y0_ := cell_later hbX y0
          have y1_ := cell_later hbX y1
          have y2_ := cell_later hbX y2
          clear y0 y1 y2
          repeat (go_big_quiet_step (fail))
          refine wpGrow_nil (fun V5 hV => ?_)
          have hbV5 := bl_trans hbX hV
          have y0 := cell_later hV y0_
          have y1 := cell_later hV y1_
          have y2 := cell_later hV y2_
          clear hV hbX HX q0 q1 q2 y0_ y1_ y2_
          go_upto_region 8 with fail
          refine wp_region_grow (by kernel_rfl) (by kernel_rfl) (fun X hX => ?_)
          have hbX : Below V5.heap.size V5 X := by rw [hX]; exact bl_refl _
          have q0 := Gw.cell (cell_later hbX y0)
          have q1 := Gw.cell (cell_later hbX y1)
          have q2 := Gw.cell (cell_later hbX y2)
          have HX := Lib.hid hX
          clear hX
          have y0_ := cell_later hbX y0
          have y1_ := cell_later hbX y1
          have y2_ := cell_later hbX y2
          clear y0 y1 y2
          repeat (go_big_quiet_step (fail))
          refine wpGrow_nil (fun V8 hV => ?_)
          have hbV8 := bl_trans hbX hV
          have y0 := cell_later hV y0_
          have y1 := cell_later hV y1_
          have y2 := cell_later hV y2_
          clear hV hbX HX q0 q1 q2 y0_ y1_ y2_
          have hB9 := bl_trans hbV5 hbV8
          have hst := Lib.hid (hst.out.below hB9)
          have hk := bl_trans hk0 hB9
          obtain ⟨V, hVV⟩ : ∃ W, W = V8 := ⟨_, rfl⟩
          subst hVV
          go_upto_region 12 with fail
          have e0 := y0
          have e1 := y1
          have e2 := y2
          go_region_held3 (fun w' => w'.cell? ⟨w.heap.size, 0, none⟩ = some (.string y.Person) ∧ w'.cell? ⟨w.heap.size, 1, none⟩ = some (.int .i64 y.Kind) ∧ w'.cell? ⟨w.heap.size, 2, none⟩ = some (.int .i64 y.Until)) (refine ⟨cell_later (?_ : Below V.heap.size V _) e0, cell_later (?_ : Below V.heap.size V _) e1, cell_later (?_ : Below V.heap.size V _) e2⟩ <;> (repeat' (first | assumption | exact bl_refl _ | refine bl_alloc ?_ _ | refine bl_drew ?_)))
            (first
              | (refine step_appB rfl (.tmp 62) (.tmp 65) _ _ rfl el_skill (xs := ([] : List Skill)) (ys := xs.take n) (w0 := V) rfl rfl ?_ ?_ ?_ (by omega) ?_; (first | (focus (refine Own.below (w := V.alloc (.cells #[] 44)) (Own.built V _ (Nat.le_refl _)) ?_; (repeat' (first | assumption | exact bl_refl _ | refine bl_alloc ?_ _ | refine bl_drew ?_)); done)) | (focus (refine Own.below (w := (V.alloc (.cells #[.string y.Person, .int .i64 y.Kind, .int .i64 y.Until] 44)).alloc (.cells #[] 44)) ?_ ?_; (focus (have hbu := Own.built (α := Skill) (V.alloc (.cells #[.string y.Person, .int .i64 y.Kind, .int .i64 y.Until] 44)) 44 (base := V.heap.size) (by simp); simpa using hbu)); (repeat' (first | assumption | exact bl_refl _ | refine bl_alloc ?_ _ | refine bl_drew ?_)); done))); (repeat' (first | assumption | exact bl_refl _ | refine bl_alloc ?_ _ | refine bl_drew ?_)); (exact hst.out.below (by repeat' (first | assumption | exact bl_refl _ | refine bl_alloc ?_ _ | refine bl_drew ?_))); (intro A1 c1 V1 ho1 hB1 hg1))
              | (refine step_appB rfl (.tmp 66) (.tmp 68) _ _ rfl el_skill (xs := xs.take n) (ys := [y]) (w0 := V) rfl rfl ?_ ?_ ?_ (by omega) ?_; (first | (simpa using ho1) | (exact Own.alloc (by simpa using ho1) _)); (repeat' (first | assumption | exact bl_refl _ | refine bl_alloc ?_ _ | refine bl_drew ?_)); (refine sl_skill1 ?_ ?_ ?_ <;> (first | (focus (go_simp; done)) | (focus (refine (hg1.cell_far _ ?_ ?_).trans ?_ <;> first | (simp; done) | (simp [Value.ownBlock]; done) | (go_simp; done) | (simp [Value.ownBlock]; omega))))); (intro A2 c2 V2 ho2 hB2 hg2))
              | (refine step_appB rfl (.tmp 69) (.tmp 70) _ _ rfl el_skill (xs := xs.take n ++ [y]) (ys := xs.drop n) (w0 := V) rfl rfl ho2 hB2 ((hsd V _).out.below hB2) (by omega) ?_; (intro A3 c3 V3 ho3 hB3 hg3)))
          all_goals
            (try simp only [Nat.zero_add] at ho3)
            (try simp only [Nat.add_zero] at ho3)
            rw [← HY.out] at ho3
            go_wp2_with fail
            refine (drGood_any O _ _ _ _ (by omega) ho3.sl HVO.out).mono ?_
            rintro e V9 ⟨rfl, hb9⟩
            have hk9 := bl_trans (bl_trans hk hB3) hb9
            have ho9 := (ho3.below hb9).mono hk.size
            clear ho3 hB3 hb9 hg3 ho2 hB2 hg2 ho1 hB1 hg1
            by_cases h24 : n = 24
            · rw [HGf.out h24]
              have Hz := Lib.hid (HZf.out h24)
              go_wp2
              go_ret2
              exact retOwn2_mk Hz.out (Own.nil _ _ _) hk9
            · rw [HGt.out h24]
              have Hz := Lib.hid (HZt.out h24)
              go_wp2
              go_ret2
              exact retOwn2_mk Hz.out ho9 hk9

end Go.Proofs.Ytgjnjfaohpmhkaa
