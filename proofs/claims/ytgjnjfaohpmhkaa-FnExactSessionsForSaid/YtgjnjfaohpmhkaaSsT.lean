/-
  spec's SessionsFor answers ssF. No conditions.
-/
import Derived.Test.YtgjnjfaohpmhkaaSsO
import Derived.Deep.CutBlock
namespace Go.Proofs.Ytgjnjfaohpmhkaa
open Go.RowKit

/-- a slice's length -/
def lenV : Value → Nat
  | .slice _ n _ => n
  | _ => 0
theorem chunk_step {m : Nat} {L : List Int} {r qr nn : Nat} (hm : 0 < m) (hl : (L.drop r).length = qr) (hq : 0 < qr) (hn : min m qr = nn) : chunk m (L.drop r) = (L.drop r).take nn :: chunk m (L.drop (r + nn)) := by
  rw [chunk_cons hm (by omega), List.drop_drop]
  rcases Nat.le_total m qr with h | h
  · rw [Nat.min_eq_left h] at hn; subst hn; rfl
  · rw [Nat.min_eq_right h] at hn
    subst hn
    have e1 : (L.drop r).take m = L.drop r := List.take_of_length_le (by omega)
    have e2 : (L.drop r).take qr = L.drop r := List.take_of_length_le (by omega)
    rw [e1, e2]
    rw [List.length_drop] at hl
    have e3 : L.drop (r + m) = [] := List.drop_of_length_le (by omega)
    have e4 : L.drop (r + qr) = [] := List.drop_of_length_le (by omega)
    rw [e3, e4]
/-- a list of ints and a list of sessions have no block in common -/
theorem int_apart {w : World} {base sb : Nat} {v v2 : Value} {ps : List (IntsR × List Int)} {l : List Int} (h : OwnP intsN w base 38 3 v ps) (hs : Own w sb 3 v2 l) : ∀ y, y ∈ v2.ownBlock.toList → y ∉ v.ownBlock.toList := fun y hy hm => by
  have hy' : v2.ownBlock = some y := by simpa using hy
  have hm' : v.ownBlock = some y := by simpa using hm
  obtain ⟨c1, e1⟩ := h.out.ty hm'
  obtain ⟨c2', e2⟩ := hs.ty hy'
  rw [e1] at e2
  injection e2 with e2
  injection e2 with _ e3
  exact absurd e3 (by decide)
theorem l1OwnN_any (A : Option Addr) (n c : Nat) (xs : List Int) (w : World) (hn : n ≤ 1048576) (hs : Sl w A n xs) :
    Calls Try.prog 36 #[.slice A n c] w fun e w' => ∃ A' c', e = .returned (.slice A' n c') ∧ Own w' w.heap.size 3 (.slice A' n c') xs ∧ Below w.heap.size w w' := by
  have hl := hs.1
  refine (l1Own_any A n c xs w hn hs).mono ?_
  rintro e V ⟨A', c', rfl, ho, hb⟩
  rw [hl] at ho
  rw [hl]
  exact ⟨A', c', rfl, ho, hb⟩
set_option maxRecDepth 100000 in
set_option maxHeartbeats 16000000 in
theorem specSessionsFor_any (xs : List Skill) (day ahead seats : Int) (A : Option Addr) (n c : Nat) (w : World) (hn : (n : Int) ≤ 9223372036854775807) (hs : Sl w A n xs) (hv : ∀ x, x ∈ xs → x.Person.size ≤ maxLen) :
    Calls Try.prog 6 #[.slice A n c, .int .i64 day, .int .i64 ahead, .int .i64 seats] w (RetOwnX2 intsN w 38 3 (ssF xs day ahead seats)) := by
  have HV := Lib.hid hv
  have HL := Lib.hid hs.1
  have hne : 38 ≠ 3 := by decide
  have HNE := Lib.hid hne
  clear hv hne
  go_enter Try.func6, Try.ntmps6
  go_wp2_with fail
  refine (drAsked_any xs day ahead _ _ _ _ hn hs HV.out).mono ?_
  rintro e V1 ⟨rfl, hk1⟩
  cases h0 : askB xs day ahead
  · have Hz := Lib.hid (ssF_no (xs := xs) (day := day) (ahead := ahead) (seats := seats) (by rw [ssB, h0]; rfl))
    clear h0
    go_wp2
    go_ret2
    exact retOwnX2_nil HNE.out Hz.out hk1
  have HK := Lib.hid h0
  clear h0
  go_wp2_with fail
  refine (l1In_any seats 1 10 _).mono ?_
  rintro _ V1 ⟨rfl, rfl⟩
  cases h3 : inB seats 1 10
  · have Hz := Lib.hid (ssF_no (xs := xs) (day := day) (ahead := ahead) (seats := seats) (by rw [ssB, h3]; simp))
    clear h3
    go_wp2
    go_ret2
    exact retOwnX2_nil HNE.out Hz.out hk1
  have Hz := Lib.hid (ssF_yes (ssB_parts HK.out h3))
  obtain ⟨s0, s1⟩ := inB_iff.1 h3
  obtain ⟨hl, hd, ha⟩ := askB_parts HK.out
  have hn2 : n ≤ 24 := by have := HL.out; omega
  obtain ⟨m, hm⟩ : ∃ m : Nat, (m : Int) = seats := ⟨seats.toNat, by omega⟩
  subst hm
  rw [Int.toNat_natCast] at Hz
  have hm1 : 0 < m := by omega
  have hm2 : m ≤ 10 := by omega
  clear h3 hl s0 s1 HK HV
  go_wp2
  go_loopw [10, 11] (fun ov iv wr => ∃ (k q c' : Nat) (A' : Option Addr) (ps : List (IntsR × List Int)), k ≤ 6 ∧ iv = .int .i64 k ∧ ov = .slice A' q c' ∧ q ≤ k * 24 ∧ OwnP intsN wr w.heap.size 38 3 (.slice A' q c') ps ∧ Hid (intsN.plain ps = ssU xs day ahead m k) ∧ Below w.heap.size w wr) (fun _ iv _ => 6 - (intOf iv).toNat)
  case atStart => exact ⟨0, 0, 0, none, [], by omega, rfl, rfl, by omega, OwnP.nil intsN _ _ HNE.out, rfl, hk1⟩
  case round =>
    obtain ⟨k, q, c', A', ps, hk, rfl, rfl, hqk, hop, hpl, hb⟩ := hrel
    clear hk1
    by_cases hlt : k < 6
    · have hk6 : decide ((k : Int) < 6) = true := decide_eq_true (by omega)
      have hk7 : decide (k < 6) = true := decide_eq_true hlt
      go_wp2_with fail
      refine (drDue_any xs day ahead _ _ _ _ (by omega) hd.1 hd.2 ha.1 ha.2 (hs.below hb)).mono ?_
      rintro e V2 ⟨A_r, c_r, rfl, ho_r, hb2⟩
      have hkb := bl_trans hb hb2
      have hop2 := hop.below hb2
      have hq0 : (dueU xs day ahead n).length ≤ n := dueU_len xs day ahead n
      obtain ⟨nd, hnd⟩ : ∃ nd, (dueU xs day ahead n).length = nd := ⟨_, rfl⟩
      rw [hnd] at ho_r hq0 ⊢
      have hsd := ho_r.sl
      have HDL := Lib.hid hnd
      have hmem : Hid (∀ j, j < nd → ∃ i : Nat, i < n ∧ (i : Int) = nth (dueU xs day ahead n) j) := by
        intro j hj
        obtain ⟨i, hi, -, e⟩ := dueU_mem.1 (nth_mem (by rw [hnd]; exact hj) : nth (dueU xs day ahead n) j ∈ dueU xs day ahead n)
        exact ⟨i, hi, e⟩
      have hsl := hs.below hkb
      have HOP := Lib.hid hop2
      have HKB := Lib.hid hkb
      clear hop hop2 hb hb2 hkb ho_r hnd
      go_wp2
      go_loopw [12, 36] (fun lv jv wr => ∃ (j q2 c2 : Nat) (A2 : Option Addr) (L : List Int), j ≤ nd ∧ jv = .int .i64 j ∧ lv = .slice A2 q2 c2 ∧ Own wr V2.heap.size 3 (.slice A2 q2 c2) L ∧ Hid (SoFar xs day ahead n k j L) ∧ Below V2.heap.size V2 wr) (fun _ jv _ => nd - (intOf jv).toNat)
      case atStart => exact ⟨0, 0, 0, none, [], Nat.zero_le _, rfl, rfl, Own.nil _ _ _, ⟨by simp, List.Pairwise.nil⟩, bl_refl _⟩
      case round =>
        obtain ⟨j, q2, c2, A2, L, hj, rfl, rfl, hoL, HH, hbr⟩ := hrel
        by_cases hjn : j < nd
        · obtain ⟨iN, hiN, hie⟩ := hmem.out j hjn
          obtain ⟨b, o, rfl, hbb, d0⟩ := (hsd.below hbr).int hjn
          rw [← hie] at d0
          obtain ⟨b', o', rfl, hbb', g0, g1, g2⟩ := (hsl.below hbr).skill hiN
          have HIE := Lib.hid hie
          have HJ : Hid (j < (dueU xs day ahead n).length) := by rw [Hid, HDL.out]; exact hjn
          obtain ⟨kd, hkd⟩ : ∃ kd, (nth xs iN).Kind = kd := ⟨_, rfl⟩
          obtain ⟨ux, hux⟩ : ∃ ux, (nth xs iN).Until = ux := ⟨_, rfl⟩
          rw [hkd] at g1
          rw [hux] at g2
          have HKD : Hid (kindK xs (k : Int) (nth (dueU xs day ahead n) j) = (kd == (k : Int))) := by rw [Hid, kindK, ← hie, Int.toNat_natCast, hkd]
          have HUX : Hid (keyU xs (nth (dueU xs day ahead n) j) = ux) := by rw [Hid, keyU, ← hie, Int.toNat_natCast, hux]
          have hql := Lib.hid hoL.sl.1
          clear hie g0 hkd hux
          by_cases hkk : kd = (k : Int)
          · have hne : (kd != (k : Int)) = false := by rw [hkk]; simp
            have HKK : Hid (kindK xs (k : Int) (nth (dueU xs day ahead n) j) = true) := by rw [Hid, HKD.out, hkk]; simp
            have hqj : q2 ≤ j := by have := HH.out.len; have := hql.out; omega
            obtain ⟨hqc, hcm⟩ := hoL.cap
            unfold maxLen at hcm
            clear hkk HKD
            obtain ⟨wo, hwo⟩ : ∃ wo, wo = wr := ⟨_, rfl⟩
            subst hwo
            go_upto_block 4 with fail
            clear d0 g1
            go_cut [15] (fun kv wx => ∃ p : Nat, kv = .int .i64 p ∧ p ≤ q2 ∧ Hid ((p = 0 ∨ keyU xs (nth L (p - 1)) ≤ keyU xs (nth (dueU xs day ahead n) j)) ∧ (∀ q, p ≤ q → q < L.length → keyU xs (nth (dueU xs day ahead n) j) < keyU xs (nth L q))) ∧ Below wo.heap.size wo wx)
            case first =>
              go_wp2_with fail
              go_loopw [15] (fun kv wr => ∃ p : Nat, kv = .int .i64 p ∧ p ≤ q2 ∧ Hid (∀ q, p ≤ q → q < L.length → keyU xs (nth (dueU xs day ahead n) j) < keyU xs (nth L q)) ∧ Below wo.heap.size wo wr) (fun kv _ => (intOf kv).toNat)
              case atStart => exact ⟨q2, rfl, Nat.le_refl _, fun q h1 h2 => absurd h1 (by have := hql.out; omega), bl_refl _⟩
              case round =>
                obtain ⟨p, rfl, hpq, HP, hbp⟩ := hrel
                by_cases hp0 : 0 < p
                · have hpd : decide (0 < p) = true := decide_eq_true hp0
                  obtain ⟨p', hp'⟩ : ∃ p', p = p' + 1 := ⟨p - 1, by omega⟩
                  have wp1 : IntKind.i64.wrap ((p : Int) - 1) = (p' : Int) := by rw [IntWalk.i64_in _ (by omega)]; omega
                  have hpn : p' < q2 := by omega
                  obtain ⟨iP, hiP, hpe⟩ := HH.out.mem (p := p') (by have := hql.out; omega)
                  obtain ⟨b2, o2, rfl, hbb2, e0⟩ := ((hoL.below hbp).sl).int hpn
                  rw [← hpe] at e0
                  obtain ⟨b3, o3, he, hbb3, f0, f1, f2⟩ := (hsl.below (bl_trans hbr hbp)).skill hiP
                  injection he with he
                  injection he with ex ey
                  subst ex ey
                  obtain ⟨up, hup⟩ : ∃ up, (nth xs iP).Until = up := ⟨_, rfl⟩
                  rw [hup] at f2
                  have HUP : Hid (keyU xs (nth L p') = up) := by rw [Hid, keyU, ← hpe, Int.toNat_natCast, hup]
                  have HP1 := Lib.hid hp'
                  have g3 := cell_later hbp g2
                  clear f0 f1 hpe hup hp'
                  by_cases hgt : ux < up
                  · have hgd : decide (ux < up) = true := decide_eq_true hgt
                    go_wp2_with fail
                    refine wp_region_grow (by kernel_rfl) (by kernel_rfl) (fun X hX => ?_)
                    have r0 := Gw.cell (by rw [hX]; exact e0 : X.cell? _ = _)
                    have r1 := Gw.cell (by rw [hX]; exact f2 : X.cell? _ = _)
                    have r2 := Gw.cell (by rw [hX]; exact g3 : X.cell? _ = _)
                    have HX := Lib.hid hX
                    clear hX e0 f2 g3
                    repeat (go_big_quiet_step (fail))
                    refine wpGrow_nil (fun V hV => ?_)
                    have hbV := bl_trans hbp (by rw [← HX.out]; exact hV)
                    clear hV r0 r1 r2
                    go_wp2
                    go_roundw
                    case rel => exact ⟨p', by go_num, by omega, fun q h1 h2 => by
                          by_cases hq : q = p'
                          · rw [hq, HUP.out, HUX.out]; exact hgt
                          · exact HP.out q (by have := HP1.out; omega) h2, hbV⟩
                    case measure => have := HP1.out; simp only [intOf]; omega
                  · have hgd : decide (ux < up) = false := decide_eq_false hgt
                    go_wp2_with fail
                    refine wp_region_grow (by kernel_rfl) (by kernel_rfl) (fun X hX => ?_)
                    have r0 := Gw.cell (by rw [hX]; exact e0 : X.cell? _ = _)
                    have r1 := Gw.cell (by rw [hX]; exact f2 : X.cell? _ = _)
                    have r2 := Gw.cell (by rw [hX]; exact g3 : X.cell? _ = _)
                    have HX := Lib.hid hX
                    clear hX e0 f2 g3
                    repeat (go_big_quiet_step (fail))
                    refine wpGrow_nil (fun V hV => ?_)
                    have hbV := bl_trans hbp (by rw [← HX.out]; exact hV)
                    clear hV r0 r1 r2
                    go_wp2
                    go_meet
                    exact ⟨p, rfl, hpq, ⟨.inr (by have := HP1.out; rw [show p - 1 = p' by omega, HUP.out, HUX.out]; omega), HP.out⟩, hbV⟩
                · obtain rfl : p = 0 := by omega
                  go_wp2_with fail
                  refine wp_region_grow (by kernel_rfl) (by kernel_rfl) (fun X hX => ?_)
                  have HX := Lib.hid hX
                  clear hX
                  repeat (go_big_quiet_step (fail))
                  refine wpGrow_nil (fun V hV => ?_)
                  have hbV := bl_trans hbp (by rw [← HX.out]; exact hV)
                  clear hV
                  go_wp2
                  go_meet
                  exact ⟨0, rfl, hpq, ⟨.inl rfl, HP.out⟩, hbV⟩
            case rest =>
              obtain ⟨p, rfl, hpq, HP, hbx⟩ := hcut
              clear g2
              obtain ⟨V, hV⟩ : ∃ W, W = wc := ⟨_, rfl⟩
              subst hV
              have hoV := hoL.below hbx
              have HO := Lib.hid (HH.out.ins HJ.out HKK.out (p := p) (by have := hql.out; omega) HP.out.1 HP.out.2)
              have hst : Hid (Sl V A2 p (L.take p)) := hoV.sl.take hpq
              have hbrV := bl_trans hbr hbx
              have hpc : (p : Int) ≤ c2 := by omega
              have hpq2 : (p : Int) ≤ q2 := by omega
              have hp0 : (0 : Int) ≤ p := by omega
              rw [← HIE.out] at HO
              have hinl : (L.take p ++ [(iN : Int)] ++ L.drop p).length = q2 + 1 := by simp only [List.length_append, List.length_take, List.length_drop, List.length_singleton]; have := hql.out; omega
              obtain ⟨Y, hY⟩ : ∃ Y, Y = L.take p ++ [(iN : Int)] ++ L.drop p := ⟨_, rfl⟩
              rw [← hY] at HO hinl
              have HY := Lib.hid hY
              have HYL := Lib.hid hinl
              clear hY hinl
              by_cases hplt : p < q2
              · obtain ⟨g, rfl⟩ := hoV.form (by omega)
                have hck : ¬ c2 = p := by omega
                have hsd2 : Hid (Sl V (some ⟨g, p, none⟩) (q2 - p) (L.drop p)) := by
                  have h := hoV.sl.drop hpq
                  have e : Flat.sz Int = 1 := rfl
                  rw [e, Nat.mul_one, Nat.zero_add] at h
                  exact h
                clear hoL hoV hsd hsl hbx
                go_upto_region 15 with fail
                go_region_held3 (fun w' => Below V.heap.size V w') (repeat' (first | assumption | exact bl_refl _ | refine bl_alloc ?_ _ | refine bl_drew ?_))
                  (first
                    | (go_at_call 36; refine (l1OwnN_any _ _ _ (L.take p) _ (by omega) (hst.out.below (by repeat' (first | assumption | exact bl_refl _ | refine bl_alloc ?_ _ | refine bl_drew ?_)))).mono ?_; rintro e V1 ⟨A1, c1, rfl, ho1, hB1r⟩; replace ho1 := ho1.mono (base' := V.heap.size) (by (first | (exact Nat.le_refl _) | (simp; done))); have hB1 : Below V.heap.size V V1 := bl_trans (by repeat' (first | assumption | exact bl_refl _ | refine bl_alloc ?_ _ | refine bl_drew ?_)) hB1r)
                    | (refine step_appB rfl (.tmp 73) (.tmp 75) _ _ rfl el_int (xs := L.take p) (ys := [(iN : Int)]) (w0 := V) rfl rfl ?_ ?_ (sl_int1 ?_) (by omega) ?_; (first | (exact ho1) | (exact ho1.alloc _)); (repeat' (first | assumption | exact bl_refl _ | refine bl_alloc ?_ _ | refine bl_drew ?_)); (first | (focus (go_simp; done)) | (focus (refine cell_later hB1r ?_; go_simp; done))); (intro A2' c2' V2' ho2' hB2' hg2'))
                    | (refine step_appB rfl (.tmp 76) (.tmp 79) _ _ rfl el_int (xs := L.take p ++ [(iN : Int)]) (ys := L.drop p) (w0 := V) rfl rfl ho2' hB2' (hsd2.out.below hB2') (by omega) ?_; (intro A3 c3 V3 ho3 hB3 hg3)))
                all_goals
                  (try simp only [Nat.zero_add] at ho3)
                  (try simp only [Nat.add_zero] at ho3)
                  rw [← HY.out] at ho3
                  go_wp2
                  all_goals (go_roundw; (case rel => exact ⟨j + 1, p + 1 + (q2 - p), c3, A3, Y, by omega, by go_num, rfl, ho3.mono hbrV.size, HO.out, bl_trans hbrV hB3⟩); (case measure => simp [intOf]; omega))
              · obtain rfl : p = q2 := by omega
                have hsd2 : ∀ B, Hid (Sl V B 0 (L.drop p)) := fun B => by
                  have e : L.drop p = [] := by rw [← hql.out]; simp
                  rw [Hid, e]; exact Sl.nil _ _
                clear hoL hoV hsd hsl hbx
                by_cases hck : c2 = p
                · subst hck
                  go_upto_region 15 with fail
                  go_region_held3 (fun w' => Below V.heap.size V w') (repeat' (first | assumption | exact bl_refl _ | refine bl_alloc ?_ _ | refine bl_drew ?_))
                    (first
                      | (go_at_call 36; refine (l1OwnN_any _ _ _ (L.take c2) _ (by omega) (hst.out.below (by repeat' (first | assumption | exact bl_refl _ | refine bl_alloc ?_ _ | refine bl_drew ?_)))).mono ?_; rintro e V1 ⟨A1, c1, rfl, ho1, hB1r⟩; replace ho1 := ho1.mono (base' := V.heap.size) (by (first | (exact Nat.le_refl _) | (simp; done))); have hB1 : Below V.heap.size V V1 := bl_trans (by repeat' (first | assumption | exact bl_refl _ | refine bl_alloc ?_ _ | refine bl_drew ?_)) hB1r)
                      | (refine step_appB rfl (.tmp 73) (.tmp 75) _ _ rfl el_int (xs := L.take c2) (ys := [(iN : Int)]) (w0 := V) rfl rfl ?_ ?_ (sl_int1 ?_) (by omega) ?_; (first | (exact ho1) | (exact ho1.alloc _)); (repeat' (first | assumption | exact bl_refl _ | refine bl_alloc ?_ _ | refine bl_drew ?_)); (first | (focus (go_simp; done)) | (focus (refine cell_later hB1r ?_; go_simp; done))); (intro A2' c2' V2' ho2' hB2' hg2'))
                      | (refine step_appB rfl (.tmp 76) (.tmp 79) _ _ rfl el_int (xs := L.take c2 ++ [(iN : Int)]) (ys := L.drop c2) (w0 := V) rfl rfl ho2' hB2' ((hsd2 _).out.below hB2') (by omega) ?_; (intro A3 c3 V3 ho3 hB3 hg3)))
                  all_goals
                    (try simp only [Nat.zero_add] at ho3)
                    (try simp only [Nat.add_zero] at ho3)
                    rw [← HY.out] at ho3
                    go_wp2
                    all_goals (go_roundw; (case rel => exact ⟨j + 1, c2 + 1, c3, A3, Y, by omega, by go_num, rfl, ho3.mono hbrV.size, HO.out, bl_trans hbrV hB3⟩); (case measure => simp [intOf]; omega))
                · skip
                  go_upto_region 15 with fail
                  go_region_held3 (fun w' => Below V.heap.size V w') (repeat' (first | assumption | exact bl_refl _ | refine bl_alloc ?_ _ | refine bl_drew ?_))
                    (first
                      | (go_at_call 36; refine (l1OwnN_any _ _ _ (L.take p) _ (by omega) (hst.out.below (by repeat' (first | assumption | exact bl_refl _ | refine bl_alloc ?_ _ | refine bl_drew ?_)))).mono ?_; rintro e V1 ⟨A1, c1, rfl, ho1, hB1r⟩; replace ho1 := ho1.mono (base' := V.heap.size) (by (first | (exact Nat.le_refl _) | (simp; done))); have hB1 : Below V.heap.size V V1 := bl_trans (by repeat' (first | assumption | exact bl_refl _ | refine bl_alloc ?_ _ | refine bl_drew ?_)) hB1r)
                      | (refine step_appB rfl (.tmp 73) (.tmp 75) _ _ rfl el_int (xs := L.take p) (ys := [(iN : Int)]) (w0 := V) rfl rfl ?_ ?_ (sl_int1 ?_) (by omega) ?_; (first | (exact ho1) | (exact ho1.alloc _)); (repeat' (first | assumption | exact bl_refl _ | refine bl_alloc ?_ _ | refine bl_drew ?_)); (first | (focus (go_simp; done)) | (focus (refine cell_later hB1r ?_; go_simp; done))); (intro A2' c2' V2' ho2' hB2' hg2'))
                      | (refine step_appB rfl (.tmp 76) (.tmp 79) _ _ rfl el_int (xs := L.take p ++ [(iN : Int)]) (ys := L.drop p) (w0 := V) rfl rfl ho2' hB2' ((hsd2 _).out.below hB2') (by omega) ?_; (intro A3 c3 V3 ho3 hB3 hg3)))
                  all_goals
                    (try simp only [Nat.zero_add] at ho3)
                    (try simp only [Nat.add_zero] at ho3)
                    rw [← HY.out] at ho3
                    go_wp2
                    all_goals (go_roundw; (case rel => exact ⟨j + 1, p + 1, c3, A3, Y, by omega, by go_num, rfl, ho3.mono hbrV.size, HO.out, bl_trans hbrV hB3⟩); (case measure => simp [intOf]; omega))
          · have hne : (kd != (k : Int)) = true := by simp [bne, hkk]
            have HKK : Hid (kindK xs (k : Int) (nth (dueU xs day ahead n) j) = false) := by rw [Hid, HKD.out]; simpa using hkk
            clear hkk HKD
            go_wp2
            go_roundw
            case rel => exact ⟨j + 1, q2, c2, A2, L, by omega, by go_num, rfl, hoL, HH.out.no HJ.out HKK.out, hbr⟩
            case measure => simp [intOf]; omega
        · obtain rfl : j = nd := by omega
          have hjj : decide (j < j) = false := decide_eq_false (Nat.lt_irrefl _)
          have HL1 : Hid (L = (dueS xs day ahead).filter (kindK xs (k : Int))) := by
            have h := HH.out
            rw [← HDL.out] at h
            exact h.done HL.out
          have hql : L.length = q2 := hoL.sl.1
          have hqj : q2 ≤ j := by have := HH.out.len; omega
          obtain ⟨hqc, hcm⟩ := hoL.cap
          have hop3 := HOP.out.below hbr
          have hkb := bl_trans HKB.out hbr
          have HQL := Lib.hid hql
          have HV2 : Hid (V2.heap.size ≤ wr.heap.size) := hbr.size
          have hstart : 0 < q2 → ∃ g : Nat, A2 = some ⟨g, 0, none⟩ ∧ A2 = some ⟨g, 0, none⟩ := fun h => by
            obtain ⟨g, hg⟩ := hoL.form h
            exact ⟨g, hg, hg⟩
          have hcm2 : c2 ≤ 9223372036854775807 := by unfold maxLen at hcm; omega
          have HST := Lib.hid hstart
          clear hcm HOP HKB hsl hsd hmem HDL HH hql hbr hd ha hstart
          obtain ⟨wo, hwo⟩ : ∃ wo, wo = wr := ⟨_, rfl⟩
          subst hwo
          go_wp2
          go_loopw [10, 12] (fun ov lv wr => ∃ (q c' r qr cr : Nat) (A' Ar : Option Addr) (ps : List (IntsR × List Int)), ov = .slice A' q c' ∧ lv = .slice Ar qr cr ∧ r + qr = q2 ∧ qr ≤ cr ∧ cr ≤ 9223372036854775807 ∧ Hid (0 < qr → ∃ g : Nat, A2 = some ⟨g, 0, none⟩ ∧ Ar = some ⟨g, r, none⟩) ∧ OwnP intsN wr w.heap.size 38 3 (.slice A' q c') ps ∧ Own wr V2.heap.size 3 (.slice A2 q2 c2) L ∧ q + qr ≤ (k + 1) * 24 ∧ Hid (intsN.plain ps ++ chunk m (L.drop r) = ssU xs day ahead m k ++ chunk m L) ∧ Below w.heap.size w wr) (fun _ lv _ => lenV lv)
          case atStart => exact ⟨q, c', 0, q2, c2, A', A2, ps, rfl, rfl, by omega, hqc, hcm2, HST, hop3, hoL, by omega, by rw [Hid, hpl.out]; rfl, hkb⟩
          case round =>
            clear hoL hop3 hkb hqc hcm2 HST hqk hpl
            obtain ⟨q, c', r, qr, cr, A', Ar, ps, rfl, rfl, hrq, hqc, hcm, him, hop, hoL, hqq, HP, hb⟩ := hrel
            by_cases hq : 0 < qr
            · have hqd : decide (0 < qr) = true := decide_eq_true hq
              obtain ⟨g, rfl, rfl⟩ := him.out hq
              obtain ⟨nn, hnn⟩ : ∃ nn, min m qr = nn := ⟨_, rfl⟩
              have hle : Hid (Calls Try.prog 37 #[.int .i64 (m : Int), .int .i64 (qr : Int)] wr fun e w' => e = .returned (.int .i64 (nn : Int)) ∧ w' = wr) := by
                have h := l1LeastI_any (m : Int) (qr : Int) wr
                rw [leastI_nat, hnn] at h
                exact h
              have n1 : nn ≤ qr := by omega
              have n2 : 0 < nn := by omega
              have hst : Sl wr (some ⟨g, r, none⟩) nn ((L.drop r).take nn) := by
                have h := hoL.sl.drop (i := r) (by omega)
                have e : Flat.sz Int = 1 := rfl
                rw [e, Nat.mul_one, Nat.zero_add, show q2 - r = qr by omega] at h
                exact h.take (by omega)
              have hdl : (L.drop r).length = qr := by rw [List.length_drop, HQL.out]; omega
              have HC := Lib.hid (chunk_step hm1 hdl hq hnn)
              have nc : (nn : Int) ≤ cr := by omega
              have nq : (nn : Int) ≤ qr := by omega
              have n0 : (0 : Int) ≤ nn := by omega
              have HNN := Lib.hid hnn
              have hown := Lib.hid (l1OwnN_any (some ⟨g, r, none⟩) nn cr _ wr (by omega) hst)
              have hlow := Lib.hid (Low.of hop)
              have hsz := hb.size
              clear hst hnn hdl him
              go_wp2_with fail
              refine hle.out.mono ?_
              rintro _ wr ⟨rfl, rfl⟩
              go_wp2_with fail
              refine hown.out.mono ?_
              rintro _ V3 ⟨A3, c3, rfl, ho3, hb3⟩
              have hop3 := hop.below hb3
              have hoL3 := hoL.below hb3
              have hkb3 := bl_trans hb hb3
              clear hop hoL hb hown hle
              have hfin : ∀ (A4 : Option Addr) (c4 : Nat) (w4 : World), Own w4 w.heap.size 38 (.slice A4 (q + 1) c4) (ps.map Prod.fst ++ [(⟨A3, nn, c3⟩ : IntsR)]) → OnlyF (Value.ownBlock (.slice A' q c')).toList V3 w4 →
                  OwnP intsN w4 w.heap.size 38 3 (.slice A4 (q + 1) c4) (ps ++ [((⟨A3, nn, c3⟩ : IntsR), (L.drop r).take nn)]) ∧ Own w4 V2.heap.size 3 (.slice (some ⟨g, 0, none⟩) q2 c2) L ∧ Below w.heap.size w w4 ∧ Hid (intsN.plain (ps ++ [((⟨A3, nn, c3⟩ : IntsR), (L.drop r).take nn)]) ++ chunk m (L.drop (r + nn)) = ssU xs day ahead m k ++ chunk m L) := by
                intro A4 c4 w4 ho4 hf4
                refine ⟨out_snoc hop3 ho3 hsz hlow.out ho4 hf4, hoL3.only hf4 (int_apart hop3 hoL3), below_only hkb3 hf4 hop3.out.lies (Nat.le_refl _), ?_⟩
                rw [Hid, ← HP.out, HC.out]
                unfold Nest.plain
                rw [List.map_append, List.append_assoc]
                rfl
              have HFin := Lib.hid hfin
              clear hfin
              by_cases hnq : nn < qr
              · have hck : ¬ cr = nn := by omega
                go_wp2_with ((at_builtin; refine wpList_app1r rfl (.tmp 89) (.tmp 94) _ _ rfl el_ints (⟨A3, nn, c3⟩ : IntsR) rfl hop3.out hkb3.size rfl rfl (by omega) ?_; intro A4 c4 w4 ho4 hf4))
                obtain ⟨r1, r2, r3, r4⟩ := HFin.out A4 c4 w4 ho4 hf4
                go_roundw
                case rel => exact ⟨q + 1, c4, r + nn, qr - nn, cr - nn, A4, some ⟨g, r + nn, none⟩, _, rfl, rfl, by omega, by omega, by omega, fun _ => ⟨g, rfl, rfl⟩, r1, r2, by omega, r4, r3⟩
                case measure => simp [lenV]; omega
              · obtain rfl : nn = qr := by omega
                by_cases hck : cr = nn
                · subst hck
                  go_wp2_with ((at_builtin; refine wpList_app1r rfl (.tmp 89) (.tmp 94) _ _ rfl el_ints (⟨A3, cr, c3⟩ : IntsR) rfl hop3.out hkb3.size rfl rfl (by omega) ?_; intro A4 c4 w4 ho4 hf4))
                  obtain ⟨r1, r2, r3, r4⟩ := HFin.out A4 c4 w4 ho4 hf4
                  go_roundw
                  case rel => exact ⟨q + 1, c4, r + cr, 0, 0, A4, _, _, rfl, rfl, by omega, by omega, by omega, fun h => absurd h (by omega), r1, r2, by omega, r4, r3⟩
                  case measure => simp [lenV]; omega
                · go_wp2_with ((at_builtin; refine wpList_app1r rfl (.tmp 89) (.tmp 94) _ _ rfl el_ints (⟨A3, nn, c3⟩ : IntsR) rfl hop3.out hkb3.size rfl rfl (by omega) ?_; intro A4 c4 w4 ho4 hf4))
                  obtain ⟨r1, r2, r3, r4⟩ := HFin.out A4 c4 w4 ho4 hf4
                  go_roundw
                  case rel => exact ⟨q + 1, c4, r + nn, 0, cr - nn, A4, _, _, rfl, rfl, by omega, by omega, by omega, fun h => absurd h (by omega), r1, r2, by omega, r4, r3⟩
                  case measure => simp [lenV]; omega
            · obtain rfl : qr = 0 := by omega
              have HFin : Hid (intsN.plain ps = ssU xs day ahead m (k + 1)) := by
                have h := HP.out
                rw [List.drop_of_length_le (by rw [HQL.out]; omega), chunk_nil, List.append_nil] at h
                rw [Hid, h, ssU_succ, ← HL1.out]
              clear HP HL1
              go_wp2
              go_roundw
              case rel => exact ⟨k + 1, q, c', A', ps, by omega, by go_num, rfl, by omega, hop, HFin.out, hb⟩
              case measure => simp [intOf]; omega
    · obtain rfl : k = 6 := by omega
      go_wp2
      go_ret2
      exact retOwnX2_mk Hz.out hpl.out hop hb
end Go.Proofs.Ytgjnjfaohpmhkaa
