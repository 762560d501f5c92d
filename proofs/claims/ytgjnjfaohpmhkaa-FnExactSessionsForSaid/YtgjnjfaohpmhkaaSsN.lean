/-
  impl's SessionsFor answers ssF. No conditions.
-/
import Derived.Test.YtgjnjfaohpmhkaaSsM
import Derived.Test.YtgjnjfaohpmhkaaMem7
namespace Go.Proofs.Ytgjnjfaohpmhkaa
open Go.RowKit

theorem ssB_parts {xs : List Skill} {day ahead seats : Int} (h1 : askB xs day ahead = true) (h2 : inB seats 1 10 = true) : ssB xs day ahead seats = true := by unfold ssB; rw [h1, h2]; rfl
/-- what a round over the due ones keeps: the full sessions, and the one that is being filled -/
def Fill (xs : List Skill) (day ahead : Int) (m k j : Nat) (full : List (List Int)) (ses : List Int) : Prop :=
  (∀ c, c ∈ full → c.length = m) ∧ ses.length < m ∧ ((dueS xs day ahead).take j).filter (kindK xs (k : Int)) = full.flatten ++ ses
theorem Fill.start (xs : List Skill) (day ahead : Int) {m k : Nat} (hm : 0 < m) : Fill xs day ahead m k 0 [] [] := ⟨(fun c h => by cases h), hm, by simp⟩
theorem take_filter {p : Int → Bool} {l : List Int} {j : Nat} (hj : j < l.length) : (l.take (j + 1)).filter p = (l.take j).filter p ++ (if p (nth l j) then [nth l j] else []) := by
  rw [take_succ hj, List.filter_append]
  congr 1
  by_cases h : p (nth l j) = true
  · rw [if_pos h]; simp [h]
  · rw [if_neg h]; simp [h]
theorem Fill.no {xs : List Skill} {day ahead : Int} {m k j : Nat} {full : List (List Int)} {ses : List Int} (h : Fill xs day ahead m k j full ses) (hj : j < (dueS xs day ahead).length) (hp : kindK xs (k : Int) (nth (dueS xs day ahead) j) = false) : Fill xs day ahead m k (j + 1) full ses :=
  ⟨h.1, h.2.1, by rw [take_filter hj, hp, h.2.2]; simp⟩
theorem Fill.more {xs : List Skill} {day ahead : Int} {m k j : Nat} {full : List (List Int)} {ses : List Int} (h : Fill xs day ahead m k j full ses) (hj : j < (dueS xs day ahead).length) (hp : kindK xs (k : Int) (nth (dueS xs day ahead) j) = true) (hl : ¬ ses.length + 1 = m) : Fill xs day ahead m k (j + 1) full (ses ++ [nth (dueS xs day ahead) j]) :=
  ⟨h.1, by have := h.2.1; rw [List.length_append]; simp; omega, by rw [take_filter hj, hp, h.2.2]; simp⟩
theorem Fill.next {xs : List Skill} {day ahead : Int} {m k j : Nat} {full : List (List Int)} {ses : List Int} (h : Fill xs day ahead m k j full ses) (hj : j < (dueS xs day ahead).length) (hp : kindK xs (k : Int) (nth (dueS xs day ahead) j) = true) (hl : ses.length + 1 = m) : Fill xs day ahead m k (j + 1) (full ++ [ses ++ [nth (dueS xs day ahead) j]]) [] :=
  ⟨fun c hc => by
    rcases List.mem_append.1 hc with hc | hc
    · exact h.1 c hc
    · rw [List.mem_singleton.1 hc, List.length_append]; simp; omega, by show (0 : Nat) < m; omega, by rw [take_filter hj, hp, h.2.2]; simp⟩
theorem Fill.done {xs : List Skill} {day ahead : Int} {m k : Nat} {full : List (List Int)} {ses : List Int} (h : Fill xs day ahead m k (dueS xs day ahead).length full ses) : ssU xs day ahead m (k + 1) = ssU xs day ahead m k ++ full ++ (if ses.length = 0 then [] else [ses]) := by
  have h2 := h.2.2
  rw [List.take_length] at h2
  have hm : 0 < m := Nat.lt_of_le_of_lt (Nat.zero_le _) h.2.1
  rw [ssU_succ, h2, chunk_full hm full ses h.1 h.2.1, List.append_assoc]
/-- the blocks of the sessions lie below -/
def Low (v : Value) (ps : List (IntsR × List Int)) (B : Nat) : Prop := ∀ x, x ∈ intsN.foot v ps → x < B
theorem Low.of {w : World} {base : Nat} {E E' : TypeId} {v : Value} {ps : List (IntsR × List Int)} (h : OwnP intsN w base E E' v ps) : Low v ps w.heap.size := fun x hx => (h.lies x hx).2
/-- one session more in the list of sessions -/
theorem out_snoc {w w' : World} {base sb : Nat} {A A' A2 : Option Addr} {n c m c' q2 c2 : Nat} {ps : List (IntsR × List Int)} {l : List Int} (h : OwnP intsN w base 38 3 (.slice A n c) ps) (hs : Own w sb 3 (.slice A2 q2 c2) l) (hsb : base ≤ sb) (hlow : Low (.slice A n c) ps sb)
    (ho : Own w' base 38 (.slice A' m c') (ps.map Prod.fst ++ [(⟨A2, q2, c2⟩ : IntsR)])) (hf : OnlyF (Value.ownBlock (.slice A n c)).toList w w') : OwnP intsN w' base 38 3 (.slice A' m c') (ps ++ [((⟨A2, q2, c2⟩ : IntsR), l)]) := by
  refine h.snoc ho (hi := Own.only (hs.mono hsb) hf (fun y hy hm => ?_)) hf (fun x hx j q hq hx' => ?_)
  · have hy' : (Value.slice A2 q2 c2).ownBlock = some y := by simpa using (show y ∈ (Value.slice A2 q2 c2).ownBlock.toList from hy)
    have hm' : (Value.slice A n c).ownBlock = some y := by simpa using hm
    obtain ⟨c1, e1⟩ := h.out.ty hm'
    obtain ⟨c2', e2⟩ := hs.ty hy'
    rw [e1] at e2
    injection e2 with e2
    injection e2 with _ e3
    exact absurd e3 (by decide)
  · have h1 := (hs.lt x hx).1
    have h2 := hlow x (Nest.mem_foot _ |>.2 (.inr ⟨j, q, hq, hx'⟩))
    omega
set_option maxRecDepth 100000 in
set_option maxHeartbeats 16000000 in
theorem implSessionsFor_any (xs : List Skill) (day ahead seats : Int) (A : Option Addr) (n c : Nat) (w : World) (hn : (n : Int) ≤ 9223372036854775807) (hs : Sl w A n xs) (hv : ∀ x, x ∈ xs → x.Person.size ≤ maxLen) :
    Calls Try.prog 8 #[.slice A n c, .int .i64 day, .int .i64 ahead, .int .i64 seats] w (RetOwnX2 intsN w 38 3 (ssF xs day ahead seats)) := by
  have HV := Lib.hid hv
  have HL := Lib.hid hs.1
  have hne : 38 ≠ 3 := by decide
  have HNE := Lib.hid hne
  clear hv hne
  go_enter Try.func8, Try.ntmps8
  go_wp2_with fail
  refine (areSkills_any xs _ _ _ _ hn (hs.below (bl_alloc (bl_refl _) _)) HV.out).mono ?_
  rintro e V1 ⟨rfl, hb1⟩
  have hk1 := bl_trans (bl_alloc (bl_refl w) (.cells #[.slice A n c] 27)) hb1
  have e1 : V1.cell? ⟨w.heap.size, 0, none⟩ = some (.slice A n c) := cell_later hb1 (by go_simp)
  have hbz : w.heap.size < V1.heap.size := World.block_lt_of_cell? _ _ e1
  clear hb1
  cases h0 : skillsB xs
  · have Hz := Lib.hid (ssF_no (xs := xs) (day := day) (ahead := ahead) (seats := seats) (by rw [ssB, askB, h0]; rfl))
    clear h0
    go_wp2
    go_ret2
    exact retOwnX2_nil HNE.out Hz.out hk1
  have H0 := Lib.hid h0
  clear h0
  go_wp2_with fail
  refine (isDay_any day _).mono ?_
  rintro _ V1 ⟨rfl, rfl⟩
  cases h1 : inB day 0 20000
  · have Hz := Lib.hid (ssF_no (xs := xs) (day := day) (ahead := ahead) (seats := seats) (by rw [ssB, askB, h1]; simp))
    clear h1
    go_wp2
    go_ret2
    exact retOwnX2_nil HNE.out Hz.out hk1
  have H1 := Lib.hid h1
  clear h1
  go_wp2_with fail
  refine (inside_any ahead 0 1000 _).mono ?_
  rintro _ V1 ⟨rfl, rfl⟩
  cases h2 : inB ahead 0 1000
  · have Hz := Lib.hid (ssF_no (xs := xs) (day := day) (ahead := ahead) (seats := seats) (by rw [ssB, askB, h2]; simp))
    clear h2
    go_wp2
    go_ret2
    exact retOwnX2_nil HNE.out Hz.out hk1
  have H2 := Lib.hid h2
  clear h2
  go_wp2_with fail
  refine (inside_any seats 1 10 _).mono ?_
  rintro _ V1 ⟨rfl, rfl⟩
  cases h3 : inB seats 1 10
  · have Hz := Lib.hid (ssF_no (xs := xs) (day := day) (ahead := ahead) (seats := seats) (by rw [ssB, h3]; simp))
    clear h3
    go_wp2
    go_ret2
    exact retOwnX2_nil HNE.out Hz.out hk1
  have HK : Hid (askB xs day ahead = true) := by rw [Hid, askB, H0.out, H1.out, H2.out]; rfl
  have Hz := Lib.hid (ssF_yes (ssB_parts HK.out h3))
  obtain ⟨s0, s1⟩ := inB_iff.1 h3
  obtain ⟨hl, hd, ha⟩ := askB_parts HK.out
  have hn2 : n ≤ 24 := by have := HL.out; omega
  obtain ⟨m, hm⟩ : ∃ m : Nat, (m : Int) = seats := ⟨seats.toNat, by omega⟩
  subst hm
  rw [Int.toNat_natCast] at Hz
  have hm1 : 0 < m := by omega
  have hm2 : m ≤ 10 := by omega
  clear h3 hl H0 H1 H2 s0 s1
  go_wp2_with fail
  refine (dueSkills_any xs day ahead _ _ _ _ (by omega) hd.1 hd.2 ha.1 ha.2 (hs.below hk1)).mono ?_
  rintro e V2 ⟨A_r, c_r, rfl, ho_r, hb2⟩
  have hk2 := bl_trans hk1 hb2
  have e2 : V2.cell? ⟨w.heap.size, 0, none⟩ = some (.slice A n c) := cell_later hb2 e1
  have E2 := Lib.hid e2
  have hq : (dueU xs day ahead n).length ≤ n := dueU_len xs day ahead n
  obtain ⟨nd, hnd⟩ : ∃ nd, (dueU xs day ahead n).length = nd := ⟨_, rfl⟩
  rw [hnd] at ho_r hq ⊢
  have hdl : ∀ g, A_r = some ⟨g, 0, none⟩ → V1.heap.size ≤ g := fun g hg => (ho_r.lt g (by rw [hg]; rfl)).1
  have hal : ∀ b o, A = some ⟨b, o, none⟩ → 0 < n → b < w.heap.size := fun b o hA h0 => by
    subst hA; exact hs.lt h0
  have hup : (dueU xs day ahead n).Pairwise (fun u v => keyU xs u = keyU xs v → u < v) := List.Pairwise.imp (R := fun a b : Int => a < b) (S := fun u v => keyU xs u = keyU xs v → u < v) (fun h _ => h) (dueU_up xs day ahead n)
  have hsort := Lib.hid (sortStable_any A_r V1.heap.size nd c_r (dueU xs day ahead n) 44 #[.pointer (some ⟨w.heap.size, 0, none⟩)] _ (keyU xs) _ V2 enters_ses (fun g hg => ses_cmp xs A n c w.heap.size g V2 e2 (hs.below hk2) (by have := hdl g hg; omega) (fun b o hA h0 => by have := hdl g hg; have := hal b o hA h0; omega)) (fun x y => cmpI_key _ _) (by omega) (fun x hx => by
      obtain ⟨j, hj, -, e⟩ := dueU_mem.1 hx
      exact ⟨j, hj, e⟩) hup ho_r)
  have HD := Lib.hid hnd
  clear hal ho_r e2 hnd hup
  go_wp2_with fail
  refine hsort.out.mono ?_
  rintro e V3 ⟨rfl, ⟨M, p1, p2, ho3⟩, hf3⟩
  have hM : M = dueS xs day ahead := by rw [← show xs.length = n from HL.out] at p1; exact sortK_is (dueU_nodup _ _ _ _) p2 p1
  rw [hM] at ho3
  have hfb : Below V1.heap.size V2 V3 := ⟨hf3.os, hf3.tape, hf3.output, hf3.size, fun k hk => hf3.block k (by have := hb2.size; omega) (fun hm => by
      have hg : (Value.slice A_r nd c_r).ownBlock = some k := by simpa using hm
      cases A_r with
      | none => cases hg
      | some a =>
        obtain ⟨ab, ao, an⟩ := a
        rcases ho3.2 with ⟨hv, _⟩ | ⟨g, cap, cur, hv, _⟩
        · cases hv
        · injection hv with hv
          injection hv with hv
          injection hv with v1 v2 v3
          subst v1 v2 v3
          injection hg with hg
          have h5 : V1.heap.size ≤ ab := hdl ab rfl
          have hg2 : ab = k := hg
          omega)⟩
  have hb3 : Below V1.heap.size V1 V3 := hb2.trans hfb
  have hk3 : Below w.heap.size w V3 := bl_trans hk1 hb3
  have e3 : V3.cell? ⟨w.heap.size, 0, none⟩ = some (.slice A n c) := cell_later hb3 e1
  have hsd := ho3.sl
  have hsl := hs.below hk3
  have hdl2 : (dueS xs day ahead).length = nd := ho3.sl.1
  have HDL := Lib.hid hdl2
  have HS := Lib.hid hs
  have hmem : Hid (∀ j, j < nd → ∃ i : Nat, i < n ∧ (i : Int) = nth (dueS xs day ahead) j) := by
    intro j hj
    have h1 : nth (dueS xs day ahead) j ∈ dueS xs day ahead := nth_mem (by rw [hdl2]; exact hj)
    obtain ⟨i, hi, -, e⟩ := dueU_mem.1 (dueS_mem.1 h1)
    exact ⟨i, by have := HL.out; omega, e⟩
  have hbz3 : w.heap.size < V3.heap.size := World.block_lt_of_cell? _ _ e3
  clear hk1 hk2 hb2 hfb hb3 e1 E2 ho3 p1 p2 hM hf3 hdl hdl2 hs HD hsort hbz HK hd ha
  go_wp2
  go_loopw [11, 41] (fun ov iv wr => ∃ (k q c' : Nat) (A' : Option Addr) (ps : List (IntsR × List Int)), k ≤ 6 ∧ iv = .int .i64 k ∧ ov = .slice A' q c' ∧ q ≤ k * 24 ∧ OwnP intsN wr V3.heap.size 38 3 (.slice A' q c') ps ∧ Hid (intsN.plain ps = ssU xs day ahead m k) ∧ Below V3.heap.size V3 wr) (fun _ iv _ => 6 - (intOf iv).toNat)
  case atStart => exact ⟨0, 0, 0, none, [], by omega, rfl, rfl, by omega, OwnP.nil intsN _ _ HNE.out, rfl, bl_refl _⟩
  case round =>
    obtain ⟨k, q, c', A', ps, hk, rfl, rfl, hqk, hop, hpl, hb⟩ := hrel
    by_cases hlt : k < 6
    · have hk6 : decide ((k : Int) < 6) = true := decide_eq_true (by omega)
      obtain ⟨wo, hwo⟩ : ∃ wo, wo = wr := ⟨_, rfl⟩
      subst hwo
      go_wp2
      go_loopw [11, 13, 46] (fun ov sv jv wr => ∃ (j q c' q2 c2 sb : Nat) (A' A2 : Option Addr) (ps : List (IntsR × List Int)) (full : List (List Int)) (ses : List Int), j ≤ nd ∧ jv = .int .i64 j ∧ ov = .slice A' q c' ∧ sv = .slice A2 q2 c2 ∧ OwnP intsN wr V3.heap.size 38 3 (.slice A' q c') ps ∧ Own wr sb 3 (.slice A2 q2 c2) ses ∧ V3.heap.size ≤ sb ∧ sb ≤ wr.heap.size ∧ q2 < m ∧ q + q2 ≤ k * 24 + j ∧ Hid (Low (.slice A' q c') ps sb ∧ intsN.plain ps = ssU xs day ahead m k ++ full ∧ Fill xs day ahead m k j full ses) ∧ Below V3.heap.size V3 wr) (fun _ _ jv _ => nd - (intOf jv).toNat)
      case atStart => exact ⟨0, q, c', 0, 0, wo.heap.size, A', none, ps, [], [], Nat.zero_le _, rfl, rfl, rfl, hop, Own.nil _ _ _, hb.size, Nat.le_refl _, hm1, by omega, ⟨Low.of hop, by rw [hpl.out, List.append_nil], Fill.start xs day ahead hm1⟩, hb⟩
      case round =>
        clear hop hpl hqk hb
        obtain ⟨j, q, c', q2, c2, sb, A', A2, ps, full, ses, hj, rfl, rfl, rfl, hop, hos, hs1, hs2, hq2, hqq, HH, hb⟩ := hrel
        have hsl2 := Lib.hid hos.sl.1
        by_cases hjn : j < nd
        · obtain ⟨iN, hiN, hie⟩ := hmem.out j hjn
          obtain ⟨b, o, rfl, hbb, d0⟩ := (hsd.below hb).int hjn
          rw [← hie] at d0
          obtain ⟨b', o', rfl, hbb', g0, g1, g2⟩ := (hsl.below hb).skill hiN
          have e4 := cell_later hb e3
          have HIE := Lib.hid hie
          have HJ : Hid (j < (dueS xs day ahead).length) := by rw [Hid, HDL.out]; exact hjn
          obtain ⟨kd, hkd⟩ : ∃ kd, (nth xs iN).Kind = kd := ⟨_, rfl⟩
          rw [hkd] at g1
          have HKD : Hid (kindK xs (k : Int) (nth (dueS xs day ahead) j) = (kd == (k : Int))) := by rw [Hid, kindK, ← hie, Int.toNat_natCast, hkd]
          clear hsd hsl hie g0 g2 hkd e3
          by_cases hkk : kd = (k : Int)
          · have hne : (kd != (k : Int)) = false := by rw [hkk]; simp
            have HKK : Hid (kindK xs (k : Int) (nth (dueS xs day ahead) j) = true) := by rw [Hid, HKD.out, hkk]; simp
            clear hkk HKD
            by_cases hlm : q2 + 1 = m
            · have hm3 : ((q2 : Int) + 1 == (m : Int)) = true := by rw [← hlm]; simp
              have hm4 : decide ((q2 : Int) + 1 = (m : Int)) = true := by simp; omega
              have hm5 : decide (q2 + 1 = m) = true := decide_eq_true hlm
              have HLM := Lib.hid hlm
              clear hlm
              go_wp2_with (first
                | (at_builtin; refine wpList_app1r rfl (.tmp 57) (.tmp 59) _ _ rfl el_int (iN : Int) rfl hos hs2 rfl rfl (by omega) ?_; intro A3 c3 w3 ho3 hf3; have hop3 := hop.only hf3 (fun k hk hm => by have h1 := HH.out.1 k hk; have h2 := (hos.lt k (by simpa using hm)).1; omega); have hb3 := below_only hb hf3 hos.lies hs1; have hsz3 := hf3.size)
                | (at_builtin; refine wpList_app1r rfl (.tmp 65) (.tmp 67) _ _ rfl el_ints (⟨A3, q2 + 1, c3⟩ : IntsR) rfl hop3.out hb3.size rfl rfl (by omega) ?_; intro A4 c4 w4 ho4 hf4))
              have hop4 := out_snoc hop3 ho3 hs1 HH.out.1 ho4 hf4
              have hb4 := below_only hb3 hf4 hop3.out.lies (Nat.le_refl _)
              go_roundw
              case rel => exact ⟨j + 1, q + 1, c4, 0, 0, w4.heap.size, A4, none, _, full ++ [ses ++ [(iN : Int)]], [], by omega, by go_num, rfl, rfl, hop4, Own.nil _ _ _, hb4.size, Nat.le_refl _, hm1, by omega, ⟨Low.of hop4, by unfold Nest.plain; rw [List.map_append, ← List.append_assoc]; have := HH.out.2.1; unfold Nest.plain at this; rw [this]; rfl, by rw [HIE.out]; exact HH.out.2.2.next HJ.out HKK.out (by have := hsl2.out; have := HLM.out; omega)⟩, hb4⟩
              case measure => simp [intOf]; omega
            · have hm3 : ((q2 : Int) + 1 == (m : Int)) = false := by simp; omega
              have hm4 : decide ((q2 : Int) + 1 = (m : Int)) = false := by simp; omega
              have hm5 : decide (q2 + 1 = m) = false := decide_eq_false hlm
              have HLM := Lib.hid hlm
              have hq3 : q2 + 1 < m := by omega
              clear hlm
              go_wp2_with ((at_builtin; refine wpList_app1r rfl (.tmp 57) (.tmp 59) _ _ rfl el_int (iN : Int) rfl hos hs2 rfl rfl (by omega) ?_; intro A3 c3 w3 ho3 hf3; have hop3 := hop.only hf3 (fun k hk hm => by have h1 := HH.out.1 k hk; have h2 := (hos.lt k (by simpa using hm)).1; omega); have hb3 := below_only hb hf3 hos.lies hs1; have hsz3 := hf3.size))
              go_roundw
              case rel => exact ⟨j + 1, q, c', q2 + 1, c3, sb, A', A3, ps, full, ses ++ [(iN : Int)], by omega, by go_num, rfl, rfl, hop3, ho3, hs1, by omega, hq3, by omega, ⟨HH.out.1, HH.out.2.1, by rw [HIE.out]; exact HH.out.2.2.more HJ.out HKK.out (by have := hsl2.out; omega)⟩, hb3⟩
              case measure => simp [intOf]; omega
          · have hne : (kd != (k : Int)) = true := by simp [bne, hkk]
            have HKK : Hid (kindK xs (k : Int) (nth (dueS xs day ahead) j) = false) := by rw [Hid, HKD.out]; simpa using hkk
            clear hkk HKD
            go_wp2
            go_roundw
            case rel => exact ⟨j + 1, q, c', q2, c2, sb, A', A2, ps, full, ses, by omega, by go_num, rfl, rfl, hop, hos, hs1, hs2, hq2, by omega, ⟨HH.out.1, HH.out.2.1, HH.out.2.2.no HJ.out HKK.out⟩, hb⟩
            case measure => simp [intOf]; omega
        · obtain rfl : j = nd := by omega
          have hjj : decide (j < j) = false := decide_eq_false (Nat.lt_irrefl _)
          have HF : Hid (ssU xs day ahead m (k + 1) = ssU xs day ahead m k ++ full ++ (if ses.length = 0 then [] else [ses])) := by
            have h := HH.out.2.2
            rw [← HDL.out] at h
            exact h.done
          by_cases hq0 : q2 = 0
          · subst hq0
            have HF2 : Hid (intsN.plain ps = ssU xs day ahead m (k + 1)) := by rw [Hid, HF.out, if_pos hsl2.out, List.append_nil]; exact HH.out.2.1
            clear HF HH
            go_wp2
            go_roundw
            case rel => exact ⟨k + 1, q, c', A', ps, by omega, by go_num, rfl, by omega, hop, HF2.out, hb⟩
            case measure => simp [intOf]; omega
          · have hq1 : 0 < q2 := by omega
            have hq1d : decide (0 < q2) = true := decide_eq_true hq1
            have HF2 : Hid (ssU xs day ahead m (k + 1) = intsN.plain ps ++ [ses]) := by rw [Hid, HF.out, if_neg (by have := hsl2.out; omega), HH.out.2.1]
            clear HF
            go_wp2_with ((at_builtin; refine wpList_app1r rfl (.tmp 73) (.tmp 75) _ _ rfl el_ints (⟨A2, q2, c2⟩ : IntsR) rfl hop.out hb.size rfl rfl (by omega) ?_; intro A4 c4 w4 ho4 hf4))
            have hop4 := out_snoc hop hos hs1 HH.out.1 ho4 hf4
            have hb4 := below_only hb hf4 hop.out.lies (Nat.le_refl _)
            go_roundw
            case rel => exact ⟨k + 1, q + 1, c4, A4, _, by omega, by go_num, rfl, by omega, hop4, by rw [Hid, HF2.out]; unfold Nest.plain; rw [List.map_append]; rfl, hb4⟩
            case measure => simp [intOf]; omega
    · obtain rfl : k = 6 := by omega
      go_wp2
      go_ret2
      exact retOwnX2_mk Hz.out hpl.out (hop.mono hk3.size) (bl_trans hk3 hb)
end Go.Proofs.Ytgjnjfaohpmhkaa
