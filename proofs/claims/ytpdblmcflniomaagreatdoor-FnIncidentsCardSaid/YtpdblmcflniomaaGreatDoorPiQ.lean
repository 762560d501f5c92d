/-
  ParseIncident: the parts of a text. No conditions.
-/
import Derived.Test.YtpdblmcflniomaaGreatDoorIv37
import Derived.Test.YtpdblmcflniomaaGreatDoorIv39
namespace Go.Proofs.YtpdblmcflniomaaGreatDoor
open Go.RowKit

theorem bang_yes {h : ByteArray} (h0 : 0 < h.size) (hb : Go.PlainAid.bt h (h.size - 1) = 33) : ∃ l : List UInt8, h.data.toList = l ++ [33] ∧ h.extract 0 (h.size - 1) = ⟨l.toArray⟩ := by
  have e1 : h.data.toList[h.size - 1]? = some 33 := bt_eq (by omega) hb
  have hl : h.data.toList.length = h.size := ba_len h
  refine ⟨h.data.toList.take (h.size - 1), ?_, ?_⟩
  · have := List.take_append_drop (h.size - 1) h.data.toList
    rw [List.drop_eq_getElem_cons (by omega), (List.getElem?_eq_some_iff.1 e1).2, List.drop_of_length_le (by omega)] at this
    exact this.symm
  · apply ba_ext
    rw [ba_ex]
    simp
theorem bang_no {h : ByteArray} (hb : ¬ (0 < h.size ∧ Go.PlainAid.bt h (h.size - 1) = 33)) : ∀ l : List UInt8, h.data.toList ≠ l ++ [33] := fun l e => by
  have hl : h.data.toList.length = h.size := ba_len h
  rw [e, List.length_append] at hl
  simp only [List.length_cons, List.length_nil] at hl
  have h0 : 0 < h.size := by omega
  refine hb ⟨h0, ?_⟩
  have e1 : h.data.toList[h.size - 1]? = some 33 := by
    rw [e, List.getElem?_append_right (by omega)]
    have : h.size - 1 - l.length = 0 := by omega
    rw [this]; rfl
  cases hc : decide (Go.PlainAid.bt h (h.size - 1) = 33) with
  | true => exact of_decide_eq_true hc
  | false => exact absurd e1 (bt_ne (by omega) (of_decide_eq_false hc))
noncomputable def pairV (s : ByteArray) : Int × Int := if (cutB 64 s).length = 2 then (rdV (nth (cutB 64 s) 0), rdV (nth (cutB 64 s) 1)) else (-1, -1)
theorem nth2_0 {a b : ByteArray} : nth [a, b] 0 = a := rfl
theorem nth2_1 {a b : ByteArray} : nth [a, b] 1 = b := rfl
theorem pair_good {s : ByteArray} {x : Incident} (h : GoodI s x) : pairV ⟨(numL x).toArray⟩ = (x.Number, x.Node) := by
  obtain ⟨h1, h2, _⟩ := good_bd h
  unfold pairV
  rw [cut_at h, if_pos (by rfl : [itB x.Number, itB x.Node].length = 2)]
  obtain ⟨u, hu⟩ := Int.eq_ofNat_of_zero_le (by omega : 0 ≤ x.Number)
  obtain ⟨v, hv⟩ := Int.eq_ofNat_of_zero_le (by omega : 0 ≤ x.Node)
  have e1 : rdV (itB x.Number) = x.Number := by rw [hu]; exact rdV_it (by omega) rfl
  have e2 : rdV (itB x.Node) = x.Node := by rw [hv]; exact rdV_it (by omega) rfl
  rw [nth2_0, nth2_1, e1, e2]
/-- what a parse has to hold -/
def PX (s : ByteArray) (a b : Int) (cl : Bool) (l : List ByteArray) : Prop := ∀ x, GoodI s x → a = x.Number ∧ b = x.Node ∧ cl = x.Closed ∧ l = x.Names
theorem px_bad1 {s : ByteArray} {a b : Int} {cl : Bool} {l : List ByteArray} (h : PX s a b cl l) (hi : incB a b cl l = false) : ∀ x, ¬ GoodI s x := fun x hx => by
  obtain ⟨rfl, rfl, rfl, rfl⟩ := h x hx
  rw [hx.1] at hi; cases hi
theorem px_bad2 {s : ByteArray} {a b : Int} {cl : Bool} {l : List ByteArray} (h : PX s a b cl l) (hi : sameB (incT a b cl l) s = false) : ∀ x, ¬ GoodI s x := fun x hx => by
  obtain ⟨rfl, rfl, rfl, rfl⟩ := h x hx
  rw [hx.2] at hi
  rw [sameB_refl] at hi; cases hi
theorem px_good {s : ByteArray} {a b : Int} {cl : Bool} {l : List ByteArray} (hi : incB a b cl l = true) (ht : sameB (incT a b cl l) s = true) : GoodI s ⟨a, b, cl, l⟩ := ⟨hi, sameB_iff.1 ht⟩
def BangP (h h2 : ByteArray) (cl : Bool) : Prop := (∃ l : List UInt8, h.data.toList = l ++ [33] ∧ h2 = ⟨l.toArray⟩ ∧ cl = true) ∨ ((∀ l : List UInt8, h.data.toList ≠ l ++ [33]) ∧ h2 = h ∧ cl = false)
theorem px_mk {s h m h2 : ByteArray} {cl : Bool} {a b : Int} (h1 : ∀ x, GoodI s x → h = ⟨(hdL x).toArray⟩ ∧ m = ⟨(nmL x).toArray⟩) (hb : BangP h h2 cl) (hp : ∀ x, GoodI s x → h2 = ⟨(numL x).toArray⟩ → a = x.Number ∧ b = x.Node) : ∀ x, GoodI s x → (a = x.Number ∧ b = x.Node ∧ cl = x.Closed) ∧ m = ⟨(nmL x).toArray⟩ := fun x hx => by
  obtain ⟨e1, e2⟩ := h1 x hx
  have el : h.data.toList = hdL x := by rw [e1]
  have key : cl = x.Closed ∧ h2 = ⟨(numL x).toArray⟩ := by
    rcases hb with ⟨l, hl, rfl, rfl⟩ | ⟨hl, rfl, rfl⟩
    · cases hc : x.Closed with
      | true =>
        have e3 := (hd_bang hx).1 hc
        rw [← el, hl] at e3
        rw [List.append_cancel_right e3]
        exact ⟨rfl, rfl⟩
      | false => exact absurd (el.symm.trans hl) (((hd_bang hx).2 hc).2 l)
    · cases hc : x.Closed with
      | true => exact absurd (el.trans ((hd_bang hx).1 hc)) (hl _)
      | false =>
        refine ⟨rfl, ?_⟩
        rw [e1, ((hd_bang hx).2 hc).1]
  exact ⟨⟨(hp x hx key.2).1, (hp x hx key.2).2, key.1⟩, e2⟩
theorem px_none {s m : ByteArray} {cl : Bool} {a b : Int} (h : ∀ x, GoodI s x → (a = x.Number ∧ b = x.Node ∧ cl = x.Closed) ∧ m = ⟨(nmL x).toArray⟩) (hm : m.size = 0) : PX s a b cl [] := fun x hx => by
  obtain ⟨⟨h1, h2, h3⟩, h4⟩ := h x hx
  refine ⟨h1, h2, h3, ((nm_empty hx).1 ?_).symm⟩
  have h5 : m.data.toList.length = m.size := ba_len m
  rw [h4] at h5 hm
  exact List.eq_nil_of_length_eq_zero (by simpa using h5.trans hm)
theorem px_some {s m : ByteArray} {cl : Bool} {a b : Int} (h : ∀ x, GoodI s x → (a = x.Number ∧ b = x.Node ∧ cl = x.Closed) ∧ m = ⟨(nmL x).toArray⟩) (hm : m.size ≠ 0) : PX s a b cl (cutB 44 m) := fun x hx => by
  obtain ⟨⟨h1, h2, h3⟩, h4⟩ := h x hx
  refine ⟨h1, h2, h3, ?_⟩
  rw [h4]
  refine cut_names hx (fun he => hm ?_)
  have h5 : m.data.toList.length = m.size := ba_len m
  rw [← h5, h4]
  show (nmL x).length = 0
  rw [(nm_empty hx).2 he]; rfl
theorem l1Split_58 (s : ByteArray) (w : World) (hs : s.size ≤ 1048576) : Calls Tryz.prog 70 #[.string s, .int .u8 58] w (RetOwn w 9 (cutB 58 s)) := l1Split_any s 58 w hs
theorem l1Split_64 (s : ByteArray) (w : World) (hs : s.size ≤ 1048576) : Calls Tryz.prog 70 #[.string s, .int .u8 64] w (RetOwn w 9 (cutB 64 s)) := l1Split_any s 64 w hs
theorem l1Split_44 (s : ByteArray) (w : World) (hs : s.size ≤ 1048576) : Calls Tryz.prog 70 #[.string s, .int .u8 44] w (RetOwn w 9 (cutB 44 s)) := l1Split_any s 44 w hs
theorem ret_ii {a a' b b' : Int} (h : a = a') (h' : b = b') : Ending.returned (.tuple #[.int .i64 a, .int .i64 b]) = .returned (.tuple #[.int .i64 a', .int .i64 b']) := by rw [h, h']
theorem l1Read_g (s : ByteArray) (w : World) (hs : s.size ≤ 1048576) : Calls Tryz.prog 100 #[.string s] w fun e w' => e = .returned (.int .i64 (rdV s)) ∧ Below w.heap.size w w' := (l1Read_any s w hs).mono fun _ _ ⟨h, hw⟩ => ⟨h, hw ▸ Below.refl _ _⟩
set_option maxRecDepth 100000 in
set_option maxHeartbeats 4000000 in
theorem hyPair_any (s : ByteArray) (w : World) (hs : s.size ≤ 1048576) : Calls Tryz.prog 71 #[.string s, .int .u8 64] w fun e w' => e = .returned (.tuple #[.int .i64 (pairV s).1, .int .i64 (pairV s).2]) ∧ Below w.heap.size w w' := by
  have HSP := Lib.hid (l1Split_64 s w hs)
  have HBG : Hid (∀ x, x ∈ cutB 64 s → x.size ≤ 1048576) := fun x hx => by have := cut_piece hx; omega
  have HPV : Hid ((cutB 64 s).length = 2 → pairV s = (rdV (nth (cutB 64 s) 0), rdV (nth (cutB 64 s) 1))) := fun h => by unfold pairV; rw [if_pos h]
  have HPN : Hid ((cutB 64 s).length ≠ 2 → pairV s = (-1, -1)) := fun h => by unfold pairV; rw [if_neg h]
  obtain ⟨R, hR⟩ : ∃ R, R = pairV s := ⟨_, rfl⟩
  obtain ⟨P, hP⟩ : ∃ P, P = cutB 64 s := ⟨_, rfl⟩
  rw [← hP] at HSP HBG HPV HPN
  rw [← hR] at HPV HPN ⊢
  clear hP hR
  go_enter Tryz.func71, Tryz.ntmps71
  go_wp2_with fail
  refine HSP.out.mono ?_
  rintro e V ⟨A, c, rfl, ho, hV⟩
  by_cases hl : P.length = 2
  · obtain ⟨b, o, rfl, hbz, c0⟩ := ho.sl.str (k := 0) (by omega)
    obtain ⟨b', o', e', _, c1⟩ := ho.sl.str (k := 1) (by omega)
    injection e' with e'
    injection e' with e1 e2
    subst e1 e2
    obtain ⟨r1, r2⟩ := R
    have hr := HPV.out hl
    injection hr with hr1 hr2
    have h0 := HBG.out _ (nth_mem (by omega : 0 < P.length))
    have h1 := HBG.out _ (nth_mem (by omega : 1 < P.length))
    obtain ⟨pa, hpa⟩ : ∃ pa, pa = nth P 0 := ⟨_, rfl⟩
    obtain ⟨pb, hpb⟩ : ∃ pb, pb = nth P 1 := ⟨_, rfl⟩
    rw [← hpa] at c0 h0 hr1
    rw [← hpb] at c1 h1 hr2
    have HR1 := Lib.hid hr1
    have HR2 := Lib.hid hr2
    clear hpa hpb
    have c0 : V.cell? ⟨b, o, none⟩ = some (.string pa) := c0
    have hcc := ho.cap.1
    rw [hl] at hcc ⊢
    clear ho hl hr1 hr2
    go_wp2_with fail
    refine wp_region_grow (by kernel_rfl) (by kernel_rfl) (fun X hX => ?_)
    have hbX : Below V.heap.size V X := by rw [hX]; exact bl_refl _
    have q0 := Gw.cell (cell_later hbX c0)
    have q1 := Gw.cell (cell_later hbX c1)
    have HX := Lib.hid hX
    clear hX
    repeat (go_big_quiet_step (exact Calls.grow_of (l1Read_g _ _ (by assumption))))
    refine wpGrow_nil (fun V2 hV2 => ?_)
    have hbk := bl_trans hV (bl_trans hbX hV2)
    clear q0 q1 hV2 hbX HX c0 c1
    go_wp2
    go_ret2
    exact ⟨ret_ii HR1.out.symm HR2.out.symm, hbk⟩
  · have hd : ((P.length : Int) != 2) = true := by simp; omega
    have hr := Lib.hid (HPN.out hl)
    clear hl
    go_wp2
    go_ret2
    exact ⟨ret_ii (congrArg Prod.fst hr.out).symm (congrArg Prod.snd hr.out).symm, hV⟩

end Go.Proofs.YtpdblmcflniomaaGreatDoor
