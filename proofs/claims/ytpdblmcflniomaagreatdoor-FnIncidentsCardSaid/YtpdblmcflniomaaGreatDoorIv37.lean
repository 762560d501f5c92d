/-
  Several texts in one. No conditions.
-/
import Derived.Test.YtpdblmcflniomaaGreatDoorIv33
import Derived.Test.YtpdblmcflniomaaGreatDoorIv36
import Derived.Test.YtpdblmcflniomaaGreatDoorIv27
import Derived.Test.YtpdblmcflniomaaGreatDoorIv35
import Derived.Test.YtpdblmcflniomaaGreatDoorIv30
import Derived.Test.YtpdblmcflniomaaGreatDoorIv18
import Derived.Test.YtpdblmcflniomaaGreatDoorIv20
import Derived.Test.YtpdblmcflniomaaGreatDoorIv15
namespace Go.Proofs.YtpdblmcflniomaaGreatDoor
open Go.RowKit

def GoodI (s : ByteArray) (x : Incident) : Prop := incB x.Number x.Node x.Closed x.Names = true ∧ incT x.Number x.Node x.Closed x.Names = s
/-- the text ahead of the colon; the numbers in it; the names behind -/
def numL (x : Incident) : List UInt8 := (itB x.Number).data.toList ++ 64 :: (itB x.Node).data.toList
def hdL (x : Incident) : List UInt8 := if x.Closed then numL x ++ [33] else numL x
def nmL (x : Incident) : List UInt8 := Lib.join (x.Names.map (·.data.toList)) [44]
theorem good_text {s : ByteArray} {x : Incident} (h : GoodI s x) : s.data.toList = hdL x ++ 58 :: nmL x := by
  rw [← h.2]
  unfold incT
  rw [nmT_join _ (Nat.le_refl _), List.take_length]
  unfold hdT hdL nmL numL
  split <;> simp
theorem good_bd {s : ByteArray} {x : Incident} (h : GoodI s x) : (1 ≤ x.Number ∧ x.Number ≤ 999) ∧ (0 ≤ x.Node ∧ x.Node ≤ 13) ∧ x.Names.length ≤ 12 ∧ ∀ k, k < x.Names.length → (nth x.Names k).size ≤ 6 := inc_bd h.1
theorem good_names {s : ByteArray} {x : Incident} (h : GoodI s x) : ∀ y, y ∈ x.Names → nameB y = true := by
  have h1 := incB_names h.1
  unfold allNm at h1
  intro y hy
  obtain ⟨k, hk, rfl⟩ := List.getElem_of_mem hy
  have := allB_iff.1 h1 k hk
  rwa [nth_get (List.getElem?_eq_getElem hk)] at this
theorem nm_bytes {y : ByteArray} (h : nameB y = true) : ∀ b ∈ y.data.toList, 48 ≤ b.toNat ∧ b.toNat ≠ 58 ∧ b.toNat ≠ 64 := by
  intro b hb
  obtain ⟨k, hk, e⟩ := List.getElem_of_mem hb
  rw [ba_len] at hk
  simp only [nameB, Bool.and_eq_true] at h
  have h1 := allB_iff.1 h.1 k hk
  have h2 : Go.PlainAid.bt y k = (b.toNat : Int) := by
    rw [← e]; unfold Go.PlainAid.bt; simp [hk]; rfl
  simp only [nameC, Bool.or_eq_true, Bool.and_eq_true, h2] at h1
  rcases h1 with h1 | ⟨_, h1⟩
  · have := inB_iff.1 h1; omega
  · have := inB_iff.1 h1; omega
theorem nm_size {y : ByteArray} (h : nameB y = true) : 1 ≤ y.size := by
  simp only [nameB, Bool.and_eq_true] at h
  have := inB_iff.1 h.2
  omega
theorem dg_no {n : Int} (h0 : 0 ≤ n) {c : UInt8} (hc : c.toNat < 48 ∨ 57 < c.toNat) : c ∉ (itB n).data.toList := dig_not (it_dig h0) hc
theorem num_no {s : ByteArray} {x : Incident} (h : GoodI s x) {c : UInt8} (hc : c.toNat < 48 ∨ 57 < c.toNat) (h64 : c ≠ 64) : c ∉ numL x := by
  obtain ⟨h1, h2, _⟩ := good_bd h
  unfold numL
  rw [List.mem_append, List.mem_cons]
  rintro (h | h | h)
  · exact dg_no (by omega) hc h
  · exact h64 h
  · exact dg_no (by omega) hc h
theorem hd_no {s : ByteArray} {x : Incident} (h : GoodI s x) : (58 : UInt8) ∉ hdL x := by
  unfold hdL
  split
  · rw [List.mem_append, List.mem_singleton]
    rintro (h' | h')
    · exact num_no h (by decide) (by decide) h'
    · exact absurd h' (by decide)
  · exact num_no h (by decide) (by decide)
theorem join_mem (c : UInt8) (hc : c ≠ 44) : ∀ (ls : List (List UInt8)), (∀ l, l ∈ ls → c ∉ l) → c ∉ Lib.join ls [44]
  | [], _ => by rw [Lib.join_nil]; simp
  | x :: r, h => by
    rw [Lib.join_cons]
    unfold Lib.joinTail
    rw [List.mem_append, List.mem_flatten]
    rintro (h' | ⟨l, hl, h'⟩)
    · exact h x List.mem_cons_self h'
    · rw [List.mem_map] at hl
      obtain ⟨y, hy, rfl⟩ := hl
      rcases List.mem_append.1 h' with h' | h'
      · exact hc (List.mem_singleton.1 h')
      · exact h y (List.mem_cons_of_mem _ hy) h'
theorem nm_no {s : ByteArray} {x : Incident} (h : GoodI s x) : (58 : UInt8) ∉ nmL x := by
  refine join_mem 58 (by decide) _ (fun l hl hm => ?_)
  rw [List.mem_map] at hl
  obtain ⟨y, hy, rfl⟩ := hl
  exact ((nm_bytes (good_names h y hy)) _ hm).2.1 rfl
theorem cut_colon {s : ByteArray} {x : Incident} (h : GoodI s x) : cutB 58 s = [⟨(hdL x).toArray⟩, ⟨(nmL x).toArray⟩] := by
  unfold cutB
  rw [good_text h, cutL_app _ (hd_no h), cutL_none (nm_no h)]
  rfl
theorem cut_at {s : ByteArray} {x : Incident} (h : GoodI s x) : cutB 64 ⟨(numL x).toArray⟩ = [itB x.Number, itB x.Node] := by
  obtain ⟨h1, h2, _⟩ := good_bd h
  unfold cutB
  show (cutL 64 (numL x)).map _ = _
  unfold numL
  rw [cutL_app _ (dg_no (by omega) (by decide)), cutL_none (dg_no (by omega) (by decide))]
  rfl
theorem cut_join : ∀ (ls : List (List UInt8)), ls ≠ [] → (∀ l, l ∈ ls → (44 : UInt8) ∉ l) → cutL 44 (Lib.join ls [44]) = ls
  | [], h, _ => absurd rfl h
  | [x], _, h => by rw [Lib.join_one, cutL_none (h x List.mem_cons_self)]
  | x :: y :: r, _, h => by
    have ih := cut_join (y :: r) (by simp) (fun l hl => h l (List.mem_cons_of_mem _ hl))
    have e : Lib.join (x :: y :: r) [44] = x ++ 44 :: Lib.join (y :: r) [44] := by
      rw [Lib.join_cons, Lib.join_cons]
      simp [Lib.joinTail]
    rw [e, cutL_app _ (h x List.mem_cons_self), ih]
theorem cut_names {s : ByteArray} {x : Incident} (h : GoodI s x) (hne : x.Names ≠ []) : cutB 44 ⟨(nmL x).toArray⟩ = x.Names := by
  unfold cutB
  show (cutL 44 (nmL x)).map _ = _
  unfold nmL
  rw [cut_join _ (by simpa using hne) (fun l hl => by
    rw [List.mem_map] at hl
    obtain ⟨y, hy, rfl⟩ := hl
    intro hm
    have := ((nm_bytes (good_names h y hy)) _ hm).1
    exact absurd this (by decide)), List.map_map]
  exact List.map_id'' (fun y => rfl) _
theorem nm_empty {s : ByteArray} {x : Incident} (h : GoodI s x) : nmL x = [] ↔ x.Names = [] := by
  unfold nmL
  constructor
  · intro he
    cases hx : x.Names with
    | nil => rfl
    | cons y r =>
      rw [hx, List.map_cons, Lib.join_cons] at he
      have h1 : y.data.toList = [] := (List.append_eq_nil_iff.1 he).1
      have h2 := nm_size (good_names h y (by rw [hx]; exact List.mem_cons_self))
      have h3 : y.data.toList.length = y.size := ba_len y
      rw [h1] at h3
      simp at h3
      omega
  · intro he; rw [he]; rfl
theorem hd_bang {s : ByteArray} {x : Incident} (h : GoodI s x) : (x.Closed = true → hdL x = numL x ++ [33]) ∧ (x.Closed = false → hdL x = numL x ∧ ∀ l : List UInt8, hdL x ≠ l ++ [33]) := by
  unfold hdL
  constructor
  · intro hc; rw [if_pos hc]
  · intro hc
    rw [if_neg (by rw [hc]; exact Bool.false_ne_true)]
    exact ⟨rfl, fun l e => num_no h (c := 33) (by decide) (by decide) (by rw [e]; simp)⟩
theorem good_inj {s : ByteArray} {x y : Incident} (h1 : GoodI s x) (h2 : GoodI s y) : x = y := by
  have e1 := cut_colon h1
  rw [cut_colon h2] at e1
  injection e1 with e1 e2
  injection e2 with e2 _
  have e1' : hdL y = hdL x := by injection e1 with e1; simpa using congrArg Array.toList e1
  have e2' : nmL y = nmL x := by injection e2 with e2; simpa using congrArg Array.toList e2
  have hcl : x.Closed = y.Closed := by
    cases hx : x.Closed with
    | true =>
      cases hy : y.Closed with
      | true => rfl
      | false => exact absurd (e1'.trans ((hd_bang h1).1 hx)) (((hd_bang h2).2 hy).2 _)
    | false =>
      cases hy : y.Closed with
      | false => rfl
      | true => exact absurd (e1'.symm.trans ((hd_bang h2).1 hy)) (((hd_bang h1).2 hx).2 _)
  have hnum : numL y = numL x := by
    cases hx : x.Closed with
    | true =>
      have a := (hd_bang h1).1 hx
      have b := (hd_bang h2).1 (hcl.symm.trans hx)
      rw [a, b] at e1'
      exact List.append_cancel_right e1'
    | false =>
      have a := ((hd_bang h1).2 hx).1
      have b := ((hd_bang h2).2 (hcl.symm.trans hx)).1
      rw [a, b] at e1'
      exact e1'
  have e3 := cut_at h1
  rw [← hnum, cut_at h2] at e3
  injection e3 with e3 e4
  injection e4 with e4 _
  obtain ⟨a1, a2, _⟩ := good_bd h1
  obtain ⟨b1, b2, _⟩ := good_bd h2
  have hN := it_inj (by omega) (by omega) (by omega) (by omega) e3
  have hM := it_inj (by omega) (by omega) (by omega) (by omega) e4
  have hNm : x.Names = y.Names := by
    by_cases hx : x.Names = []
    · have := (nm_empty h1).2 hx
      rw [← e2'] at this
      rw [hx, (nm_empty h2).1 this]
    · have hy : y.Names ≠ [] := fun hy => by
        have := (nm_empty h2).2 hy
        rw [e2'] at this
        exact hx ((nm_empty h1).1 this)
      have := cut_names h1 hx
      rw [← e2', cut_names h2 hy] at this
      exact this.symm
  cases x; cases y
  simp only at hcl hN hM hNm
  subst hcl hN hM hNm
  rfl
open Classical in
noncomputable def piF (s : ByteArray) : Incident × Bool := if h : ∃ x, GoodI s x then (h.choose, true) else (⟨0, 0, false, []⟩, false)
theorem piF_yes {s : ByteArray} {x : Incident} (h : GoodI s x) : piF s = (x, true) := by
  have hx : ∃ x, GoodI s x := ⟨x, h⟩
  unfold piF
  rw [dif_pos hx, good_inj hx.choose_spec h]
theorem piF_no {s : ByteArray} (h : ∀ x, ¬ GoodI s x) : piF s = (⟨0, 0, false, []⟩, false) := by
  unfold piF
  rw [dif_neg (fun ⟨x, hx⟩ => h x hx)]
theorem piF_len (s : ByteArray) : (piF s).1.Names.length ≤ 1048576 := by
  by_cases hx : ∃ x, GoodI s x
  · obtain ⟨x, hx⟩ := hx
    rw [piF_yes hx]
    have := (good_bd hx).2.2.1
    show x.Names.length ≤ _
    omega
  · rw [piF_no (fun x h => hx ⟨x, h⟩)]; simp

end Go.Proofs.YtpdblmcflniomaaGreatDoor

namespace Go.Proofs.YtpdblmcflniomaaGreatDoor
open Go.RowKit

theorem open_lawI {l O : List Incident} {node n : Int} (h : opF l node = (O, n, true)) : O.length = l.length + 1 ∧ O.length ≤ 8 ∧ (nth O l.length).Number = n ∧ (nth O l.length).Node = node ∧ incsB O = true := by
  obtain ⟨h1, h2⟩ := op_small h
  cases hc : (incsB l && inB node 0 13 && (decide (l.length < 8) && decide (newN l ≤ 999))) with
  | false => rw [opF_no hc] at h; cases h
  | true =>
    rw [opF_yes hc] at h
    injection h with e1 e2
    injection e2 with e2 _
    subst e1 e2
    exact ⟨h2, (incs_iff.1 h1).len, by rw [nth_last]; rfl, by rw [nth_last]; rfl, h1⟩
theorem num_lt {xs : List Incident} (hv : Vi xs) : ∀ b a, a < b → b < xs.length → (nth xs a).Number < (nth xs b).Number
  | 0, _, h, _ => absurd h (by omega)
  | b + 1, a, h, hb => by
    have h1 := hv.num (b + 1) (by omega) hb
    rw [Nat.add_sub_cancel] at h1
    by_cases e : a = b
    · subst e; exact h1
    · have := num_lt hv b a (by omega) (by omega)
      omega
theorem num_inj {xs : List Incident} (hv : Vi xs) {a b : Nat} (ha : a < xs.length) (hb : b < xs.length) (h : (nth xs a).Number = (nth xs b).Number) : a = b := by
  rcases Nat.lt_trichotomy a b with e | e | e
  · have := num_lt hv b a e hb; omega
  · exact e
  · have := num_lt hv a b e ha; omega
theorem openL_mem {xs : List Incident} {k : Int} : k ∈ openL xs ↔ ∃ i, i < xs.length ∧ (nth xs i).Closed = false ∧ (nth xs i).Number = k := by
  unfold openL
  rw [List.mem_filterMap]
  constructor
  · rintro ⟨x, hx, h⟩
    obtain ⟨i, hi, rfl⟩ := List.getElem_of_mem hx
    rw [nth_ge hi] at h
    cases hc : (nth xs i).Closed
    · rw [openG_yes hc] at h; injection h with h; exact ⟨i, hi, hc, h⟩
    · rw [openG_no hc] at h; cases h
  · rintro ⟨i, hi, hc, h⟩
    exact ⟨nth xs i, nth_mem hi, by rw [openG_yes hc, h]⟩
theorem openL_set {xs : List Incident} {a : Nat} (ha : a < xs.length) (hc : (nth xs a).Closed = false) : (openL (xs.set a (clX (nth xs a)))).length + 1 = (openL xs).length := by
  have e1 : xs = xs.take a ++ nth xs a :: xs.drop (a + 1) := by rw [← drop_nth ha, List.take_append_drop]
  have e2 : xs.set a (clX (nth xs a)) = xs.take a ++ clX (nth xs a) :: xs.drop (a + 1) := by
    rw [List.set_eq_take_append_cons_drop, if_pos ha]
  have e3 : openL xs = openL (xs.take a) ++ (nth xs a).Number :: openL (xs.drop (a + 1)) := by
    conv => lhs; rw [e1]
    unfold openL
    rw [List.filterMap_append, List.filterMap_cons, openG_yes hc]
  have e4 : openL (xs.set a (clX (nth xs a))) = openL (xs.take a) ++ openL (xs.drop (a + 1)) := by
    rw [e2]
    unfold openL
    rw [List.filterMap_append, List.filterMap_cons, openG_no (by rfl)]
  rw [e3, e4, List.length_append, List.length_append, List.length_cons]; omega
theorem close_lawI {u C : List Incident} {k : Int} (h : clF u k = (C, true)) : openF C = (openL C, true) ∧ openF u = (openL u, true) ∧ (openL C).any (fun x => x == k) = false ∧ (openL u).any (fun x => x == k) = true ∧ (openL C).length + 1 = (openL u).length ∧
    (∀ i, i < C.length → (nth C i).Number = k → (nth C i).Names.length = 0) ∧ C.length ≤ 8 ∧ (openL u).length ≤ 8 ∧ incsB C = true := by
  unfold clF at h
  split at h
  · rename_i hc
    simp only [Bool.and_eq_true, decide_eq_true_eq] at hc
    obtain ⟨a, ha⟩ := Int.eq_ofNat_of_zero_le hc.2
    rw [ha, Int.toNat_natCast] at h
    injection h with h _
    obtain ⟨h1, h2, h3⟩ := open_at ha
    have hv := incs_iff.1 hc.1
    have hC : incsB (u.set a (clX (nth u a))) = true := cl_small hc.1 h1
    have hat : ∀ i, i < (u.set a (clX (nth u a))).length → (nth (u.set a (clX (nth u a))) i).Number = k → i = a := fun i hi hn => by
      rw [List.length_set] at hi
      rw [nth_set hi] at hn
      by_cases e : a = i
      · exact e.symm
      · rw [if_neg e] at hn
        exact num_inj hv hi h1 (by rw [hn, h2])
    have hnth : nth (u.set a (clX (nth u a))) a = clX (nth u a) := by rw [nth_set h1, if_pos rfl]
    have hno : k ∉ openL (u.set a (clX (nth u a))) := fun hm => by
      obtain ⟨i, hi, hcl, hn⟩ := openL_mem.1 hm
      obtain rfl := hat i hi hn
      rw [hnth] at hcl
      cases hcl
    have hy : k ∈ openL u := openL_mem.2 ⟨a, h1, h3, h2⟩
    subst h
    refine ⟨openF_yes hC, openF_yes hc.1, any_noI hno, any_yesI hy, openL_set h1 h3, fun i hi hn => ?_, by rw [List.length_set]; exact hv.len, ?_, hC⟩
    · obtain rfl := hat i hi hn
      rw [hnth]; rfl
    · have := List.length_filterMap_le openG u
      have h8 := hv.len
      unfold openL; omega
  · cases h
theorem filter_split {α : Type} (p : α → Bool) : ∀ l : List α, (l.filter p).length + (l.filter (fun x => !p x)).length = l.length
  | [] => rfl
  | x :: l => by
    have ih := filter_split p l
    cases h : p x
    · simp only [List.filter_cons, h, Bool.not_false, if_true, List.length_cons]
      simp; omega
    · simp only [List.filter_cons, h, Bool.not_true, if_true, List.length_cons]
      simp; omega
theorem at_iff {v : List Incident} {s : ByteArray} : atB v s < 0 ↔ s ∉ v.flatMap (·.Names) := by
  have hfm := flat_mem (xs := v) (k := v.length) (Nat.le_refl _) (t := s)
  rw [List.take_length] at hfm
  rw [hfm]
  constructor
  · rintro h ⟨i, hi, hm⟩
    exact at_none h i hi hm
  · intro h
    refine Int.not_le.1 fun h0 => h ?_
    obtain ⟨k, hk⟩ := Int.eq_ofNat_of_zero_le h0
    obtain ⟨h1, h2⟩ := at_some hk
    exact ⟨k, h1, h2⟩
theorem ap_iff {fs : List Appliance} {s : ByteArray} : apF fs s < 0 ↔ s ∉ fs.map (·.Name) := by
  rw [List.mem_map]
  constructor
  · rintro h ⟨a, ha, rfl⟩
    have h1 : indexF (fun b : Appliance => b.Name.toList == a.Name.toList) fs = -1 := by
      have := indexF_range (fun b : Appliance => b.Name.toList == a.Name.toList) fs
      unfold apF at h
      omega
    obtain ⟨i, hi, e⟩ := List.getElem_of_mem ha
    have h2 := indexF_all h1 i hi
    rw [← nth_ge hi, e] at h2
    simp at h2
  · intro h
    refine Int.not_le.1 fun h0 => h ?_
    obtain ⟨k, hk⟩ := Int.eq_ofNat_of_zero_le h0
    obtain ⟨h1, h2⟩ := indexF_at (p := fun b : Appliance => b.Name.toList == s.toList) hk
    exact ⟨nth fs k, nth_mem h1, bytes_inj (by simpa using h2)⟩
theorem fleet_names {fs : List Appliance} (h : fleetB fs = true) : (fs.map (·.Name)).Nodup ∧ (∀ i, i < fs.length → nameB (nth fs i).Name = true) ∧ fs.length ≤ 12 := by
  have hl := fleetB_len h
  have hat : ∀ k, k < fs.length → okAp fs k = true := fun k hk => by
    simp only [fleetB, Bool.and_eq_true] at h; exact allB_iff.1 h.1 k hk
  have hr : Rises (fun a : Appliance => a.Name) fs := rises_of fun k h0 hk => by
    have := hat k hk
    simp only [okAp, decide_eq_true h0, Bool.and_eq_true, Bool.true_and, Bool.not_not] at this
    exact this.2
  refine ⟨?_, fun i hi => ?_, hl⟩
  · rw [List.Nodup, List.pairwise_map, List.pairwise_iff_getElem]
    intro i j hi hj hij e
    have h1 := hr i j hij hj
    simp only at h1
    rw [← nth_ge hi, ← nth_ge hj, e, bl_irr] at h1
    cases h1
  · have := hat i hi
    simp only [okAp, Bool.and_eq_true] at this
    have h2 := this.1
    unfold applB at h2
    simp only [Bool.and_eq_true] at h2
    first | exact h2.1.1.1.1 | exact h2.1.1.1 | exact h2.1
theorem sumNames_flat (v : List Incident) : sumIncident v = (v.flatMap (·.Names)).length := by
  unfold sumIncident; rw [List.length_flatMap]
theorem free_filter (v : List Incident) : ∀ fs : List Appliance, freeL v fs = (fs.map (·.Name)).filter (fun s => !hasS (v.flatMap (·.Names)) s)
  | [] => rfl
  | a :: fs => by
    have ih := free_filter v fs
    unfold freeL at ih ⊢
    rw [List.filterMap_cons, List.map_cons, List.filter_cons, ← ih]
    by_cases hat : atB v a.Name < 0
    · have h2 := at_iff.1 hat
      rw [freeG_yes hat]
      cases h3 : hasS (v.flatMap (·.Names)) a.Name
      · rfl
      · exact absurd (hasS_iff.1 h3) h2
    · rw [freeG_no hat]
      cases h3 : hasS (v.flatMap (·.Names)) a.Name
      · exact absurd (at_iff.2 (fun hm => by rw [hasS_iff.2 hm] at h3; cases h3)) hat
      · rfl
theorem free_lawI {v : List Incident} {fs : List Appliance} {Fr Un : List ByteArray} {tf tu : Bool} (h : freeF v fs = (Fr, tf)) (h' : unF v fs = (Un, tu)) :
    tf = tu ∧ (tf = true → Fr.length + sumIncident v = fs.length + Un.length ∧ v.length ≤ 8 ∧ sumIncident v ≤ 200 ∧ fs.length ≤ 12 ∧ Un.length ≤ 200 ∧ ∀ i, i < fs.length → ∃ n b, ctF v (nth fs i).Name = (n, b) ∧ hasS Fr (nth fs i).Name = !b) := by
  cases hb : (incsB v && fleetB fs) with
  | false =>
    rw [freeF_no hb] at h
    rw [unF_no hb] at h'
    injection h with _ h
    injection h' with _ h'
    exact ⟨by rw [← h, ← h'], fun e => by rw [← h] at e; cases e⟩
  | true =>
    simp only [Bool.and_eq_true] at hb
    rw [freeF_yes hb.1 hb.2] at h
    rw [unF_yes hb.1 hb.2] at h'
    injection h with e1 e2
    injection h' with e3 e4
    refine ⟨by rw [← e2, ← e4], fun _ => ?_⟩
    have hv := incs_iff.1 hb.1
    obtain ⟨fn, fb, fl⟩ := fleet_names hb.2
    have pn : (v.flatMap (·.Names)).Nodup := by have := flat_nodup hv v.length (Nat.le_refl _); rwa [List.take_length] at this
    have p2 := flat_len hv v.length (Nat.le_refl _)
    rw [List.take_length] at p2
    obtain ⟨un, ul⟩ := unk_props (fs := fs) hv
    obtain ⟨al, am⟩ := adL_len un
    have hfree : Fr = (fs.map (·.Name)).filter (fun s => !hasS (v.flatMap (·.Names)) s) := by rw [← e1]; exact free_filter v fs
    have hunk : (unkL v fs) = (v.flatMap (·.Names)).filter (fun s => !hasS (fs.map (·.Name)) s) := by
      unfold unkL
      refine List.filter_congr fun s _ => ?_
      unfold isU
      rw [Bool.eq_iff_iff]
      simp only [decide_eq_true_eq, Bool.not_eq_true', ← Bool.not_eq_true, hasS_iff]
      exact ap_iff
    have s1 := filter_split (fun s => hasS (v.flatMap (·.Names)) s) (fs.map (·.Name))
    have s2 := filter_split (fun s => hasS (fs.map (·.Name)) s) (v.flatMap (·.Names))
    have hp : ((fs.map (·.Name)).filter (fun s => hasS (v.flatMap (·.Names)) s)).Perm ((v.flatMap (·.Names)).filter (fun s => hasS (fs.map (·.Name)) s)) := by
      rw [List.perm_ext_iff_of_nodup (fn.filter _) (pn.filter _)]
      intro s
      rw [List.mem_filter, List.mem_filter, hasS_iff, hasS_iff]
      exact ⟨fun h => ⟨h.2, h.1⟩, fun h => ⟨h.2, h.1⟩⟩
    have hl := hp.length_eq
    rw [← hfree, List.length_map] at s1
    rw [← hunk, ← al, e3] at s2
    have hsn := sumNames_flat v
    have hv8 := hv.len
    refine ⟨by omega, hv8, by omega, fl, by rw [← e3, al]; exact ul, fun i hi => ?_⟩
    have hin : (nth fs i).Name ∈ fs.map (·.Name) := List.mem_map.2 ⟨nth fs i, nth_mem hi, rfl⟩
    have hF : hasS Fr (nth fs i).Name = !hasS (v.flatMap (·.Names)) (nth fs i).Name := by
      rw [Bool.eq_iff_iff, hasS_iff, hfree, List.mem_filter]
      exact ⟨fun h => h.2, fun h => ⟨hin, h⟩⟩
    by_cases hat : atB v (nth fs i).Name < 0
    · refine ⟨0, false, ctF_no (by rw [decide_eq_false (by omega)]; simp), ?_⟩
      rw [hF]
      have h2 := at_iff.1 hat
      cases h3 : hasS (v.flatMap (·.Names)) (nth fs i).Name
      · rfl
      · exact absurd (hasS_iff.1 h3) h2
    · obtain ⟨k, hk⟩ := Int.eq_ofNat_of_zero_le (Int.not_lt.1 hat)
      refine ⟨_, true, ctF_yes hb.1 (fb i hi) hk, ?_⟩
      rw [hF]
      cases h3 : hasS (v.flatMap (·.Names)) (nth fs i).Name
      · exact absurd (at_iff.2 (fun hm => by rw [hasS_iff.2 hm] at h3; cases h3)) hat
      · rfl
/-- the text of a valid one is read back -/
theorem text_lawI {x : Incident} {T : ByteArray} (h : itxF x.Number x.Node x.Closed x.Names = (T, true)) : piF T = (x, true) := by
  unfold itxF at h
  split at h
  · rename_i hb
    injection h with h _
    exact piF_yes ⟨hb, h⟩
  · cases h
end Go.Proofs.YtpdblmcflniomaaGreatDoor

namespace Go.Proofs.YtpdblmcflniomaaGreatDoor
open Go.RowKit

set_option maxRecDepth 100000 in
set_option maxHeartbeats 4000000 in
theorem implCloseIncident_any (xs : List Incident) (number : Int) (A : Option Addr) (n c : Nat) (w : World) (hn : n ≤ 1048576) (hc : n ≤ c) (hs : Sl w A n xs) (hv : ∀ x, x ∈ xs → ∀ y, y ∈ x.Names → y.size ≤ maxLen) (hin : ∀ x, x ∈ xs → x.Names.length ≤ 1048576) :
    Calls Tryz.prog 11 #[.slice A n c, .int .i64 number] w (RetOwnX2 incidentN w 32 9 (clF xs number)) := by
  have HV := Lib.hid hv
  have HIN := Lib.hid hin
  have HL := Lib.hid hs.1
  have hn' : (n : Int) ≤ 9223372036854775807 := by omega
  clear hv hin
  go_enter Tryz.func11, Tryz.ntmps11
  have hk0 := bl_refl w
  go_wp2_with fail
  refine (openAt_any xs number _ _ _ _ hn' hs).mono ?_
  rintro e V1 ⟨rfl, hb1⟩
  have hB1 := bl_trans (a := w) (bl_refl _) hb1
  have hk1 := bl_trans hk0 hB1
  have z1 := Lib.hid hB1.size
  have hge := indexF_range (isO number) xs
  obtain ⟨i, hi⟩ : ∃ i, i = openI xs number := ⟨_, rfl⟩
  have hge2 : -1 ≤ i ∧ i < xs.length := by rw [hi]; exact hge
  rw [← hi]
  have hi' := Lib.hid hi
  clear hi hge
  go_wp2_with fail
  refine (areIncidents_any xs _ _ _ _ hn' hc (hs.below hk1) HV.out).mono ?_
  rintro e V2 ⟨rfl, hb2⟩
  have hB2 := bl_trans (a := V1) (bl_refl _) hb2
  have hk2 := bl_trans hk1 hB2
  have z2 := Lib.hid hB2.size
  clear hk1
  cases h0 : incsB xs
  · have Hz := Lib.hid (clF_no (xs := xs) (number := number) (by rw [h0]; first | done | simp))
    clear h0
    go_wp2
    go_ret2
    exact retOwnX2_nil (by decide) Hz.out hk2
  have H0 := Lib.hid h0
  clear h0
  by_cases h8 : i < 0
  · have hd : decide (i < 0) = true := by simpa using h8
    have Hz := Lib.hid (clF_no (xs := xs) (number := number) (by rw [← hi'.out, decide_eq_false (by omega : ¬ 0 ≤ i)]; simp))
    go_wp2
    go_ret2
    exact retOwnX2_nil (by decide) Hz.out hk2
  have hd : decide (i < 0) = false := by simpa using h8
  obtain ⟨j, rfl⟩ := Int.eq_ofNat_of_zero_le (by omega : 0 ≤ i)
  have hjx : j < xs.length := by omega
  have hxn : xs.length ≤ 1048576 := by rw [HL.out]; exact hn
  have Hz := Lib.hid (clF_yes H0.out hi'.out.symm)
  clear hge2 h8
  go_wp2_with fail
  refine (copyIncidents_any xs _ _ _ _ hn (hs.below hk2) HIN.out).mono ?_
  rintro e V3 ⟨A_c, c_c, F_c, rfl, ho_c, hb3⟩
  have hB3 := bl_trans (a := V2) (bl_refl _) hb3
  have hk3 := bl_trans hk2 hB3
  have z3 := Lib.hid hB3.size
  clear hk2
  obtain ⟨ps, hp, _, hop⟩ := ho_c
  obtain ⟨g, rfl⟩ := hop.out.form (by omega : 0 < xs.length)
  have hjl : j < ps.length := by rw [hop.len]; exact hjx
  obtain ⟨p, hpq⟩ : ∃ p, ps[j]? = some p := ⟨_, List.getElem?_eq_getElem hjl⟩
  have he : nth (ps.map Prod.fst) j = p.1 := nth_get (by rw [List.getElem?_map, hpq]; rfl)
  have hx : Hid (nth xs j = incidentN.of p.1 p.2) := nth_get (by rw [← hp]; unfold Nest.plain; rw [List.getElem?_map, hpq]; rfl)
  have hjc : xs.length ≤ c_c := hop.out.cap.1
  have hjI : (j : Int) < xs.length := by omega
  have hj0 : (0 : Int) ≤ j := by omega
  have HW := Lib.hid hk3
  have d2 : V3.cell? ⟨g, j * 4 + 2, none⟩ = some (.bool (nth (ps.map Prod.fst) j).Closed) := hop.out.cellAt hjx 2 _ rfl
  have d3 : V3.cell? ⟨g, j * 4 + 3, none⟩ = some (.slice (nth (ps.map Prod.fst) j).A (nth (ps.map Prod.fst) j).n (nth (ps.map Prod.fst) j).c) := hop.out.cellAt hjx 3 _ rfl
  have f2 := hop.out.frozenAt (j * 4 + 2)
  have f3 := hop.out.frozenAt (j * 4 + 3)
  have h1 : Hid (Own (V3.setCell ⟨g, j * 4 + 2, none⟩ (.bool true)) w.heap.size 32 (.slice (some ⟨g, 0, none⟩) xs.length c_c) ((ps.map Prod.fst).set j (⟨p.1.Number, p.1.Node, true, p.1.A, p.1.n, p.1.c⟩ : IncidentR))) := by
    have hh := (Own.mono hop.out (base' := w.heap.size) (by have := z1.out; have := z2.out; have := z3.out; omega)).put1 hjx 2 (by decide) (y := (⟨p.1.Number, p.1.Node, true, p.1.A, p.1.n, p.1.c⟩ : IncidentR)) (v := .bool true) (by rw [he]; rfl)
    exact hh
  have h2 : Hid (Own ((V3.setCell ⟨g, j * 4 + 2, none⟩ (.bool true)).setCell ⟨g, j * 4 + 3, none⟩ (.slice none 0 0)) w.heap.size 32 (.slice (some ⟨g, 0, none⟩) xs.length c_c) ((ps.map Prod.fst).set j (⟨p.1.Number, p.1.Node, true, none, 0, 0⟩ : IncidentR))) := by
    have hh := h1.out.put1 hjx 3 (by decide) (y := (⟨p.1.Number, p.1.Node, true, none, 0, 0⟩ : IncidentR)) (v := .slice none 0 0) (by rw [nth_set_self (by rw [List.length_map]; exact hjl)]; rfl)
    rw [List.set_set] at hh
    exact hh
  have HOP := Lib.hid (hop.mono (b := w.heap.size) (by have := z1.out; have := z2.out; have := z3.out; omega))
  clear hop
  go_wp2
  go_ret2
  refine retOwnX2_mk Hz.out ?_ (HOP.out.upd (p' := ((⟨p.1.Number, p.1.Node, true, none, 0, 0⟩ : IncidentR), ([] : List ByteArray))) hpq h2.out (Own.nil _ _ _) (fun x hx => absurd hx (by simp [incidentN, Value.ownBlock])) ?_) ?_
  · unfold Nest.plain at hp ⊢; rw [List.map_set, hp, hx.out]; rfl
  · repeat' (first | exact OnlyF.refl _ _ | refine OnlyF.set ?_ List.mem_cons_self _)
  · repeat' (first | exact HW.out | refine bl_set ?_ (by have := (HOP.out.out.lt g rfl).1; simp only []; omega) _)

end Go.Proofs.YtpdblmcflniomaaGreatDoor
