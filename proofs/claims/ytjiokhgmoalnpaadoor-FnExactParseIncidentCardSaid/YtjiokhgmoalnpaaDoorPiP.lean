/-
  ParseIncident: what it answers. No conditions.
-/
import Derived.Test.YtjiokhgmoalnpaaDoorItxPq
import Derived.Test.YtjiokhgmoalnpaaDoorItxJq
import Derived.Test.YtjiokhgmoalnpaaDoorPiL
namespace Go.Proofs.YtjiokhgmoalnpaaDoor
open Go.RowKit

def GoodI (s : ByteArray) (x : Incident) : Prop := incB x.Number x.Node x.Closed x.Names = true ∧ incT x.Number x.Node x.Closed x.Names = s
/-- the text ahead of the colon; the numbers in it; the names behind -/
def numL (x : Incident) : List UInt8 := (itB x.Number).data.toList ++ 64 :: (itB x.Node).data.toList
def hdL (x : Incident) : List UInt8 := if x.Closed then numL x ++ [33] else numL x
def nmL (x : Incident) : List UInt8 := Lib.join (x.Names.map (·.data.toList)) [44]
theorem good_text {s : ByteArray} {x : Incident} (h : GoodI s x) : s.data.toList = hdL x ++ 58 :: nmL x := by
  rw [← h.2]
  unfold incT
  rw [nmT_join _ (Nat.le_refl _), List.take_length]
  unfold hdT hdL nmL numL
  split <;> simp
theorem good_bd {s : ByteArray} {x : Incident} (h : GoodI s x) : (1 ≤ x.Number ∧ x.Number ≤ 999) ∧ (0 ≤ x.Node ∧ x.Node ≤ 13) ∧ x.Names.length ≤ 12 ∧ ∀ k, k < x.Names.length → (nth x.Names k).size ≤ 6 := inc_bd h.1
theorem good_names {s : ByteArray} {x : Incident} (h : GoodI s x) : ∀ y, y ∈ x.Names → nameB y = true := by
  have h1 := incB_names h.1
  unfold allNm at h1
  intro y hy
  obtain ⟨k, hk, rfl⟩ := List.getElem_of_mem hy
  have := allB_iff.1 h1 k hk
  rwa [nth_get (List.getElem?_eq_getElem hk)] at this
theorem nm_bytes {y : ByteArray} (h : nameB y = true) : ∀ b ∈ y.data.toList, 48 ≤ b.toNat ∧ b.toNat ≠ 58 ∧ b.toNat ≠ 64 := by
  intro b hb
  obtain ⟨k, hk, e⟩ := List.getElem_of_mem hb
  rw [ba_len] at hk
  simp only [nameB, Bool.and_eq_true] at h
  have h1 := allB_iff.1 h.1 k hk
  have h2 : Go.PlainAid.bt y k = (b.toNat : Int) := by
    rw [← e]; unfold Go.PlainAid.bt; simp [hk]; rfl
  simp only [nameC, Bool.or_eq_true, Bool.and_eq_true, h2] at h1
  rcases h1 with h1 | ⟨_, h1⟩
  · have := inB_iff.1 h1; omega
  · have := inB_iff.1 h1; omega
theorem nm_size {y : ByteArray} (h : nameB y = true) : 1 ≤ y.size := by
  simp only [nameB, Bool.and_eq_true] at h
  have := inB_iff.1 h.2
  omega
theorem dg_no {n : Int} (h0 : 0 ≤ n) {c : UInt8} (hc : c.toNat < 48 ∨ 57 < c.toNat) : c ∉ (itB n).data.toList := dig_not (it_dig h0) hc
theorem num_no {s : ByteArray} {x : Incident} (h : GoodI s x) {c : UInt8} (hc : c.toNat < 48 ∨ 57 < c.toNat) (h64 : c ≠ 64) : c ∉ numL x := by
  obtain ⟨h1, h2, _⟩ := good_bd h
  unfold numL
  rw [List.mem_append, List.mem_cons]
  rintro (h | h | h)
  · exact dg_no (by omega) hc h
  · exact h64 h
  · exact dg_no (by omega) hc h
theorem hd_no {s : ByteArray} {x : Incident} (h : GoodI s x) : (58 : UInt8) ∉ hdL x := by
  unfold hdL
  split
  · rw [List.mem_append, List.mem_singleton]
    rintro (h' | h')
    · exact num_no h (by decide) (by decide) h'
    · exact absurd h' (by decide)
  · exact num_no h (by decide) (by decide)
theorem join_mem (c : UInt8) (hc : c ≠ 44) : ∀ (ls : List (List UInt8)), (∀ l, l ∈ ls → c ∉ l) → c ∉ Lib.join ls [44]
  | [], _ => by rw [Lib.join_nil]; simp
  | x :: r, h => by
    rw [Lib.join_cons]
    unfold Lib.joinTail
    rw [List.mem_append, List.mem_flatten]
    rintro (h' | ⟨l, hl, h'⟩)
    · exact h x List.mem_cons_self h'
    · rw [List.mem_map] at hl
      obtain ⟨y, hy, rfl⟩ := hl
      rcases List.mem_append.1 h' with h' | h'
      · exact hc (List.mem_singleton.1 h')
      · exact h y (List.mem_cons_of_mem _ hy) h'
theorem nm_no {s : ByteArray} {x : Incident} (h : GoodI s x) : (58 : UInt8) ∉ nmL x := by
  refine join_mem 58 (by decide) _ (fun l hl hm => ?_)
  rw [List.mem_map] at hl
  obtain ⟨y, hy, rfl⟩ := hl
  exact ((nm_bytes (good_names h y hy)) _ hm).2.1 rfl
theorem cut_colon {s : ByteArray} {x : Incident} (h : GoodI s x) : cutB 58 s = [⟨(hdL x).toArray⟩, ⟨(nmL x).toArray⟩] := by
  unfold cutB
  rw [good_text h, cutL_app _ (hd_no h), cutL_none (nm_no h)]
  rfl
theorem cut_at {s : ByteArray} {x : Incident} (h : GoodI s x) : cutB 64 ⟨(numL x).toArray⟩ = [itB x.Number, itB x.Node] := by
  obtain ⟨h1, h2, _⟩ := good_bd h
  unfold cutB
  show (cutL 64 (numL x)).map _ = _
  unfold numL
  rw [cutL_app _ (dg_no (by omega) (by decide)), cutL_none (dg_no (by omega) (by decide))]
  rfl
theorem cut_join : ∀ (ls : List (List UInt8)), ls ≠ [] → (∀ l, l ∈ ls → (44 : UInt8) ∉ l) → cutL 44 (Lib.join ls [44]) = ls
  | [], h, _ => absurd rfl h
  | [x], _, h => by rw [Lib.join_one, cutL_none (h x List.mem_cons_self)]
  | x :: y :: r, _, h => by
    have ih := cut_join (y :: r) (by simp) (fun l hl => h l (List.mem_cons_of_mem _ hl))
    have e : Lib.join (x :: y :: r) [44] = x ++ 44 :: Lib.join (y :: r) [44] := by
      rw [Lib.join_cons, Lib.join_cons]
      simp [Lib.joinTail]
    rw [e, cutL_app _ (h x List.mem_cons_self), ih]
theorem cut_names {s : ByteArray} {x : Incident} (h : GoodI s x) (hne : x.Names ≠ []) : cutB 44 ⟨(nmL x).toArray⟩ = x.Names := by
  unfold cutB
  show (cutL 44 (nmL x)).map _ = _
  unfold nmL
  rw [cut_join _ (by simpa using hne) (fun l hl => by
    rw [List.mem_map] at hl
    obtain ⟨y, hy, rfl⟩ := hl
    intro hm
    have := ((nm_bytes (good_names h y hy)) _ hm).1
    exact absurd this (by decide)), List.map_map]
  exact List.map_id'' (fun y => rfl) _
theorem nm_empty {s : ByteArray} {x : Incident} (h : GoodI s x) : nmL x = [] ↔ x.Names = [] := by
  unfold nmL
  constructor
  · intro he
    cases hx : x.Names with
    | nil => rfl
    | cons y r =>
      rw [hx, List.map_cons, Lib.join_cons] at he
      have h1 : y.data.toList = [] := (List.append_eq_nil_iff.1 he).1
      have h2 := nm_size (good_names h y (by rw [hx]; exact List.mem_cons_self))
      have h3 : y.data.toList.length = y.size := ba_len y
      rw [h1] at h3
      simp at h3
      omega
  · intro he; rw [he]; rfl
theorem hd_bang {s : ByteArray} {x : Incident} (h : GoodI s x) : (x.Closed = true → hdL x = numL x ++ [33]) ∧ (x.Closed = false → hdL x = numL x ∧ ∀ l : List UInt8, hdL x ≠ l ++ [33]) := by
  unfold hdL
  constructor
  · intro hc; rw [if_pos hc]
  · intro hc
    rw [if_neg (by rw [hc]; exact Bool.false_ne_true)]
    exact ⟨rfl, fun l e => num_no h (c := 33) (by decide) (by decide) (by rw [e]; simp)⟩
theorem good_inj {s : ByteArray} {x y : Incident} (h1 : GoodI s x) (h2 : GoodI s y) : x = y := by
  have e1 := cut_colon h1
  rw [cut_colon h2] at e1
  injection e1 with e1 e2
  injection e2 with e2 _
  have e1' : hdL y = hdL x := by injection e1 with e1; simpa using congrArg Array.toList e1
  have e2' : nmL y = nmL x := by injection e2 with e2; simpa using congrArg Array.toList e2
  have hcl : x.Closed = y.Closed := by
    cases hx : x.Closed with
    | true =>
      cases hy : y.Closed with
      | true => rfl
      | false => exact absurd (e1'.trans ((hd_bang h1).1 hx)) (((hd_bang h2).2 hy).2 _)
    | false =>
      cases hy : y.Closed with
      | false => rfl
      | true => exact absurd (e1'.symm.trans ((hd_bang h2).1 hy)) (((hd_bang h1).2 hx).2 _)
  have hnum : numL y = numL x := by
    cases hx : x.Closed with
    | true =>
      have a := (hd_bang h1).1 hx
      have b := (hd_bang h2).1 (hcl.symm.trans hx)
      rw [a, b] at e1'
      exact List.append_cancel_right e1'
    | false =>
      have a := ((hd_bang h1).2 hx).1
      have b := ((hd_bang h2).2 (hcl.symm.trans hx)).1
      rw [a, b] at e1'
      exact e1'
  have e3 := cut_at h1
  rw [← hnum, cut_at h2] at e3
  injection e3 with e3 e4
  injection e4 with e4 _
  obtain ⟨a1, a2, _⟩ := good_bd h1
  obtain ⟨b1, b2, _⟩ := good_bd h2
  have hN := it_inj (by omega) (by omega) (by omega) (by omega) e3
  have hM := it_inj (by omega) (by omega) (by omega) (by omega) e4
  have hNm : x.Names = y.Names := by
    by_cases hx : x.Names = []
    · have := (nm_empty h1).2 hx
      rw [← e2'] at this
      rw [hx, (nm_empty h2).1 this]
    · have hy : y.Names ≠ [] := fun hy => by
        have := (nm_empty h2).2 hy
        rw [e2'] at this
        exact hx ((nm_empty h1).1 this)
      have := cut_names h1 hx
      rw [← e2', cut_names h2 hy] at this
      exact this.symm
  cases x; cases y
  simp only at hcl hN hM hNm
  subst hcl hN hM hNm
  rfl
open Classical in
noncomputable def piF (s : ByteArray) : Incident × Bool := if h : ∃ x, GoodI s x then (h.choose, true) else (⟨0, 0, false, []⟩, false)
theorem piF_yes {s : ByteArray} {x : Incident} (h : GoodI s x) : piF s = (x, true) := by
  have hx : ∃ x, GoodI s x := ⟨x, h⟩
  unfold piF
  rw [dif_pos hx, good_inj hx.choose_spec h]
theorem piF_no {s : ByteArray} (h : ∀ x, ¬ GoodI s x) : piF s = (⟨0, 0, false, []⟩, false) := by
  unfold piF
  rw [dif_neg (fun ⟨x, hx⟩ => h x hx)]
theorem piF_len (s : ByteArray) : (piF s).1.Names.length ≤ 1048576 := by
  by_cases hx : ∃ x, GoodI s x
  · obtain ⟨x, hx⟩ := hx
    rw [piF_yes hx]
    have := (good_bd hx).2.2.1
    show x.Names.length ≤ _
    omega
  · rw [piF_no (fun x h => hx ⟨x, h⟩)]; simp

end Go.Proofs.YtjiokhgmoalnpaaDoor
