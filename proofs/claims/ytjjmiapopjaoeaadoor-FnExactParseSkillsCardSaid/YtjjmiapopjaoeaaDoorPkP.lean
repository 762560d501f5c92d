/-
  ParseSkills: what it answers. No conditions.
-/
import Derived.Test.YtjjmiapopjaoeaaDoorStPq
import Derived.Test.YtjjmiapopjaoeaaDoorJnEq
namespace Go.Proofs.YtjjmiapopjaoeaaDoor
open Go.RowKit

def GoodK (s : ByteArray) (l : List Skill) : Prop := skillsB l = true ∧ skText l l.length = s
/-- one skill's text without the semicolon -/
def skL (x : Skill) : List UInt8 := x.Person.data.toList ++ 47 :: ((itB x.Kind).data.toList ++ 47 :: (itB x.Until).data.toList)
theorem piece_list (x : Skill) : (pieceK x).data.toList = skL x ++ [59] := by simp [pieceK, skL]
theorem skText_list (l : List Skill) : ∀ i, i ≤ l.length → (skText l i).data.toList = (l.take i).flatMap (fun x => skL x ++ [59])
  | 0, _ => by simp [skText]
  | i + 1, hi => by
    have ih := skText_list l i (by omega)
    rw [take_succ (by omega : i < l.length), List.flatMap_append]
    show (skText l i ++ pieceK (nth l i)).data.toList = _
    rw [ba_app, ih, piece_list]
    simp
theorem goodK_text {s : ByteArray} {l : List Skill} (h : GoodK s l) : s.data.toList = l.flatMap (fun x => skL x ++ [59]) := by
  rw [← h.2, skText_list l _ (Nat.le_refl _), List.take_length]
theorem goodK_at {s : ByteArray} {l : List Skill} (h : GoodK s l) : l.length ≤ 24 ∧ ∀ x, x ∈ l → nameB x.Person = true ∧ (0 ≤ x.Kind ∧ x.Kind ≤ 5) ∧ (0 ≤ x.Until ∧ x.Until ≤ 20000) := by
  obtain ⟨h1, h2⟩ := skills_bd h.1
  refine ⟨h1, fun x hx => ?_⟩
  obtain ⟨k, hk, rfl⟩ := List.getElem_of_mem hx
  have h3 := skillsB_at h.1 hk
  have h4 := h2 k hk
  simp only [okSkill, skillB, Bool.and_eq_true] at h3
  rw [nth_get (List.getElem?_eq_getElem hk)] at h3 h4
  exact ⟨h3.1.1.1, h4.2.1, h4.2.2⟩
theorem person_bytes {y : ByteArray} (h : nameB y = true) : ∀ b ∈ y.data.toList, 48 ≤ b.toNat ∧ b.toNat ≠ 59 := by
  intro b hb
  obtain ⟨k, hk, e⟩ := List.getElem_of_mem hb
  rw [ba_len] at hk
  simp only [nameB, Bool.and_eq_true] at h
  have h1 := allB_iff.1 h.1 k hk
  have h2 : Go.PlainAid.bt y k = (b.toNat : Int) := by
    rw [← e]; unfold Go.PlainAid.bt; simp [hk]; rfl
  simp only [nameC, Bool.or_eq_true, Bool.and_eq_true, h2] at h1
  rcases h1 with h1 | ⟨_, h1⟩
  · have := inB_iff.1 h1; omega
  · have := inB_iff.1 h1; omega
theorem digs_no {n : Int} (h0 : 0 ≤ n) {c : UInt8} (hc : c.toNat < 48 ∨ 57 < c.toNat) : c ∉ (itB n).data.toList := dig_not (it_dig h0) hc
theorem skL_no {s : ByteArray} {l : List Skill} (h : GoodK s l) {x : Skill} (hx : x ∈ l) : (59 : UInt8) ∉ skL x := by
  obtain ⟨h1, ⟨h2, _⟩, h3, _⟩ := (goodK_at h).2 x hx
  unfold skL
  rw [List.mem_append, List.mem_cons, List.mem_append, List.mem_cons]
  rintro (h' | h' | h' | h' | h')
  · exact (person_bytes h1 _ h').2 rfl
  · exact absurd h' (by decide)
  · exact digs_no h2 (by decide) h'
  · exact absurd h' (by decide)
  · exact digs_no h3 (by decide) h'
theorem cut_pieces : ∀ (l : List Skill), (∀ x, x ∈ l → (59 : UInt8) ∉ skL x) → cutL 59 (l.flatMap (fun x => skL x ++ [59])) = l.map skL ++ [[]]
  | [], _ => rfl
  | x :: r, h => by
    have ih := cut_pieces r (fun y hy => h y (List.mem_cons_of_mem _ hy))
    rw [List.flatMap_cons, List.append_assoc]
    show cutL 59 (skL x ++ 59 :: r.flatMap (fun x => skL x ++ [59])) = _
    rw [cutL_app _ (h x List.mem_cons_self), ih]
    rfl
/-- cut at the semicolons: each skill's text, and an empty one -/
theorem cut_semis {s : ByteArray} {l : List Skill} (h : GoodK s l) : cutB 59 s = l.map (fun x => ⟨(skL x).toArray⟩) ++ [⟨#[]⟩] := by
  unfold cutB
  rw [goodK_text h, cut_pieces l (fun x hx => skL_no h hx), List.map_append, List.map_map]
  rfl
/-- cut at the slashes -/
theorem cut_slash {s : ByteArray} {l : List Skill} (h : GoodK s l) {x : Skill} (hx : x ∈ l) : cutB 47 ⟨(skL x).toArray⟩ = [x.Person, itB x.Kind, itB x.Until] := by
  obtain ⟨h1, ⟨h2, _⟩, h3, _⟩ := (goodK_at h).2 x hx
  unfold cutB
  show (cutL 47 (skL x)).map _ = _
  unfold skL
  have hp : (47 : UInt8) ∉ x.Person.data.toList := fun hm => by have := (person_bytes h1 _ hm).1; exact absurd this (by decide)
  rw [cutL_app _ hp, cutL_app _ (digs_no h2 (by decide)), cutL_none (digs_no h3 (by decide))]
  rfl
theorem skL_inj {s t : ByteArray} {l m : List Skill} (hl : GoodK s l) (hm : GoodK t m) {x y : Skill} (hx : x ∈ l) (hy : y ∈ m) (h : skL x = skL y) : x = y := by
  have e := cut_slash hl hx
  rw [h, cut_slash hm hy] at e
  injection e with e1 e2
  injection e2 with e2 e3
  injection e3 with e3 _
  obtain ⟨_, a1, a2⟩ := (goodK_at hl).2 x hx
  obtain ⟨_, b1, b2⟩ := (goodK_at hm).2 y hy
  have k1 := it_inj (by omega) (by omega) (by omega) (by omega) e2
  have k2 := it_inj (by omega) (by omega) (by omega) (by omega) e3
  cases x; cases y
  simp only at e1 k1 k2
  subst e1 k1 k2
  rfl
theorem goodK_inj {s : ByteArray} {l m : List Skill} (hl : GoodK s l) (hm : GoodK s m) : l = m := by
  have e := cut_semis hl
  rw [cut_semis hm] at e
  have e2 := List.append_cancel_right e
  have hlen : m.length = l.length := by have := congrArg List.length e2; simpa using this
  refine List.ext_getElem hlen.symm (fun k hk hk2 => ?_)
  refine skL_inj hl hm (List.getElem_mem hk) (List.getElem_mem hk2) ?_
  have e3 : (m.map (fun x => (⟨(skL x).toArray⟩ : ByteArray)))[k]? = (l.map (fun x => (⟨(skL x).toArray⟩ : ByteArray)))[k]? := by rw [e2]
  rw [List.getElem?_map, List.getElem?_map, List.getElem?_eq_getElem hk, List.getElem?_eq_getElem hk2] at e3
  simp only [Option.map_some, Option.some.injEq, ByteArray.mk.injEq] at e3
  simpa using (congrArg Array.toList e3).symm
open Classical in
noncomputable def pkF (s : ByteArray) : List Skill × Bool := if h : ∃ l, GoodK s l then (h.choose, true) else ([], false)
theorem pkF_yes {s : ByteArray} {l : List Skill} (h : GoodK s l) : pkF s = (l, true) := by
  have hx : ∃ l, GoodK s l := ⟨l, h⟩
  unfold pkF
  rw [dif_pos hx, goodK_inj hx.choose_spec h]
theorem pkF_no {s : ByteArray} (h : ∀ l, ¬ GoodK s l) : pkF s = ([], false) := by
  unfold pkF
  rw [dif_neg (fun ⟨l, hl⟩ => h l hl)]
theorem pkF_len (s : ByteArray) : (pkF s).1.length ≤ 1048576 := by
  by_cases hx : ∃ l, GoodK s l
  · obtain ⟨l, hx⟩ := hx
    rw [pkF_yes hx]
    have := (goodK_at hx).1
    show l.length ≤ _
    omega
  · rw [pkF_no (fun l h => hx ⟨l, h⟩)]; simp

end Go.Proofs.YtjjmiapopjaoeaaDoor
