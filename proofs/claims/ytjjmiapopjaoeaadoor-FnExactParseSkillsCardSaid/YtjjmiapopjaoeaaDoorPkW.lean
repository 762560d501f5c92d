/-
  ParseSkills: small facts for the walks. No conditions.
-/
import Derived.Test.YtjjmiapopjaoeaaDoorPkL
import Derived.Test.YtjjmiapopjaoeaaDoorPkN
import Derived.Test.YtjjmiapopjaoeaaDoorJnEq
import Derived.Test.YtjjmiapopjaoeaaDoorMem2
import Derived.Test.YtjjmiapopjaoeaaDoorMem8
namespace Go.Proofs.YtjjmiapopjaoeaaDoor
open Go.RowKit

theorem ez_skillq : ElemZ Tryd.prog 22 32 (default : Skill) := elemZ_mk Tryd.underlying22 (by kernel_rfl)
theorem el_skillq : Elem Tryd.prog 22 32 (Flat.sz Skill) := ez_skillq.elem
/-- As step_appN; all that has turned lies from the first world on. -/
theorem step_appB {α : Type} [Flat α] {P : Program} {ops : Array Oper} {o : Oper} {a : Act} {w : World} {K : Act → World → Prop} {Q : Exit → Act → World → Prop} {E : Prop} (hgd : o.guard = none) (s x : Operand) (t e : TypeId)
    (ho : o.op = .call { callee := .builtin .append, args := #[s, x], argTypes := #[t, t] }) (he : Elem P t e (Flat.sz α)) {w0 : World} {A B : Option Addr} {n c m d : Nat} {xs ys : List α} (hs : a.eval s = .slice A n c) (hx : a.eval x = .slice B m d)
    (hown : Own w w0.heap.size e (.slice A n c) xs) (hb : Below w0.heap.size w0 w) (hy : Sl w B m ys) (hlim : n + m ≤ 274877906944)
    (h : ∀ A' c' w', Own w' w0.heap.size e (.slice A' (n + m) c') (xs ++ ys) → Below w0.heap.size w0 w' → w.grownBy w' (Value.ownBlock (.slice A n c)) → K (a.put o.dst (.slice A' (n + m) c')) w') :
    if Region.wanted o (yielded ops a.tmps) = true then Oper.wp P o a w K Q else E :=
  step_appN hgd s x t e ho he hs hx hown hb.size hy hlim fun A' c' w' h1 h2 => h A' c' w' h1 (bl_grown hb h2 (fun k hk => (hown.lt k hk).1)) h2
theorem sl_skill1 {w : World} {b o : Nat} {s : Skill} (h0 : w.cell? ⟨b, o, none⟩ = some (.string s.Person)) (h1 : w.cell? ⟨b, o + 1, none⟩ = some (.int .i64 s.Kind)) (h2 : w.cell? ⟨b, o + 2, none⟩ = some (.int .i64 s.Until)) : Sl w (some ⟨b, o, none⟩) 1 [s] :=
  ⟨rfl, fun k x hx => by
    have hk : k = 0 := by have := (List.getElem?_eq_some_iff.1 hx).1; simpa using this
    subst hk
    have hx' : s = x := by simpa using hx
    subst hx'
    refine ⟨b, o, [.string s.Person, .int .i64 s.Kind, .int .i64 s.Until], rfl, rfl, fun j v hv => ?_⟩
    have hj : j < 3 := by have := (List.getElem?_eq_some_iff.1 hv).1; simpa using this
    match j, hj, hv with
    | 0, _, hv => have hv' : Value.string s.Person = v := by simpa using hv
                  subst hv'; simpa using h0
    | 1, _, hv => have hv' : Value.int .i64 s.Kind = v := by simpa using hv
                  subst hv'; simpa using h1
    | 2, _, hv => have hv' : Value.int .i64 s.Until = v := by simpa using hv
                  subst hv'; simpa using h2⟩
theorem pkF_make {s : ByteArray} {l : List Skill} (h : skillsB l = true) (h2 : sameB (skText l l.length) s = true) : pkF s = (l, true) := pkF_yes ⟨h, sameB_iff.1 h2⟩
theorem pk_bad1 {s : ByteArray} {L : List Skill} (h : ∀ l, GoodK s l → L = l) (hi : skillsB L = false) : ∀ l, ¬ GoodK s l := fun l hl => by
  obtain rfl := h l hl
  rw [hl.1] at hi; cases hi
theorem pk_bad2 {s : ByteArray} {L : List Skill} (h : ∀ l, GoodK s l → L = l) (hi : sameB (skText L L.length) s = false) : ∀ l, ¬ GoodK s l := fun l hl => by
  obtain rfl := h l hl
  rw [hl.2, sameB_refl] at hi; cases hi
theorem emp_eqK (m : ByteArray) : m.toList.isEmpty = decide (m.size = 0) := by
  have e0 : m.toList.isEmpty = sameB m ⟨#[]⟩ := by
    rw [← bytes_beq]
    have e2 : (⟨#[]⟩ : ByteArray).toList = [] := by rw [Lib.toList_data]
    rw [e2]
    cases m.toList <;> rfl
  rw [e0]
  cases hc : sameB m ⟨#[]⟩ with
  | true => rw [sameB_iff.1 hc]; rfl
  | false =>
    refine (decide_eq_false (fun h => ?_)).symm
    have h5 : m.data.toList.length = m.size := ba_len m
    have h6 : m.data.toList = [] := List.eq_nil_of_length_eq_zero (h5.trans h)
    have h7 : m = ⟨#[]⟩ := ba_ext h6
    rw [h7, sameB_refl] at hc; cases hc
theorem skL_size {x : Skill} : (⟨(skL x ++ [59]).toArray⟩ : ByteArray).size ≠ 0 := by
  show (skL x ++ [59]).toArray.size ≠ 0
  rw [List.size_toArray, List.length_append]; simp
/-- the pieces behind each semicolon, when a text is one of skills -/
theorem partsA_at {s : ByteArray} {l : List Skill} (h : GoodK s l) {i : Nat} (hi : i < (partsA s).length) : (i < l.length ∧ nth (partsA s) i = ⟨(skL (nth l i) ++ [59]).toArray⟩) ∨ (i = l.length ∧ nth (partsA s) i = ⟨#[]⟩) := by
  rw [partsA_good h] at hi ⊢
  simp only [List.length_append, List.length_map, List.length_cons, List.length_nil] at hi
  by_cases h1 : i < l.length
  · refine .inl ⟨h1, nth_get ?_⟩
    rw [List.getElem?_append_left (by rw [List.length_map]; exact h1), List.getElem?_map, get_nth h1]; rfl
  · have h2 : i = l.length := by omega
    refine .inr ⟨h2, nth_get ?_⟩
    rw [List.getElem?_append_right (by rw [List.length_map]; omega), List.length_map, h2]; simp
def restL (x : Skill) : List UInt8 := (itB x.Kind).data.toList ++ 47 :: (itB x.Until).data.toList
theorem skL_rest (x : Skill) : skL x = x.Person.data.toList ++ 47 :: restL x := rfl
theorem person_no {s : ByteArray} {l : List Skill} (h : GoodK s l) {x : Skill} (hx : x ∈ l) : (47 : UInt8) ∉ x.Person.data.toList := fun hm => by
  have := (person_bytes ((goodK_at h).2 x hx).1 _ hm).1
  exact absurd this (by decide)
theorem cut_rest {s : ByteArray} {l : List Skill} (h : GoodK s l) {x : Skill} (hx : x ∈ l) : cutB 47 ⟨(restL x).toArray⟩ = [itB x.Kind, itB x.Until] := by
  obtain ⟨h1, ⟨h2, _⟩, h3, _⟩ := (goodK_at h).2 x hx
  unfold cutB
  show (cutL 47 (restL x)).map _ = _
  unfold restL
  rw [cutL_app _ (digs_no h2 (by decide)), cutL_none (digs_no h3 (by decide))]
  rfl
theorem parts_small {s x : ByteArray} (h : x ∈ partsA s) : x.size ≤ s.size := splitA_piece 59 1 _ s x h
theorem l1Split_k59 (s : ByteArray) (w : World) (hs : s.size ≤ 1048576) : Calls Tryd.prog 9 #[.string s, .int .u8 59] w (RetOwn w 9 (cutB 59 s)) := l1Split_any s 59 w hs
theorem l1Split_k47 (s : ByteArray) (w : World) (hs : s.size ≤ 1048576) : Calls Tryd.prog 9 #[.string s, .int .u8 47] w (RetOwn w 9 (cutB 47 s)) := l1Split_any s 47 w hs
/-- what the parts of one piece are -/
theorem piece_parts {s : ByteArray} {l : List Skill} (h : GoodK s l) {i : Nat} (hi : i < l.length) : cutB 47 (nth (cutB 59 s) i) = [(nth l i).Person, itB (nth l i).Kind, itB (nth l i).Until] := by
  rw [cut_semis h]
  have e : nth (l.map (fun x => (⟨(skL x).toArray⟩ : ByteArray)) ++ [⟨#[]⟩]) i = ⟨(skL (nth l i)).toArray⟩ := by
    refine nth_get ?_
    rw [List.getElem?_append_left (by rw [List.length_map]; exact hi), List.getElem?_map, get_nth hi]; rfl
  rw [e]
  exact cut_slash h (nth_mem hi)
theorem rdV_n {n : Int} (h0 : 0 ≤ n) (h1 : n < 1000000) : rdV (itB n) = n := by
  obtain ⟨u, rfl⟩ := Int.eq_ofNat_of_zero_le h0
  exact rdV_it (by omega) rfl
theorem cutB_ne (c : UInt8) (s : ByteArray) : 1 ≤ (cutB c s).length := by
  have hl : Lib.countB s ⟨#[c]⟩ + 1 = (cutB c s).length := by rw [← splitB_cut c s.size s (Nat.le_refl _), Lib.splitB_all ⟨#[c]⟩ (Nat.le_refl 1) 0 _ s rfl]
  omega
theorem cutK_many {c : UInt8} {s : ByteArray} (hs : s.size ≤ 1048576) : (cutB c s).length ≤ 1048577 := by
  have hl : Lib.countB s ⟨#[c]⟩ + 1 = (cutB c s).length := by rw [← splitB_cut c s.size s (Nat.le_refl _), Lib.splitB_all ⟨#[c]⟩ (Nat.le_refl 1) 0 _ s rfl]
  have := Lib.countB_le ⟨#[c]⟩ (Nat.le_refl 1) s.size s (Nat.le_refl _)
  omega

end Go.Proofs.YtjjmiapopjaoeaaDoor
