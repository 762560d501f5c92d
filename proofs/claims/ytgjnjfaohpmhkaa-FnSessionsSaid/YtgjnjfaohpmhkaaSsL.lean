/-
  Sessions in plain words: due places sorted, those of each kind in pieces. No conditions.
-/
import Derived.Test.YtgjnjfaohpmhkaaSsP
import Derived.Test.YtgjnjfaohpmhkaaDueKF
namespace Go.Proofs.Ytgjnjfaohpmhkaa
open Go.RowKit

/-- put into a sorted list; a list sorted -/
def insK (key : Int → Int) (x : Int) : List Int → List Int
  | [] => [x]
  | y :: l => if key x < key y ∨ (key x = key y ∧ x < y) then x :: y :: l else y :: insK key x l
def sortK (key : Int → Int) : List Int → List Int
  | [] => []
  | x :: l => insK key x (sortK key l)
theorem insK_perm (key : Int → Int) (x : Int) : ∀ l, (insK key x l).Perm (x :: l)
  | [] => List.Perm.refl _
  | y :: l => by
    unfold insK
    split
    · exact List.Perm.refl _
    · exact ((insK_perm key x l).cons y).trans (List.Perm.swap x y l)
theorem sortK_perm (key : Int → Int) : ∀ l, (sortK key l).Perm l
  | [] => List.Perm.refl _
  | x :: l => (insK_perm key x _).trans ((sortK_perm key l).cons x)
theorem insK_srt {key : Int → Int} {x : Int} : ∀ {l}, SrtK key l → x ∉ l → SrtK key (insK key x l)
  | [], _, _ => List.pairwise_singleton _ _
  | y :: l, h, hx => by
    unfold insK
    have hl := List.pairwise_cons.1 h
    split
    · rename_i hc
      refine List.pairwise_cons.2 ⟨fun z hz => ?_, h⟩
      rcases List.mem_cons.1 hz with rfl | hz
      · exact hc
      · exact ltK_tr hc (hl.1 z hz)
    · rename_i hc
      have hne : x ≠ y := fun e => hx (e ▸ List.mem_cons_self)
      refine List.pairwise_cons.2 ⟨fun z hz => ?_, insK_srt hl.2 (fun hm => hx (List.mem_cons_of_mem _ hm))⟩
      rcases List.mem_cons.1 ((insK_perm key x l).mem_iff.1 hz) with rfl | hz
      · unfold ltK; omega
      · exact hl.1 z hz
theorem sortK_srt {key : Int → Int} : ∀ {l}, l.Nodup → SrtK key (sortK key l)
  | [], _ => List.Pairwise.nil
  | x :: l, h => by
    have h2 := List.nodup_cons.1 h
    exact insK_srt (sortK_srt h2.2) (fun hm => h2.1 ((sortK_perm key l).mem_iff.1 hm))
theorem sortK_is {key : Int → Int} {l m : List Int} (hn : l.Nodup) (hs : SrtK key m) (hp : m.Perm l) : m = sortK key l :=
  srtK_unique hs (sortK_srt hn) (hp.trans (sortK_perm key l).symm)
theorem sortK_filter {key : Int → Int} {l : List Int} (hn : l.Nodup) (p : Int → Bool) : (sortK key l).filter p = sortK key (l.filter p) :=
  sortK_is (hn.sublist List.filter_sublist) (List.Pairwise.sublist List.filter_sublist (sortK_srt hn)) ((sortK_perm key l).filter p)
/-- pieces of m -/
def chunkF (m : Nat) : Nat → List Int → List (List Int)
  | 0, _ => []
  | f + 1, l => if l.length = 0 then [] else l.take m :: chunkF m f (l.drop m)
theorem chunkF_fuel {m : Nat} (hm : 0 < m) : ∀ (f g : Nat) (l : List Int), l.length ≤ f → l.length ≤ g → chunkF m f l = chunkF m g l
  | 0, 0, _, _, _ => rfl
  | 0, g + 1, l, h, _ => by unfold chunkF; rw [if_pos (by omega)]
  | f + 1, 0, l, _, h => by unfold chunkF; rw [if_pos (by omega)]
  | f + 1, g + 1, l, h1, h2 => by
    unfold chunkF
    by_cases e : l.length = 0
    · rw [if_pos e, if_pos e]
    · rw [if_neg e, if_neg e, chunkF_fuel hm f g (l.drop m) (by rw [List.length_drop]; omega) (by rw [List.length_drop]; omega)]
def chunk (m : Nat) (l : List Int) : List (List Int) := chunkF m l.length l
theorem chunk_nil (m : Nat) : chunk m [] = [] := rfl
theorem chunk_cons {m : Nat} {l : List Int} (hm : 0 < m) (h : 0 < l.length) : chunk m l = l.take m :: chunk m (l.drop m) := by
  obtain ⟨f, hf⟩ : ∃ f, l.length = f + 1 := ⟨l.length - 1, by omega⟩
  have h1 : chunkF m (f + 1) l = l.take m :: chunkF m f (l.drop m) := by rw [chunkF, if_neg (by omega)]
  have h2 := chunkF_fuel hm f (l.drop m).length (l.drop m) (by rw [List.length_drop]; omega) (Nat.le_refl _)
  unfold chunk
  rw [hf, h1, h2]
/-- full pieces and a rest -/
theorem chunk_full {m : Nat} (hm : 0 < m) : ∀ (out : List (List Int)) (ses : List Int), (∀ c, c ∈ out → c.length = m) → ses.length < m → chunk m (out.flatten ++ ses) = out ++ (if ses.length = 0 then [] else [ses])
  | [], ses, _, hs => by
    by_cases e : ses.length = 0
    · rw [if_pos e, List.eq_nil_of_length_eq_zero e]; rfl
    · rw [if_neg e]
      show chunk m ses = [ses]
      rw [chunk_cons hm (by omega), List.take_of_length_le (by omega), List.drop_of_length_le (by omega)]; rfl
  | c :: out, ses, h, hs => by
    have hc := h c List.mem_cons_self
    have ih := chunk_full hm out ses (fun d hd => h d (List.mem_cons_of_mem _ hd)) hs
    rw [List.flatten_cons, List.append_assoc, chunk_cons hm (by rw [List.length_append]; omega), List.take_left' hc, List.drop_left' hc, ih]
    rfl
theorem chunkF_props {m : Nat} (hm : 0 < m) : ∀ (f : Nat) (l : List Int), l.length ≤ f → (∀ c, c ∈ chunkF m f l → 1 ≤ c.length ∧ c.length ≤ m ∧ ∃ k, c = (l.drop k).take m) ∧ (chunkF m f l).flatten = l
  | 0, l, h => ⟨(fun c hc => by cases hc), by rw [List.eq_nil_of_length_eq_zero (by omega : l.length = 0)]; rfl⟩
  | f + 1, l, h => by
    unfold chunkF
    by_cases e : l.length = 0
    · rw [if_pos e]
      exact ⟨(fun c hc => by cases hc), by rw [List.eq_nil_of_length_eq_zero e]; rfl⟩
    · rw [if_neg e]
      obtain ⟨h1, h2⟩ := chunkF_props hm f (l.drop m) (by rw [List.length_drop]; omega)
      refine ⟨fun c hc => ?_, by rw [List.flatten_cons, h2, List.take_append_drop]⟩
      rcases List.mem_cons.1 hc with rfl | hc
      · exact ⟨by rw [List.length_take]; omega, by rw [List.length_take]; omega, 0, rfl⟩
      · obtain ⟨a, b, k, hk⟩ := h1 c hc
        exact ⟨a, b, m + k, by rw [hk, List.drop_drop]⟩
theorem chunk_props {m : Nat} (hm : 0 < m) (l : List Int) : (∀ c, c ∈ chunk m l → 1 ≤ c.length ∧ c.length ≤ m ∧ ∃ k, c = (l.drop k).take m) ∧ (chunk m l).flatten = l := chunkF_props hm _ l (Nat.le_refl _)
theorem chunk_len {m : Nat} (hm : 0 < m) (l : List Int) : (chunk m l).length ≤ l.length := by
  obtain ⟨h1, h2⟩ := chunk_props hm l
  have h3 : ∀ L : List (List Int), (∀ c, c ∈ L → 1 ≤ c.length) → L.length ≤ L.flatten.length := by
    intro L
    induction L with
    | nil => intro _; exact Nat.le_refl _
    | cons c L ih =>
      intro h
      have a := h c List.mem_cons_self
      have b := ih (fun d hd => h d (List.mem_cons_of_mem _ hd))
      rw [List.flatten_cons, List.length_append, List.length_cons]; omega
  have := h3 _ (fun c hc => (h1 c hc).1)
  rwa [h2] at this
/-- the sessions -/
def keyU (xs : List Skill) (i : Int) : Int := (nth xs i.toNat).Until
def kindK (xs : List Skill) (k : Int) (i : Int) : Bool := (nth xs i.toNat).Kind == k
def dueS (xs : List Skill) (day ahead : Int) : List Int := sortK (keyU xs) (dueU xs day ahead xs.length)
def ssU (xs : List Skill) (day ahead : Int) (m : Nat) (k : Nat) : List (List Int) := (List.range k).flatMap (fun j : Nat => chunk m ((dueS xs day ahead).filter (kindK xs (j : Int))))
theorem ssU_succ (xs : List Skill) (day ahead : Int) (m k : Nat) : ssU xs day ahead m (k + 1) = ssU xs day ahead m k ++ chunk m ((dueS xs day ahead).filter (kindK xs (k : Int))) := by
  unfold ssU; rw [List.range_succ, List.flatMap_append]; simp
def ssB (xs : List Skill) (day ahead seats : Int) : Bool := askB xs day ahead && inB seats 1 10
def ssF (xs : List Skill) (day ahead seats : Int) : List (List Int) × Bool := if ssB xs day ahead seats then (ssU xs day ahead seats.toNat 6, true) else ([], false)
theorem ssF_yes {xs : List Skill} {day ahead seats : Int} (h : ssB xs day ahead seats = true) : ssF xs day ahead seats = (ssU xs day ahead seats.toNat 6, true) := by unfold ssF; rw [if_pos h]
theorem ssF_no {xs : List Skill} {day ahead seats : Int} (h : ssB xs day ahead seats = false) : ssF xs day ahead seats = ([], false) := by unfold ssF; rw [if_neg (by rw [h]; exact Bool.false_ne_true)]
theorem dueU_mem {xs : List Skill} {day ahead : Int} {k : Nat} {i : Int} : i ∈ dueU xs day ahead k ↔ ∃ j : Nat, j < k ∧ (nth xs j).Until < day + ahead ∧ (j : Int) = i := by
  unfold dueU
  rw [List.mem_map]
  constructor
  · rintro ⟨j, hj, rfl⟩
    rw [List.mem_filter, List.mem_range] at hj
    exact ⟨j, hj.1, by simpa using hj.2, rfl⟩
  · rintro ⟨j, h1, h2, rfl⟩
    exact ⟨j, List.mem_filter.2 ⟨List.mem_range.2 h1, by simpa using h2⟩, rfl⟩
theorem dueU_up (xs : List Skill) (day ahead : Int) (k : Nat) : (dueU xs day ahead k).Pairwise (fun a b => a < b) := by
  unfold dueU
  refine List.pairwise_map.2 ?_
  refine List.Pairwise.sublist List.filter_sublist ?_
  exact (List.pairwise_lt_range (n := k)).imp (fun {a b} h => by omega)
theorem dueU_nodup (xs : List Skill) (day ahead : Int) (k : Nat) : (dueU xs day ahead k).Nodup := (dueU_up xs day ahead k).imp (fun {a b} h => by omega)
theorem dueS_mem {xs : List Skill} {day ahead : Int} {i : Int} : i ∈ dueS xs day ahead ↔ i ∈ dueU xs day ahead xs.length := (sortK_perm _ _).mem_iff
theorem dueS_len (xs : List Skill) (day ahead : Int) : (dueS xs day ahead).length = (dueU xs day ahead xs.length).length := (sortK_perm _ _).length_eq
theorem ss_flat (xs : List Skill) (day ahead : Int) {m : Nat} (hm : 0 < m) : ∀ k, (ssU xs day ahead m k).flatten = (List.range k).flatMap (fun j : Nat => (dueS xs day ahead).filter (kindK xs (j : Int)))
  | 0 => rfl
  | k + 1 => by rw [ssU_succ, List.flatten_append, ss_flat xs day ahead hm k, (chunk_props hm _).2, List.range_succ, List.flatMap_append]; simp
theorem ssU_len (xs : List Skill) (day ahead : Int) {m : Nat} (hm : 0 < m) : ∀ k, (ssU xs day ahead m k).length ≤ k * (dueS xs day ahead).length
  | 0 => by simp [ssU]
  | k + 1 => by
    have h1 := ssU_len xs day ahead hm k
    have h2 := chunk_len hm ((dueS xs day ahead).filter (kindK xs (k : Int)))
    have h3 := List.length_filter_le (kindK xs (k : Int)) (dueS xs day ahead)
    rw [ssU_succ, List.length_append, Nat.succ_mul]; omega

end Go.Proofs.Ytgjnjfaohpmhkaa
