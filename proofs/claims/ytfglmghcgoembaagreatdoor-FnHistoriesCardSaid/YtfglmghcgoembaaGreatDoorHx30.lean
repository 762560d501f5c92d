/-
  Several texts in one. No conditions.
-/
import Derived.Test.YtfglmghcgoembaaGreatDoorHx29
import Derived.Test.YtfglmghcgoembaaGreatDoorHx28
import Derived.Lib.SplitLaws
import Derived.Lib.IndexLaws
import Derived.Lib.IndexBytes
import Derived.Lib.ItoaMem
import Derived.Lib.Atoi
import Derived.Lib.AtoiTie
namespace Go.Proofs.YtfglmghcgoembaaGreatDoor
open Go.RowKit Go.PlainAid

theorem ba_ext {a b : ByteArray} (h : a.data.toList = b.data.toList) : a = b := by
  cases a; cases b; congr 1; exact Array.toList_inj.1 h
theorem ba_len (a : ByteArray) : a.data.toList.length = a.size := by simp
theorem ba_app (a b : ByteArray) : (a ++ b).data.toList = a.data.toList ++ b.data.toList := by simp
theorem ba_mk (l : List UInt8) : (⟨l.toArray⟩ : ByteArray).data.toList = l := by simp
theorem ba_ex (s : ByteArray) (i j : Nat) : (s.extract i j).data.toList = (s.data.toList.drop i).take (j - i) := by
  simp
/-- the pieces of a list between the bytes c -/
def cutL (c : UInt8) : List UInt8 → List (List UInt8)
  | [] => [[]]
  | b :: l => if b = c then [] :: cutL c l else match cutL c l with
    | [] => [[b]]
    | p :: ps => (b :: p) :: ps
theorem cutL_ne (c : UInt8) (l : List UInt8) : cutL c l ≠ [] := by
  cases l with
  | nil => simp [cutL]
  | cons b l => unfold cutL; split; simp; split <;> simp
theorem cutL_none {c : UInt8} : ∀ {l : List UInt8}, c ∉ l → cutL c l = [l]
  | [], _ => rfl
  | b :: l, h => by
    simp at h
    rw [cutL, if_neg (fun e => h.1 e.symm), cutL_none h.2]
theorem cutL_app {c : UInt8} (r : List UInt8) : ∀ {a : List UInt8}, c ∉ a → cutL c (a ++ c :: r) = a :: cutL c r
  | [], _ => by simp [cutL]
  | b :: a, h => by
    simp at h
    rw [List.cons_append, cutL, if_neg (fun e => h.1 e.symm), cutL_app r h.2]
def cutB (c : UInt8) (s : ByteArray) : List ByteArray := (cutL c s.data.toList).map fun l => ⟨l.toArray⟩
theorem notin_of {l : List UInt8} {c : UInt8} (h : ∀ k : Nat, l[k]? ≠ some c) : c ∉ l := fun hm => by
  obtain ⟨k, hk, e⟩ := List.getElem_of_mem hm
  exact h k (by rw [List.getElem?_eq_getElem hk, e])
theorem at_parts {l : List UInt8} {c : UInt8} {i : Nat} (h : l[i]? = some c) : l = l.take i ++ c :: l.drop (i + 1) := by
  obtain ⟨hi, e⟩ := List.getElem?_eq_some_iff.1 h
  conv => lhs; rw [← List.take_append_drop i l, List.drop_eq_getElem_cons hi, e]
theorem notin_take {l : List UInt8} {c : UInt8} {i : Nat} (h : ∀ k : Nat, k < i → l[k]? ≠ some c) : c ∉ l.take i := fun hm => by
  obtain ⟨k, hk, e⟩ := List.getElem_of_mem hm
  rw [List.length_take] at hk
  refine h k (by omega) ?_
  rw [List.getElem_take] at e
  rw [List.getElem?_eq_getElem (by omega), e]
theorem splitB_cut (c : UInt8) : ∀ (n : Nat) (s : ByteArray), s.size ≤ n → Lib.splitB ⟨#[c]⟩ 0 (Lib.countB s ⟨#[c]⟩) s = cutB c s
  | n, s, hn => by
    have hone : ∀ l : List UInt8, Lib.index l [c] = Lib.indexByte l c := fun l => Lib.index_one l c
    have hix : Lib.indexB s ⟨#[c]⟩ = Lib.indexByte s.data.toList c := hone _
    rcases Lib.indexB_cases s ⟨#[c]⟩ with h | ⟨i, h, hroom⟩
    · rw [Lib.splitB_miss _ _ _ _ h]
      rw [hix] at h
      unfold cutB
      rw [cutL_none (notin_of (Lib.indexByte_none h))]
      simp
    · have hsz : (⟨#[c]⟩ : ByteArray).size = 1 := rfl
      rw [hsz] at hroom
      rw [Lib.countB_hit s ⟨#[c]⟩ i (by rw [hsz]; exact Nat.le_refl 1) h, Nat.add_comm 1, Lib.splitB_hit _ _ _ _ _ h, hsz]
      have ih := splitB_cut c (n - 1) (s.extract (i + 1) s.size) (by rw [ByteArray.size_extract]; omega)
      rw [ih]
      rw [hix] at h
      obtain ⟨h1, h2⟩ := Lib.indexByte_some h
      unfold cutB
      conv => rhs; rw [at_parts h1, cutL_app _ (notin_take h2)]
      rw [List.map_cons, ba_ex]
      congr 1
      · apply ba_ext; rw [ba_ex]; simp
      · rw [List.take_of_length_le (by rw [List.length_drop, ba_len]; omega)]
termination_by n => n
decreasing_by omega

-- digits
theorem decFrom_snoc (b : UInt8) : ∀ (l : List UInt8) (acc : Nat), Lib.decFrom acc (l ++ [b]) = (Lib.decFrom acc l).bind fun n => (Lib.digitVal b).map fun d => n * 10 + d
  | [], acc => by simp only [List.nil_append, Lib.decFrom]; cases Lib.digitVal b <;> rfl
  | a :: l, acc => by
    simp only [List.cons_append, Lib.decFrom]
    cases Lib.digitVal a with
    | none => rfl
    | some d => exact decFrom_snoc b l _
theorem u8n {d : Nat} (h : d < 10) : (UInt8.ofNat (48 + d)).toNat = 48 + d := by rw [UInt8.toNat_ofNat']; omega
theorem digitVal_of {d : Nat} (h : d < 10) : Lib.digitVal (UInt8.ofNat (48 + d)) = some d := by
  unfold Lib.digitVal
  rw [u8n h, if_pos (by omega)]; congr 1; omega
theorem decFrom_digits (u : Nat) : Lib.decFrom 0 (Lib.decDigits u) = some u := by
  induction u using Nat.strongRecOn with
  | ind u ih =>
    rw [Lib.decDigits]
    split
    · rename_i h; rw [Lib.decFrom, digitVal_of h]; simp [Lib.decFrom]
    · rename_i h
      rw [decFrom_snoc, ih (u / 10) (by omega), digitVal_of (by omega)]
      simp; omega
theorem digits_ne (u : Nat) : Lib.decDigits u ≠ [] := by rw [Lib.decDigits]; split <;> simp
theorem digits_dig (u : Nat) : ∀ b ∈ Lib.decDigits u, 48 ≤ b.toNat ∧ b.toNat ≤ 57 := by
  induction u using Nat.strongRecOn with
  | ind u ih =>
    intro b hb
    rw [Lib.decDigits] at hb
    have key : ∀ d, d < 10 → 48 ≤ (UInt8.ofNat (48 + d)).toNat ∧ (UInt8.ofNat (48 + d)).toNat ≤ 57 := by
      intro d hd; rw [u8n hd]; omega
    split at hb
    · rw [List.mem_singleton] at hb; subst hb; exact key _ (by omega)
    · rw [List.mem_append] at hb
      rcases hb with hb | hb
      · exact ih _ (by omega) b hb
      · rw [List.mem_singleton] at hb; subst hb; exact key _ (by omega)
theorem digits_len (u k : Nat) (h : u < 10 ^ (k + 1)) : (Lib.decDigits u).length ≤ k + 1 := by
  induction k generalizing u with
  | zero => rw [Lib.decDigits, dif_pos (by simpa using h)]; simp
  | succ k ih =>
    rw [Lib.decDigits]
    split
    · simp
    · rw [List.length_append]; have := ih (u / 10) (by rw [Nat.pow_succ] at h; omega); simp; omega
theorem digits_pos (u : Nat) : 1 ≤ (Lib.decDigits u).length := by
  rcases h : Lib.decDigits u with _ | ⟨a, l⟩
  · exact absurd h (digits_ne u)
  · simp
/-- the first digit is 0 at 0 alone -/
theorem digits_head (u : Nat) (h : 1 ≤ u) : ∃ b l, Lib.decDigits u = b :: l ∧ b.toNat ≠ 48 := by
  induction u using Nat.strongRecOn with
  | ind u ih =>
    rw [Lib.decDigits]
    split
    · rename_i h9; exact ⟨UInt8.ofNat (48 + u), [], rfl, by rw [u8n h9]; omega⟩
    · obtain ⟨b, l, e, hb⟩ := ih (u / 10) (by omega) (by omega)
      exact ⟨b, l ++ _, by rw [e]; rfl, hb⟩
theorem atoi_digits (u : Nat) : Lib.atoi (Lib.decDigits u) = some (u : Int) := by
  have hd := decFrom_digits u
  have hg := digits_dig u
  rcases h : Lib.decDigits u with _ | ⟨a, l⟩
  · exact absurd h (digits_ne u)
  · rw [h] at hd hg
    have ha := hg a (by simp)
    have h1 : (a == 45) = false := by cases e : a == 45 with
      | false => rfl
      | true => rw [eq_of_beq e] at ha; simp at ha
    have h2 : (a == 43) = false := by cases e : a == 43 with
      | false => rfl
      | true => rw [eq_of_beq e] at ha; simp at ha
    simp [Lib.atoi, h1, h2, Lib.decNat, hd]

theorem itB_nat (u : Nat) : itB (u : Int) = ⟨(Lib.decDigits u).toArray⟩ := by unfold itB; rw [Lib.itoa_nonneg]
theorem itB_list (u : Nat) : (itB (u : Int)).data.toList = Lib.decDigits u := by rw [itB_nat]
theorem atoiAll_it (u : Nat) (h : u < 1000000) : Lib.atoiAll (itB (u : Int)).data.toList = .ok (u : Int) := by
  rw [itB_list, Lib.atoiAll_short _ (by have := digits_len u 5 (by omega); omega), atoi_digits]; rfl

theorem nameB_byte {s : ByteArray} (h : nameB s = true) : ∀ b ∈ s.data.toList, 48 ≤ b.toNat ∧ b ≠ 61 ∧ b ≠ 10 := by
  intro b hb
  obtain ⟨k, hk, e⟩ := List.getElem_of_mem hb
  rw [ba_len] at hk
  simp only [nameB, Bool.and_eq_true] at h
  have h1 := allB_iff.1 h.1 k hk
  have h2 : bt s k = (b.toNat : Int) := by
    rw [← e]; unfold bt; simp [hk]; rfl
  simp only [nameC, Bool.or_eq_true, Bool.and_eq_true, h2] at h1
  have h3 : 48 ≤ b.toNat ∧ b.toNat ≠ 61 := by
    rcases h1 with h1 | ⟨_, h1⟩
    · have := inB_iff.1 h1; omega
    · have := inB_iff.1 h1; omega
  refine ⟨h3.1, fun e => h3.2 (by rw [e]; rfl), fun e => ?_⟩
  rw [e] at h3; simp at h3
/-- the sum of a text -/
def sumStep (n : Int) (b : UInt8) : Int := (31 * n + b.toNat) % 99991
def sumL (l : List UInt8) : Int := l.foldl sumStep 5
theorem sumL_snoc (l : List UInt8) (b : UInt8) : sumL (l ++ [b]) = (31 * sumL l + b.toNat) % 99991 := by simp [sumL, sumStep]
theorem sumStep_bd (l : List UInt8) : ∀ n : Int, 0 ≤ n → n ≤ 99990 → 0 ≤ l.foldl sumStep n ∧ l.foldl sumStep n ≤ 99990 := by
  induction l with
  | nil => intro n h1 h2; exact ⟨h1, h2⟩
  | cons b l ih => intro n h1 h2; exact ih _ (by unfold sumStep; omega) (by unfold sumStep; omega)
theorem sumL_bd (l : List UInt8) : 0 ≤ sumL l ∧ sumL l ≤ 99990 := sumStep_bd l 5 (by omega) (by omega)
/-- a line -/
def headB (n : Int) (x : State) : ByteArray := itB n ++ ⟨#[61]⟩ ++ x.Name ++ ⟨#[61]⟩ ++ itB x.Value ++ ⟨#[61]⟩
def lineB (n : Int) (x : State) : ByteArray := headB n x ++ itB (sumL (headB n x).data.toList) ++ ⟨#[10]⟩
def okL (n : Int) (x : State) : Bool := inB n 0 39 && stateB x
theorem okL_bd {n : Int} {x : State} (h : okL n x = true) : (0 ≤ n ∧ n ≤ 39) ∧ x.Name.size ≤ 6 ∧ 0 ≤ x.Value ∧ x.Value ≤ 9999 := by
  simp only [okL, stateB, Bool.and_eq_true] at h
  exact ⟨inB_iff.1 h.1, nameB_size h.2.1, inB_iff.1 h.2.2⟩
theorem it_len {n : Int} (h0 : 0 ≤ n) (k : Nat) (h : n < 10 ^ (k + 1)) : (itB n).size ≤ k + 1 := by
  obtain ⟨u, rfl⟩ := Int.eq_ofNat_of_zero_le h0
  rw [← ba_len, itB_list]
  exact digits_len u k (by have : ((10 ^ (k + 1) : Nat) : Int) = (10 : Int) ^ (k + 1) := by simp
                           omega)
theorem it_dig {n : Int} (h0 : 0 ≤ n) : ∀ b ∈ (itB n).data.toList, 48 ≤ b.toNat ∧ b.toNat ≤ 57 := by
  obtain ⟨u, rfl⟩ := Int.eq_ofNat_of_zero_le h0
  rw [itB_list]; exact digits_dig u
theorem dig_not {l : List UInt8} {c : UInt8} (h : ∀ b ∈ l, 48 ≤ b.toNat ∧ b.toNat ≤ 57) (hc : c.toNat < 48 ∨ 57 < c.toNat) : c ∉ l := fun hm => by
  have := h c hm; omega
theorem head_len {n : Int} {x : State} (h : okL n x = true) : (headB n x).size ≤ 15 := by
  simp only [okL, stateB, Bool.and_eq_true] at h
  have h1 := inB_iff.1 h.1
  have h2 := nameB_size h.2.1
  have h3 := inB_iff.1 h.2.2
  have l1 := it_len (n := n) h1.1 1 (by omega)
  have l2 := it_len (n := x.Value) h3.1 3 (by omega)
  simp only [headB, ByteArray.size_append]
  have : (⟨#[61]⟩ : ByteArray).size = 1 := rfl
  omega
theorem line_len {n : Int} {x : State} (h : okL n x = true) : (lineB n x).size ≤ 21 := by
  have h1 := head_len h
  have h2 := sumL_bd (headB n x).data.toList
  have l1 := it_len (n := sumL (headB n x).data.toList) h2.1 4 (by omega)
  simp only [lineB, ByteArray.size_append]
  have : (⟨#[10]⟩ : ByteArray).size = 1 := rfl
  omega
theorem line_list (n : Int) (x : State) : (lineB n x).data.toList = (itB n).data.toList ++ 61 :: (x.Name.data.toList ++ 61 :: ((itB x.Value).data.toList ++ 61 :: ((itB (sumL (headB n x).data.toList)).data.toList ++ [10]))) := by
  simp [lineB, headB]
theorem line_cut {n : Int} {x : State} (h : okL n x = true) : cutB 61 (lineB n x) = [itB n, x.Name, itB x.Value, itB (sumL (headB n x).data.toList) ++ ⟨#[10]⟩] := by
  simp only [okL, stateB, Bool.and_eq_true] at h
  have h1 := inB_iff.1 h.1
  have h3 := inB_iff.1 h.2.2
  have h2 := sumL_bd (headB n x).data.toList
  have c1 : (61 : UInt8) ∉ (itB n).data.toList := dig_not (it_dig h1.1) (by decide)
  have c2 : (61 : UInt8) ∉ x.Name.data.toList := fun hm => (nameB_byte h.2.1 _ hm).2.1 rfl
  have c3 : (61 : UInt8) ∉ (itB x.Value).data.toList := dig_not (it_dig h3.1) (by decide)
  have c4 : (61 : UInt8) ∉ (itB (sumL (headB n x).data.toList)).data.toList ++ [10] := by
    rw [List.mem_append]; intro hm
    rcases hm with hm | hm
    · exact dig_not (it_dig h2.1) (by decide) hm
    · simp at hm
  rw [cutB, line_list, cutL_app _ c1, cutL_app _ c2, cutL_app _ c3, cutL_none c4]
  simp only [List.map_cons, List.map_nil]
  congr 4
/-- 10 stands at a line's end and nowhere else -/
theorem line_nl {n : Int} {x : State} (h : okL n x = true) : ∃ l : List UInt8, (lineB n x).data.toList = l ++ [10] ∧ (10 : UInt8) ∉ l := by
  simp only [okL, stateB, Bool.and_eq_true] at h
  have h1 := inB_iff.1 h.1
  have h3 := inB_iff.1 h.2.2
  have h2 := sumL_bd (headB n x).data.toList
  refine ⟨(itB n).data.toList ++ 61 :: (x.Name.data.toList ++ 61 :: ((itB x.Value).data.toList ++ 61 :: (itB (sumL (headB n x).data.toList)).data.toList)), by rw [line_list]; simp, ?_⟩
  have c1 : (10 : UInt8) ∉ (itB n).data.toList := dig_not (it_dig h1.1) (by decide)
  have c2 : (10 : UInt8) ∉ x.Name.data.toList := fun hm => (nameB_byte h.2.1 _ hm).2.2 rfl
  have c3 : (10 : UInt8) ∉ (itB x.Value).data.toList := dig_not (it_dig h3.1) (by decide)
  have c4 : (10 : UInt8) ∉ (itB (sumL (headB n x).data.toList)).data.toList := dig_not (it_dig h2.1) (by decide)
  simp [c1, c2, c3, c4]
theorem it_inj {m n : Int} (hm : 0 ≤ m) (hn : 0 ≤ n) (h1 : m < 1000000) (h2 : n < 1000000) (h : itB m = itB n) : m = n := by
  obtain ⟨u, rfl⟩ := Int.eq_ofNat_of_zero_le hm
  obtain ⟨v, rfl⟩ := Int.eq_ofNat_of_zero_le hn
  have e1 := atoiAll_it u (by omega)
  have e2 := atoiAll_it v (by omega)
  rw [h] at e1
  rw [show (↑v : Int) = Int.ofNat v from rfl] at *
  rw [e1] at e2
  injection e2
theorem line_inj {m n : Int} {x y : State} (h1 : okL m x = true) (h2 : okL n y = true) (h : lineB m x = lineB n y) : m = n ∧ x = y := by
  have e := line_cut h1
  rw [h, line_cut h2] at e
  injection e with e1 e
  injection e with e2 e
  injection e with e3 e
  simp only [okL, stateB, Bool.and_eq_true] at h1 h2
  have a1 := inB_iff.1 h1.1
  have a2 := inB_iff.1 h1.2.2
  have b1 := inB_iff.1 h2.1
  have b2 := inB_iff.1 h2.2.2
  refine ⟨(it_inj b1.1 a1.1 (by omega) (by omega) e1).symm, ?_⟩
  have e4 := it_inj b2.1 a2.1 (by omega) (by omega) e3
  cases x; cases y; simp_all
open Classical in
/-- the number and the state of a line -/
noncomputable def parseB (l : ByteArray) : Option (Int × State) := if h : ∃ p : Int × State, okL p.1 p.2 = true ∧ l = lineB p.1 p.2 then some h.choose else none
theorem parseB_line {n : Int} {x : State} (h : okL n x = true) : parseB (lineB n x) = some (n, x) := by
  have hx : ∃ p : Int × State, okL p.1 p.2 = true ∧ lineB n x = lineB p.1 p.2 := ⟨(n, x), h, rfl⟩
  rw [parseB, dif_pos hx]
  obtain ⟨e1, e2⟩ := line_inj h hx.choose_spec.1 hx.choose_spec.2
  congr 1
  exact Prod.ext e1.symm e2.symm
theorem parseB_some {l : ByteArray} {p : Int × State} (h : parseB l = some p) : okL p.1 p.2 = true ∧ l = lineB p.1 p.2 := by
  unfold parseB at h
  split at h
  · rename_i hx; injection h with h; subst h; exact hx.choose_spec
  · cases h
theorem parseB_none {l : ByteArray} (h : ∀ n x, okL n x = true → l ≠ lineB n x) : parseB l = none := by
  rw [parseB, dif_neg]
  rintro ⟨p, h1, h2⟩; exact h _ _ h1 h2
/-- where the first 10 stands -/
def nlAt (l : List UInt8) : Option Nat := l.findIdx? (fun b => b == 10)
/-- the states of the lines from a number on, and how many bytes they have -/
noncomputable def rd : Nat → Int → List UInt8 → List State × Nat
  | 0, _, _ => ([], 0)
  | f + 1, num, l => match nlAt l with
    | none => ([], 0)
    | some n => match parseB ⟨(l.take (n + 1)).toArray⟩ with
      | none => ([], 0)
      | some p => if p.1 = num then (p.2 :: (rd f (num + 1) (l.drop (n + 1))).1, n + 1 + (rd f (num + 1) (l.drop (n + 1))).2) else ([], 0)
theorem rd_stop {f : Nat} {num : Int} {l : List UInt8} (h : nlAt l = none) : rd f num l = ([], 0) := by
  cases f with
  | zero => rfl
  | succ f => simp [rd, h]
theorem rd_bad {f : Nat} {num : Int} {l : List UInt8} {n : Nat} (h : nlAt l = some n) (hp : ∀ p, parseB ⟨(l.take (n + 1)).toArray⟩ = some p → p.1 ≠ num) : rd f num l = ([], 0) := by
  cases f with
  | zero => rfl
  | succ f =>
    simp only [rd, h]
    split
    · rfl
    · rename_i p e; rw [if_neg (hp p e)]
theorem rd_good {f : Nat} {num : Int} {l : List UInt8} {n : Nat} {x : State} (h : nlAt l = some n) (hp : parseB ⟨(l.take (n + 1)).toArray⟩ = some (num, x)) :
    rd (f + 1) num l = (x :: (rd f (num + 1) (l.drop (n + 1))).1, n + 1 + (rd f (num + 1) (l.drop (n + 1))).2) := by
  simp [rd, h, hp]
theorem nlAt_some {l : List UInt8} {n : Nat} (h : nlAt l = some n) : n < l.length ∧ l[n]? = some 10 ∧ ∀ k : Nat, k < n → l[k]? ≠ some 10 := by
  unfold nlAt at h
  rw [List.findIdx?_eq_some_iff_getElem] at h
  obtain ⟨h1, h2, h3⟩ := h
  refine ⟨h1, by rw [List.getElem?_eq_getElem h1]; congr 1; exact eq_of_beq h2, fun k hk e => ?_⟩
  have h4 := h3 k hk
  obtain ⟨h5, h6⟩ := List.getElem?_eq_some_iff.1 e
  rw [h6] at h4; simp at h4
theorem nlAt_mk {l : List UInt8} {n : Nat} (h1 : l[n]? = some 10) (h2 : ∀ k : Nat, k < n → l[k]? ≠ some 10) : nlAt l = some n := by
  unfold nlAt
  obtain ⟨h3, h4⟩ := List.getElem?_eq_some_iff.1 h1
  rw [List.findIdx?_eq_some_iff_getElem]
  refine ⟨h3, by rw [h4]; rfl, fun j hj => ?_⟩
  have := h2 j hj
  rw [List.getElem?_eq_getElem (by omega)] at this
  intro e; exact this (congrArg some (eq_of_beq e))
theorem nlAt_none {l : List UInt8} (h : ∀ k : Nat, l[k]? ≠ some 10) : nlAt l = none := by
  cases e : nlAt l with
  | none => rfl
  | some n => exact absurd (nlAt_some e).2.1 (h n)
theorem nlAt_no {l : List UInt8} (h : nlAt l = none) : ∀ k : Nat, l[k]? ≠ some 10 := fun k hk => by
  unfold nlAt at h
  rw [List.findIdx?_eq_none_iff] at h
  have := h 10 (List.mem_of_getElem? hk)
  simp at this
theorem nlAt_byte (l : List UInt8) : Lib.indexByte l 10 = match nlAt l with | none => -1 | some n => (n : Int) := by
  cases h : nlAt l with
  | none =>
    have h0 := Lib.indexByte_ge l 10
    by_cases e : Lib.indexByte l 10 = -1
    · exact e
    · obtain ⟨o, ho⟩ := Int.eq_ofNat_of_zero_le (by omega : 0 ≤ Lib.indexByte l 10)
      exact absurd (Lib.indexByte_some ho).1 (nlAt_no h o)
  | some n =>
    have h1 := nlAt_some h
    have h0 := Lib.indexByte_ge l 10
    by_cases e : Lib.indexByte l 10 = -1
    · exact absurd h1.2.1 (Lib.indexByte_none e n)
    · obtain ⟨o, ho⟩ := Int.eq_ofNat_of_zero_le (by omega : 0 ≤ Lib.indexByte l 10)
      have h2 := Lib.indexByte_some ho
      have : o = n := by
        rcases Nat.lt_trichotomy o n with h3 | h3 | h3
        · exact absurd h2.1 (h1.2.2 o h3)
        · exact h3
        · exact absurd h1.2.1 (h2.2 n h3)
      rw [ho, this]
theorem nlAt_app {l : List UInt8} {n : Nat} (r : List UInt8) (h : nlAt l = some n) : nlAt (l ++ r) = some n := by
  obtain ⟨h1, h2, h3⟩ := nlAt_some h
  refine nlAt_mk (by rw [List.getElem?_append_left h1]; exact h2) fun k hk => by rw [List.getElem?_append_left (by omega)]; exact h3 k hk
theorem rd_le (f : Nat) : ∀ (num : Int) (l : List UInt8), (rd f num l).1.length ≤ f ∧ (rd f num l).2 ≤ l.length ∧ (rd f num l).2 ≤ 21 * (rd f num l).1.length := by
  induction f with
  | zero => intro num l; simp [rd]
  | succ f ih =>
    intro num l
    cases h : nlAt l with
    | none => rw [rd_stop h]; simp
    | some n =>
      by_cases hp : ∃ x, parseB ⟨(l.take (n + 1)).toArray⟩ = some (num, x)
      · obtain ⟨x, hx⟩ := hp
        rw [rd_good h hx]
        obtain ⟨i1, i2, i3⟩ := ih (num + 1) (l.drop (n + 1))
        have h1 := (nlAt_some h).1
        rw [List.length_drop] at i2
        obtain ⟨o1, o2⟩ := parseB_some hx
        have h4 := line_len o1
        rw [← o2] at h4
        have h5 : (⟨(l.take (n + 1)).toArray⟩ : ByteArray).size = n + 1 := by rw [← ba_len, ba_mk, List.length_take]; omega
        simp only [List.length_cons]
        omega
      · rw [rd_bad h (fun p hq e => hp ⟨p.2, by rw [hq, ← e]⟩)]; simp
theorem rd_append (f : Nat) : ∀ (num : Int) (l r : List UInt8) (a : List State), rd f num l = (a, l.length) →
    rd f num (l ++ r) = (a ++ (rd (f - a.length) (num + a.length) r).1, l.length + (rd (f - a.length) (num + a.length) r).2) := by
  induction f with
  | zero =>
    intro num l r a h
    simp only [rd, Prod.mk.injEq] at h
    obtain ⟨rfl, h⟩ := h
    have : l = [] := List.eq_nil_of_length_eq_zero h.symm
    subst this
    simp [rd]
  | succ f ih =>
    intro num l r a h
    cases hn : nlAt l with
    | none =>
      rw [rd_stop hn, Prod.mk.injEq] at h
      obtain ⟨rfl, h⟩ := h
      have : l = [] := List.eq_nil_of_length_eq_zero h.symm
      subst this
      simp
    | some n =>
      have h1 := (nlAt_some hn).1
      by_cases hp : ∃ x, parseB ⟨(l.take (n + 1)).toArray⟩ = some (num, x)
      · obtain ⟨x, hx⟩ := hp
        have e1 : (l ++ r).take (n + 1) = l.take (n + 1) := List.take_append_of_le_length (by omega)
        have e2 : (l ++ r).drop (n + 1) = l.drop (n + 1) ++ r := List.drop_append_of_le_length (by omega)
        rw [rd_good hn hx, Prod.mk.injEq] at h
        obtain ⟨rfl, h⟩ := h
        rw [rd_good (nlAt_app r hn) (by rw [e1]; exact hx), e2]
        have i := ih (num + 1) (l.drop (n + 1)) r (rd f (num + 1) (l.drop (n + 1))).1 (Prod.ext rfl (by rw [List.length_drop]; simp only []; omega))
        rw [i]
        simp only [List.length_cons, List.cons_append, Nat.add_sub_add_right, List.length_drop]
        have e3 : num + 1 + ((rd f (num + 1) (l.drop (n + 1))).1.length : Int) = num + (((rd f (num + 1) (l.drop (n + 1))).1.length + 1 : Nat) : Int) := by omega
        rw [e3]
        congr 1
        omega
      · rw [rd_bad hn (fun p hq e => hp ⟨p.2, by rw [hq, ← e]⟩), Prod.mk.injEq] at h
        omega
/-- a beginning of a text has a beginning of its states -/
theorem rd_take (f : Nat) : ∀ (num : Int) (l : List UInt8) (k : Nat), (rd f num (l.take k)).1 <+: (rd f num l).1 := by
  induction f with
  | zero => intro num l k; simp [rd]
  | succ f ih =>
    intro num l k
    cases hn : nlAt (l.take k) with
    | none => rw [rd_stop hn]; exact List.nil_prefix
    | some n =>
      have hl : nlAt l = some n := by
        have := nlAt_app (l.drop k) hn
        rwa [List.take_append_drop] at this
      have h1 := (nlAt_some hn).1
      rw [List.length_take] at h1
      by_cases hp : ∃ x, parseB ⟨((l.take k).take (n + 1)).toArray⟩ = some (num, x)
      · obtain ⟨x, hx⟩ := hp
        rw [rd_good hn hx]
        rw [List.take_take, Nat.min_eq_left (by omega)] at hx
        rw [rd_good hl hx]
        simp only [List.cons_prefix_cons, true_and]
        rw [List.drop_take]
        exact ih _ _ _
      · rw [rd_bad hn (fun p hq e => hp ⟨p.2, by rw [hq, ← e]⟩)]; exact List.nil_prefix
/-- a diary's states, where it is valid -/
noncomputable def openB (s o : ByteArray) : Bool :=
  decide ((rd 40 0 s.data.toList).2 = s.size) && decide ((rd (40 - (rd 40 0 s.data.toList).1.length) ((rd 40 0 s.data.toList).1.length : Nat) o.data.toList).2 = o.size)
noncomputable def statesB (s o : ByteArray) : List State := (rd 40 0 (s ++ o).data.toList).1
theorem open_all {s o : ByteArray} (h : (rd 40 0 s.data.toList).2 = s.size) : rd 40 0 (s ++ o).data.toList =
    ((rd 40 0 s.data.toList).1 ++ (rd (40 - (rd 40 0 s.data.toList).1.length) ((rd 40 0 s.data.toList).1.length : Nat) o.data.toList).1, s.size + (rd (40 - (rd 40 0 s.data.toList).1.length) ((rd 40 0 s.data.toList).1.length : Nat) o.data.toList).2) := by
  have := rd_append 40 0 s.data.toList o.data.toList (rd 40 0 s.data.toList).1 (Prod.ext rfl (by rw [ba_len]; exact h))
  rw [← ba_app, ba_len, Int.zero_add] at this
  exact this
theorem open_spec (s o : ByteArray) : openB s o = (decide (s.size ≤ 3000) && decide (o.size ≤ 3000) && decide ((rd 40 0 s.data.toList).2 = s.size) && decide ((rd 40 0 (s ++ o).data.toList).2 = s.size + o.size)) := by
  by_cases h : (rd 40 0 s.data.toList).2 = s.size
  · rw [open_all h]
    have h1 := rd_le 40 0 s.data.toList
    have h2 := rd_le (40 - (rd 40 0 s.data.toList).1.length) ((rd 40 0 s.data.toList).1.length : Nat) o.data.toList
    have h3 : s.size ≤ 3000 := by omega
    unfold openB
    by_cases h4 : (rd (40 - (rd 40 0 s.data.toList).1.length) ((rd 40 0 s.data.toList).1.length : Nat) o.data.toList).2 = o.size
    · have h5 : o.size ≤ 3000 := by omega
      simp [h, h3, h4, h5]
    · have h5 : ¬ s.size + (rd (40 - (rd 40 0 s.data.toList).1.length) ((rd 40 0 s.data.toList).1.length : Nat) o.data.toList).2 = s.size + o.size := by omega
      simp [h4]
  · simp [openB, h]
theorem states_len (s o : ByteArray) : (statesB s o).length ≤ 40 := (rd_le 40 0 _).1
end Go.Proofs.YtfglmghcgoembaaGreatDoor

namespace Go.Proofs.YtfglmghcgoembaaGreatDoor
open Go.RowKit

structure Env (w : World) : Prop where
  tab : Tab w
  syn : ∃ tp p, w.var? Tryz.prog "strconv.ErrSyntax" = some #[.iface tp p]
  rng : ∃ tp p, w.var? Tryz.prog "strconv.ErrRange" = some #[.iface tp p]
  len : ∃ m, w.cell? ⟨0, 0, none⟩ = some (.int .i64 m)
theorem Env.below {w w' : World} (h : Env w) (hb : Below w.heap.size w w') : Env w' :=
  ⟨h.tab.below hb, by obtain ⟨tp, p, e⟩ := h.syn; exact ⟨tp, p, var_below e hb⟩, by obtain ⟨tp, p, e⟩ := h.rng; exact ⟨tp, p, var_below e hb⟩, by obtain ⟨m, e⟩ := h.len; exact ⟨m, cell_later hb e⟩⟩
end Go.Proofs.YtfglmghcgoembaaGreatDoor
