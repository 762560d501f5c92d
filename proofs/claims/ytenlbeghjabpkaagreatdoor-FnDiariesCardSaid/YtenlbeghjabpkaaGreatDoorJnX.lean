/-
  States in order of names: what both sides compute. No conditions.
-/
import Derived.Test.YtenlbeghjabpkaaGreatDoorBytes
import Derived.Test.YtenlbeghjabpkaaGreatDoorJnLo
namespace Go.Proofs.YtenlbeghjabpkaaGreatDoor
open Go.RowKit

theorem bl_tot : ∀ {x y : List UInt8}, Op.bytesLess x y = false → Op.bytesLess y x = false → x = y
  | [], [], _, _ => rfl
  | [], _ :: _, h, _ => by simp [Op.bytesLess] at h
  | _ :: _, [], _, h => by simp [Op.bytesLess] at h
  | a :: x, b :: y, h1, h2 => by
    simp only [Op.bytesLess] at h1 h2
    have e1 : ∀ u v : UInt8, (u < v) ↔ u.toNat < v.toNat := fun u v => Iff.rfl
    have e2 : ∀ u v : UInt8, (u = v) ↔ u.toNat = v.toNat := fun u v => UInt8.toNat_inj.symm
    have ih := @bl_tot x y
    by_cases q1 : a = b
    · subst q1
      simp at h1 h2
      rw [ih h1 h2]
    · have hne : ¬ a.toNat = b.toNat := fun e => q1 ((e2 a b).2 e)
      have p : a < b ∨ b < a := by simp only [e1]; omega
      rcases p with p | p
      · simp [p] at h1
      · simp [p] at h2
theorem cmpBytes_eq : ∀ (x y : List UInt8), Lib.compareBytes x y = if Op.bytesLess x y then -1 else if Op.bytesLess y x then 1 else 0
  | [], [] => by simp [Lib.compareBytes, Op.bytesLess]
  | [], _ :: _ => by simp [Lib.compareBytes, Op.bytesLess]
  | _ :: _, [] => by simp [Lib.compareBytes, Op.bytesLess]
  | a :: x, b :: y => by
    have ih := cmpBytes_eq x y
    simp only [Lib.compareBytes, Op.bytesLess]
    have e1 : ∀ u v : UInt8, (u < v) ↔ u.toNat < v.toNat := fun u v => Iff.rfl
    have e2 : ∀ u v : UInt8, (u = v) ↔ u.toNat = v.toNat := fun u v => UInt8.toNat_inj.symm
    by_cases q1 : a = b
    · subst q1
      have hn : ¬ a < a := by simp only [e1]; omega
      simp [hn, ih]
    · have hne : ¬ a.toNat = b.toNat := fun e => q1 ((e2 a b).2 e)
      have hne2 : ¬ b = a := fun e => q1 e.symm
      by_cases p : a < b
      · simp [p]
      · have p2 : b < a := by simp only [e1] at p ⊢; omega
        simp [p, p2, q1]
/-- the closure's answer -/
def cmpN (x y : State) : Int := Lib.compareBytes x.Name.data.toList y.Name.data.toList
def stLess (x y : State) : Bool := Op.bytesLess x.Name.toList y.Name.toList
theorem cmpN_lt (x y : State) : (cmpN x y < 0) ↔ stLess x y = true := by
  unfold cmpN stLess
  rw [cmpBytes_eq, Lib.toList_data, Lib.toList_data]
  split
  · rename_i h; simp [h]
  · rename_i h
    split <;> simp [h]
theorem cmpN_zero (x y : State) : (cmpN x y = 0) ↔ x.Name.toList = y.Name.toList := by
  unfold cmpN
  rw [cmpBytes_eq, Lib.toList_data, Lib.toList_data]
  constructor
  · intro h
    split at h
    · omega
    · rename_i h1
      split at h
      · omega
      · rename_i h2
        exact bl_tot (by simpa using h1) (by simpa using h2)
  · intro h
    rw [h, bl_irr]; rfl
def placeS (xs : List State) (s : State) : Nat := if indexF (fun x => !stLess x s) xs = -1 then xs.length else (indexF (fun x => !stLess x s) xs).toNat
theorem place_at {xs : List State} {s : State} {k n : Nat} (hl : xs.length = n) (hk : k ≤ n) (h1 : ∀ j, j < k → stLess (nth xs j) s = true) (h2 : k < n → stLess (nth xs k) s = false) : placeS xs s = k := by
  unfold placeS
  by_cases h : k < n
  · rw [indexF_hit (k := k) (by omega) (by simp [h2 h]) (fun j hj => by simp [h1 j hj]), if_neg (by omega)]
    omega
  · have hkn : k = n := by omega
    rw [indexF_none (fun j hj => by simp [h1 j (by omega)]), if_pos rfl]
    omega
def sameN (x y : State) : Bool := x.Name.toList == y.Name.toList
def updS (xs : List State) (s : State) : List State := xs.take (placeS xs s) ++ [s] ++ xs.drop (if decide (placeS xs s < xs.length) && sameN (nth xs (placeS xs s)) s then placeS xs s + 1 else placeS xs s)
theorem upd_same {xs : List State} {s : State} {k n : Nat} (hl : xs.length = n) (hk : k < n) (h1 : ∀ j, j < k → stLess (nth xs j) s = true) (h2 : stLess (nth xs k) s = false) (h3 : sameN (nth xs k) s = true) : updS xs s = xs.take k ++ [s] ++ xs.drop (k + 1) := by
  have e := place_at hl (Nat.le_of_lt hk) h1 (fun _ => h2)
  unfold updS
  rw [e, if_pos (by simp [h3]; omega)]
theorem upd_new {xs : List State} {s : State} {k n : Nat} (hl : xs.length = n) (hk : k ≤ n) (h1 : ∀ j, j < k → stLess (nth xs j) s = true) (h2 : k < n → stLess (nth xs k) s = false) (h3 : k < n → sameN (nth xs k) s = false) : updS xs s = xs.take k ++ [s] ++ xs.drop k := by
  have e := place_at hl hk h1 h2
  unfold updS
  rw [e, if_neg]
  intro h
  simp only [Bool.and_eq_true, decide_eq_true_eq] at h
  rw [h3 (by omega)] at h
  exact absurd h.2 Bool.false_ne_true
theorem upd_len (xs : List State) (s : State) : (updS xs s).length ≤ xs.length + 1 := by
  unfold updS
  simp only [List.length_append, List.length_take, List.length_drop, List.length_cons, List.length_nil]
  split <;> omega
def knownL (l : List State) : List State := l.foldl updS []
theorem known_next {l : List State} {k : Nat} (hk : k < l.length) : knownL (l.take (k + 1)) = updS (knownL (l.take k)) (nth l k) := by
  unfold knownL
  rw [take_succ hk, List.foldl_append]; rfl
theorem known_len : ∀ (l : List State), (knownL l).length ≤ l.length := by
  have h : ∀ (l acc : List State), (l.foldl updS acc).length ≤ acc.length + l.length := by
    intro l
    induction l with
    | nil => intro acc; simp
    | cons a l ih => intro acc; have h1 := ih (updS acc a); have h2 := upd_len acc a; simp only [List.foldl_cons, List.length_cons]; omega
  intro l
  have := h l []
  simpa [knownL] using this
/-- what stands is in order -/
def SrtS (xs : List State) : Prop := xs.Pairwise (fun a b => stLess a b = true)
theorem srt_at {xs : List State} (h : SrtS xs) {i j : Nat} (hij : i < j) (hj : j < xs.length) : stLess (nth xs i) (nth xs j) = true := by
  have h1 := List.pairwise_iff_getElem.1 h i j (by omega) hj hij
  rwa [← nth_get (List.getElem?_eq_getElem (by omega : i < xs.length)), ← nth_get (List.getElem?_eq_getElem hj)] at h1
theorem srt_mono {xs : List State} (h : SrtS xs) (t : State) {n : Nat} (hl : xs.length = n) : ∀ a b, a ≤ b → b < n → cmpN (nth xs b) t < 0 → cmpN (nth xs a) t < 0 := by
  intro a b hab hb hc
  by_cases e : a = b
  · rw [e]; exact hc
  · rw [cmpN_lt] at hc ⊢
    exact bl_tr (srt_at h (by omega) (by omega)) hc
theorem upd_srt {xs : List State} {s : State} (h : SrtS xs) : SrtS (updS xs s) := by
  obtain ⟨k, hk⟩ : ∃ k, placeS xs s = k := ⟨_, rfl⟩
  have hkl : k ≤ xs.length := by
    have := indexF_range (fun x => !stLess x s) xs
    rw [← hk]; unfold placeS; split <;> omega
  have h1 : ∀ x ∈ xs.take k, stLess x s = true := by
    intro x hx
    obtain ⟨j, hj, e⟩ := List.getElem_of_mem hx
    rw [List.length_take] at hj
    rw [List.getElem_take] at e
    have en : nth xs j = x := by rw [← e]; exact nth_get (List.getElem?_eq_getElem (by omega))
    rw [← en]
    unfold placeS at hk
    by_cases hi : indexF (fun x => !stLess x s) xs = -1
    · have := indexF_all hi j (by omega); simpa using this
    · rw [if_neg hi] at hk
      have hr := indexF_range (fun x => !stLess x s) xs
      have := indexF_before (k := k) (p := fun x => !stLess x s) (xs := xs) (by omega) j (by omega)
      simpa using this
  have h2 : ∀ x ∈ xs.drop (if decide (k < xs.length) && sameN (nth xs k) s then k + 1 else k), stLess s x = true := by
    intro x hx
    by_cases hlt : k < xs.length
    · have h3 : stLess (nth xs k) s = false := by
        unfold placeS at hk
        by_cases hi : indexF (fun x => !stLess x s) xs = -1
        · rw [if_pos hi] at hk; omega
        · rw [if_neg hi] at hk
          have hr := indexF_range (fun x => !stLess x s) xs
          have := (indexF_at (k := k) (p := fun x => !stLess x s) (xs := xs) (by omega)).2
          simpa using this
      obtain ⟨j, hj, e⟩ := List.getElem_of_mem hx
      rw [List.length_drop] at hj
      rw [List.getElem_drop] at e
      cases hs : sameN (nth xs k) s with
      | true =>
        have hc : (decide (k < xs.length) && sameN (nth xs k) s) = true := by simp [hs, hlt]
        simp only [hc, if_true] at hj e
        have en : nth xs (k + 1 + j) = x := by rw [← e]; exact nth_get (List.getElem?_eq_getElem (by omega))
        have h4 := srt_at h (i := k) (j := k + 1 + j) (by omega) (by omega)
        rw [en] at h4
        unfold stLess at h4 ⊢
        unfold sameN at hs
        rw [← eq_of_beq hs]; exact h4
      | false =>
        have hc : ¬ (decide (k < xs.length) && sameN (nth xs k) s) = true := by simp [hs]
        simp only [if_neg hc] at hj e
        have en : nth xs (k + j) = x := by rw [← e]; exact nth_get (List.getElem?_eq_getElem (by omega))
        have h5 : stLess s (nth xs k) = true := by
          cases h6 : stLess s (nth xs k) with
          | true => rfl
          | false =>
            have h7 : (nth xs k).Name.toList = s.Name.toList := bl_tot h3 h6
            unfold sameN at hs
            rw [h7] at hs
            simp at hs
        by_cases hj0 : j = 0
        · subst hj0
          rw [← en]; exact h5
        · have h4 := srt_at h (i := k) (j := k + j) (by omega) (by omega)
          rw [en] at h4
          exact bl_tr h5 h4
    · have h8 : xs.drop (if decide (k < xs.length) && sameN (nth xs k) s then k + 1 else k) = [] := List.drop_of_length_le (by split <;> omega)
      rw [h8] at hx
      cases hx
  unfold updS SrtS
  rw [hk, List.append_assoc, List.pairwise_append]
  refine ⟨h.sublist (List.take_sublist _ _), ?_, ?_⟩
  · rw [List.singleton_append, List.pairwise_cons]
    exact ⟨h2, h.sublist (List.drop_sublist _ _)⟩
  · intro a ha b hb
    rw [List.singleton_append, List.mem_cons] at hb
    rcases hb with rfl | hb
    · exact h1 a ha
    · exact bl_tr (h1 a ha) (h2 b hb)
theorem known_srt (l : List State) : SrtS (knownL l) := by
  have h : ∀ (l acc : List State), SrtS acc → SrtS (l.foldl updS acc) := by
    intro l
    induction l with
    | nil => intro acc h; exact h
    | cons a l ih => intro acc h; exact ih _ (upd_srt h)
  exact h l [] List.Pairwise.nil

end Go.Proofs.YtenlbeghjabpkaaGreatDoor
