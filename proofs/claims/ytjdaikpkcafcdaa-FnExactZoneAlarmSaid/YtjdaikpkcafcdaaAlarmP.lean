/-
  Zone alarms, in plain lists: the first live signal of a zone that is by hand or confirmed, with and without the other zones' signals. No conditions; no program in sight.
-/
import Derived.Test.YtjdaikpkcafcdaaLive
import Derived.Test.YtjdaikpkcafcdaaSigT
namespace Go.Proofs.Ytjdaikpkcafcdaa
open Go.RowKit
def zofB (l : List Det) (zone : Int) (s : Sig) : Bool := (nth l (indexF (numIs s.n) l).toNat).Zone == zone
def handB (l : List Det) (s : Sig) : Bool := (nth l (indexF (numIs s.n) l).toNat).Kind == 2
def nearB (within : Int) (s t : Sig) : Bool := (t.n != s.n) && decide (s.s - t.s ≤ within)
def confB (l : List Det) (zone within : Int) (s t : Sig) : Bool := (t.n != s.n) && zofB l zone t && decide (s.s - t.s ≤ within)
/-- all live signals looked at, the other zones' passed over -/
def goS (l : List Det) (zone within : Int) : List Sig → List Sig → Int
  | _, [] => -1
  | acc, s :: r => if zofB l zone s && (handB l s || acc.any (confB l zone within s)) then s.s else goS l zone within (acc ++ [s]) r
/-- the zone's own signals alone -/
def goI (l : List Det) (within : Int) : List Sig → List Sig → Int
  | _, [] => -1
  | acc, s :: r => if handB l s || acc.any (nearB within s) then s.s else goI l within (acc ++ [s]) r
theorem any_filter_conf (l : List Det) (zone within : Int) (s : Sig) (acc : List Sig) : (acc.filter (zofB l zone)).any (nearB within s) = acc.any (confB l zone within s) := by
  induction acc with
  | nil => rfl
  | cons t acc ih =>
    rw [List.filter_cons]
    cases h : zofB l zone t
    · simp [ih, confB, h]
    · simp only [if_true, List.any_cons, ih]; simp [confB, nearB, h]
theorem go_eq (l : List Det) (zone within : Int) : ∀ (r acc : List Sig), goS l zone within acc r = goI l within (acc.filter (zofB l zone)) (r.filter (zofB l zone))
  | [], _ => rfl
  | s :: r, acc => by
    have ih := go_eq l zone within r (acc ++ [s])
    rw [goS, List.filter_cons]
    rw [List.filter_append] at ih
    cases h : zofB l zone s
    · simp only [Bool.false_and, Bool.false_eq_true, if_false]
      rw [ih]; simp [h]
    · simp only [Bool.true_and, if_true]
      rw [goI, any_filter_conf, ih]; simp [h]
theorem goS_end (l : List Det) (zone within : Int) (acc : List Sig) : goS l zone within acc [] = -1 := rfl
theorem goI_end (l : List Det) (within : Int) (acc : List Sig) : goI l within acc [] = -1 := rfl
theorem goS_other {l : List Det} {zone within : Int} {xs : List Sig} {k : Nat} (hk : k < xs.length) (h : zofB l zone (nth xs k) = false) : goS l zone within (xs.take k) (xs.drop k) = goS l zone within (xs.take (k + 1)) (xs.drop (k + 1)) := by
  conv => lhs; rw [drop_nth hk, goS]
  rw [h, take_succ hk]; simp
theorem goS_hit {l : List Det} {zone within : Int} {xs : List Sig} {k : Nat} (hk : k < xs.length) (h : zofB l zone (nth xs k) = true) (h' : handB l (nth xs k) = true ∨ (xs.take k).any (confB l zone within (nth xs k)) = true) : goS l zone within (xs.take k) (xs.drop k) = (nth xs k).s := by
  rw [drop_nth hk, goS, if_pos]; rw [h]; rcases h' with h' | h' <;> rw [h'] <;> simp
theorem goS_miss {l : List Det} {zone within : Int} {xs : List Sig} {k : Nat} (hk : k < xs.length) (h1 : handB l (nth xs k) = false) (h2 : (xs.take k).any (confB l zone within (nth xs k)) = false) : goS l zone within (xs.take k) (xs.drop k) = goS l zone within (xs.take (k + 1)) (xs.drop (k + 1)) := by
  conv => lhs; rw [drop_nth hk, goS]
  rw [h1, h2, take_succ hk]; simp
theorem goI_hit {l : List Det} {within : Int} {xs : List Sig} {k : Nat} (hk : k < xs.length) (h' : handB l (nth xs k) = true ∨ (xs.take k).any (nearB within (nth xs k)) = true) : goI l within (xs.take k) (xs.drop k) = (nth xs k).s := by
  rw [drop_nth hk, goI, if_pos]; rcases h' with h' | h' <;> rw [h'] <;> simp
theorem goI_miss {l : List Det} {within : Int} {xs : List Sig} {k : Nat} (hk : k < xs.length) (h1 : handB l (nth xs k) = false) (h2 : (xs.take k).any (nearB within (nth xs k)) = false) : goI l within (xs.take k) (xs.drop k) = goI l within (xs.take (k + 1)) (xs.drop (k + 1)) := by
  conv => lhs; rw [drop_nth hk, goI]
  rw [h1, h2, take_succ hk]; simp
theorem any_yes {p : Sig → Bool} {xs : List Sig} {j k : Nat} (hj : j < k) (hk : k ≤ xs.length) (h : p (nth xs j) = true) : (xs.take k).any p = true := by
  rw [List.any_eq_true]
  exact ⟨nth xs j, List.mem_take_iff_getElem.2 ⟨j, by omega, (nth_get (List.getElem?_eq_getElem (by omega))).symm⟩, h⟩
theorem any_no {p : Sig → Bool} {xs : List Sig} {k : Nat} (hk : k ≤ xs.length) (h : ∀ j, j < k → p (nth xs j) = false) : (xs.take k).any p = false := by
  rw [List.any_eq_false]
  intro x hx
  obtain ⟨j, hj, rfl⟩ := List.mem_take_iff_getElem.1 hx
  have := h j (by omega)
  rw [nth_get (List.getElem?_eq_getElem (by omega : j < xs.length))] at this
  simp [this]
/-- what holds of every live signal -/
def SigOk (l : List Det) (s : Sig) : Prop := 0 ≤ s.s ∧ s.s ≤ 86399 ∧ ∃ i : Nat, indexF (numIs s.n) l = i
theorem sigs_in {ss : List Sig} (h : sigsB ss = true) {s : Sig} (hs : s ∈ ss) : 0 ≤ s.s ∧ s.s ≤ 86399 := by
  obtain ⟨k, hk, rfl⟩ := List.getElem_of_mem hs
  have h1 := sigsB_at h hk
  rw [← nth_get (List.getElem?_eq_getElem hk)]
  simp only [okSig, Bool.and_eq_true] at h1
  exact inB_iff.1 h1.1.1
theorem live_ok {l : List Det} {ss : List Sig} (h : sigsB ss = true) {s : Sig} (hs : s ∈ liveL l ss) : SigOk l s := by
  obtain ⟨h1, h2⟩ := List.mem_filter.1 hs
  obtain ⟨h3, h4⟩ := sigs_in h h1
  refine ⟨h3, h4, (indexF (numIs s.n) l).toNat, ?_⟩
  unfold liveP at h2
  simp only [Bool.and_eq_true, decide_eq_true_eq] at h2
  omega
/-- the second of a zone's alarm, or -1 -/
def alarmS (l : List Det) (ss : List Sig) (zone within : Int) : Int := goS l zone within [] (liveL l ss)
theorem goS_range (l : List Det) (zone within : Int) : ∀ (r acc : List Sig), (∀ s, s ∈ r → 0 ≤ s.s ∧ s.s ≤ 86399) → goS l zone within acc r = -1 ∨ (0 ≤ goS l zone within acc r ∧ goS l zone within acc r ≤ 86399)
  | [], _, _ => .inl rfl
  | s :: r, acc, h => by
    rw [goS]; split
    · exact .inr (h s (List.mem_cons_self))
    · exact goS_range l zone within r _ (fun t ht => h t (List.mem_cons_of_mem _ ht))
theorem alarmS_range {l : List Det} {ss : List Sig} (zone within : Int) (h : sigsB ss = true) : alarmS l ss zone within = -1 ∨ (0 ≤ alarmS l ss zone within ∧ alarmS l ss zone within ≤ 86399) :=
  goS_range l zone within _ _ (fun s hs => by have := live_ok (l := l) h hs; exact ⟨this.1, this.2.1⟩)
theorem zofB_at {l : List Det} {zone : Int} {s : Sig} {i : Nat} (h : indexF (numIs s.n) l = i) : zofB l zone s = ((nth l i).Zone == zone) := by unfold zofB; rw [h]; rfl
theorem handB_at {l : List Det} {s : Sig} {i : Nat} (h : indexF (numIs s.n) l = i) : handB l s = ((nth l i).Kind == 2) := by unfold handB; rw [h]; rfl
end Go.Proofs.Ytjdaikpkcafcdaa
