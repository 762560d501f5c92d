/-
  Several texts in one. No conditions.
-/
import Derived.Test.YtpdblmcflniomaaGreatDoorIv6
import Derived.Test.YtpdblmcflniomaaGreatDoorIv7
import Derived.Test.YtpdblmcflniomaaGreatDoorIv19
import Derived.Test.YtpdblmcflniomaaGreatDoorIv17
import Derived.Test.YtpdblmcflniomaaGreatDoorLays
import Derived.Test.YtpdblmcflniomaaGreatDoorIv22
import Derived.Test.YtpdblmcflniomaaGreatDoorIv20
import Derived.Shelf.Sort.Plain
import Derived.Shelf.Slices.In.SortNone
import Derived.Sort.OwnSorted
import Derived.Sort.Walk0
namespace Go.Proofs.YtpdblmcflniomaaGreatDoor
open Go.RowKit

theorem implIsIncident_any (number node : Int) (closed : Bool) (xs : List ByteArray) (A : Option Addr) (n c : Nat) (w : World) (hn : (n : Int) ≤ 9223372036854775807) (hs : Sl w A n xs) (hv : ∀ x, x ∈ xs → x.size ≤ maxLen) :
    Calls Tryz.prog 32 #[.agg #[.int .i64 number, .int .i64 node, .bool closed, .slice A n c]] w fun e w' => e = .returned (.bool (incB number node closed xs)) ∧ Below w.heap.size w w' := by
  have HV := Lib.hid hv
  clear hv
  go_enter Tryz.func32, Tryz.ntmps32
  have hk0 := bl_refl w
  go_wp2_with fail
  refine (isIncident_any number node closed xs _ _ _ _ hn (hs.below (bl_trans hk0 (by repeat' (first | exact bl_refl _ | refine bl_alloc ?_ _ | refine bl_drew ?_ | refine bl_drewN ?_ _ | refine bl_set ?_ ?_ _ | (simp; done) | (simp; omega))))) HV.out).mono ?_
  rintro e V1 ⟨rfl, hb1⟩
  have hB1 := bl_trans (a := w) (by repeat' (first | exact bl_refl _ | refine bl_alloc ?_ _ | refine bl_drew ?_ | refine bl_drewN ?_ _ | refine bl_set ?_ ?_ _ | (simp; done) | (simp; omega))) hb1
  have hk1 := bl_trans hk0 hB1
  have z1 := Lib.hid hB1.size
  go_wp2
  go_ret
  exact ⟨rfl, hk1⟩

end Go.Proofs.YtpdblmcflniomaaGreatDoor

namespace Go.Proofs.YtpdblmcflniomaaGreatDoor
open Go.RowKit

theorem sm_nil : SmI [] := fun x hx => by cases hx
theorem sm_incs {xs : List Incident} (h : incsB xs = true) : xs.length ≤ 8 ∧ SmI xs := incs_small h
theorem cm_any {xs C : List Incident} {number : Int} {s : ByteArray} {ok : Bool} (h : cmF xs number s = (C, ok)) : C.length ≤ 8 ∧ SmI C := by
  cases ok with
  | true => exact sm_incs (commit_law h).2.2.2.1
  | false =>
    unfold cmF at h
    split at h
    · cases h
    · injection h with h1 _; subst h1; exact ⟨by simp, sm_nil⟩
theorem jo_any {xs C : List Incident} {number other : Int} {ok : Bool} (h : joF xs number other = (C, ok)) : C.length ≤ 8 ∧ SmI C := by
  cases ok with
  | true => exact sm_incs (join_law h).2.2.2.1
  | false =>
    unfold joF at h
    split at h
    · cases h
    · injection h with h1 _; subst h1; exact ⟨by simp, sm_nil⟩
theorem tr_any {xs C : List Incident} {number : Int} {s : ByteArray} {ok : Bool} (h : trF xs s number = (C, ok)) : C.length ≤ 8 ∧ SmI C := by
  cases ok with
  | true =>
    obtain ⟨frm, h1, h2, _⟩ := transfer_law h
    refine sm_incs ?_
    cases hi : incsB C with
    | true => rfl
    | false => rw [ctF_no (by rw [hi]; simp)] at h2; cases h2
  | false =>
    unfold trF at h
    split at h
    · cases h
    · injection h with h1 _; subst h1; exact ⟨by simp, sm_nil⟩
theorem rl_any {xs C : List Incident} {number : Int} {s : ByteArray} {ok : Bool} (h : rlF xs number s = (C, ok)) : C.length ≤ 8 ∧ SmI C := by
  unfold rlF at h
  split at h
  · rename_i hc
    injection h with h1 _
    subst h1
    simp only [Bool.and_eq_true, decide_eq_true_eq] at hc
    obtain ⟨⟨⟨h1, h2⟩, h3⟩, h4⟩ := hc
    obtain ⟨h5, h6⟩ := incs_small h1
    refine ⟨by rw [List.length_set]; exact h5, fun x hx => ?_⟩
    rcases List.mem_or_eq_of_mem_set hx with hx | rfl
    · exact h6 x hx
    · obtain ⟨k, hk⟩ := Int.eq_ofNat_of_zero_le h3
      have hkl := (open_at hk).1
      have h7 := h6 _ (nth_mem hkl)
      have e : (openI xs number).toNat = k := by rw [hk]; rfl
      rw [e]
      exact ⟨Nat.le_trans (List.length_filter_le _ _) h7.1, fun y hy => h7.2 y (dropS_mem.1 hy).1⟩
  · injection h with h1 _; subst h1; exact ⟨by simp, sm_nil⟩
theorem any_yesI {L : List Int} {v : Int} (h : v ∈ L) : L.any (fun x => x == v) = true := List.any_eq_true.2 ⟨v, h, by simp⟩
theorem any_noI {L : List Int} {v : Int} (h : v ∉ L) : L.any (fun x => x == v) = false := by
  cases e : L.any (fun x => x == v) with
  | false => rfl
  | true => obtain ⟨x, h1, h2⟩ := List.any_eq_true.1 e; exact absurd (by have := eq_of_beq h2; subst this; exact h1) h
end Go.Proofs.YtpdblmcflniomaaGreatDoor

namespace Go.Proofs.YtpdblmcflniomaaGreatDoor
open Go.RowKit

def bl (s : ByteArray) : List UInt8 := s.data.toList
def sortL (l : List ByteArray) : List ByteArray := ((l.map bl).mergeSort fun x y => decide (x ≤ y)).map fun x => ⟨x.toArray⟩
theorem sortL_len (l : List ByteArray) : (sortL l).length = l.length := by simp [sortL]
theorem enc_bl (s : ByteArray) : encStr (bl s) = .string s := rfl
theorem bl_mk (x : List UInt8) : bl ⟨x.toArray⟩ = x := by simp [bl]
theorem cells_str (l : List ByteArray) : cellsOf l = l.map (fun s => Value.string s) := by
  induction l with
  | nil => rfl
  | cons a l ih =>
    have h : cellsOf (a :: l) = Flat.enc a ++ cellsOf l := rfl
    rw [h, ih]; rfl
theorem sortS_any (l : List ByteArray) (A : Option Addr) (n c base : Nat) (w : World) (hn : n ≤ 1048576) (ho : Own w base 9 (.slice A n c) l) :
    Calls Tryz.prog 54 #[.slice A n c] w fun e w' => e = .returned (.tuple #[]) ∧ Own w' base 9 (.slice A n c) (sortL l) ∧ w.grownBy w' (Value.ownBlock (.slice A n c)) := by
  have hl := ho.sl.1
  rcases ho.2 with ⟨hv, h0⟩ | ⟨g, cap, cur, hv, hbg, hg, hnc, hcm, hcs, htk⟩
  · injection hv with e1 e2 e3
    subst e1 e3
    have e0 : n = 0 := by omega
    subst e0
    have hl0 : l = [] := List.length_eq_zero_iff.1 hl
    subst hl0
    refine (Any.slices_Sort_string_none Tryz.laysSortS none 0 w).mono fun e w' ⟨he, hw⟩ => ⟨he, ?_, by subst hw; exact gb_refl _ _⟩
    have e0 : sortL [] = [] := by simp [sortL]
    subst hw
    rw [e0]; exact Own.nil _ _ _
  · injection hv with e1 e2 e3
    subst e1 e3
    have hsz : Flat.sz ByteArray = 1 := rfl
    have hml : (l.map bl).length = l.length := by simp
    have htk2 : cur.toList.take (l.map bl).length = (l.map bl).map encStr := by
      rw [hml]
      rw [hsz, Nat.mul_one, cells_str] at htk
      rw [htk, List.map_map]
      rfl
    have hH := Go.holds_of_block hg htk2
    have h := Any.slices_Sort_string Tryz.laysSortS g 0 c (l.map bl) w hH (Array.getElem?_eq_some_iff.1 hg).1 (by rw [hml, hl]; omega)
    rw [hml, hl] at h
    refine h.mono fun e w' ⟨he, k, os, hw⟩ => ⟨he, ?_, ?_⟩
    · have h2 := Go.ownsRow_sorted (w := w) (base := base) (g := g) (cap := c) (n := k) (e := 9) (os := os) (cur := cur) (ss := l.map bl) (ts := (l.map bl).mergeSort fun x y => decide (x ≤ y)) (by simp) hbg hg (by rw [hml]; exact hnc) hcm (by rw [hcs, hsz])
      rw [← hw, hml, hl] at h2
      unfold Own
      rw [sortL_len, hl, cells_str, hsz]
      have h3 : (sortL l).map (fun s => Value.string s) = ((l.map bl).mergeSort fun x y => decide (x ≤ y)).map encStr := by unfold sortL; rw [List.map_map]; rfl
      rw [h3]
      exact h2
    · rw [hw]; exact Go.grownBy_sorted _
/-- lists in strict order with the same members are the same -/
theorem strict_ext {R : ByteArray → ByteArray → Prop} (hir : ∀ x, ¬ R x x) (htr : ∀ x y z, R x y → R y z → R x z) : ∀ (a b : List ByteArray), a.Pairwise R → b.Pairwise R → (∀ t, t ∈ a ↔ t ∈ b) → a = b
  | [], [], _, _, _ => rfl
  | [], y :: b, _, _, h => absurd ((h y).2 List.mem_cons_self) (by simp)
  | x :: a, [], _, _, h => absurd ((h x).1 List.mem_cons_self) (by simp)
  | x :: a, y :: b, ha, hb, h => by
    obtain ⟨ha1, ha2⟩ := List.pairwise_cons.1 ha
    obtain ⟨hb1, hb2⟩ := List.pairwise_cons.1 hb
    have hxy : x = y := by
      rcases List.mem_cons.1 ((h x).1 List.mem_cons_self) with e | e
      · exact e
      · rcases List.mem_cons.1 ((h y).2 List.mem_cons_self) with e' | e'
        · exact e'.symm
        · exact absurd (htr _ _ _ (ha1 y e') (hb1 x e)) (hir x)
    subst hxy
    congr 1
    refine strict_ext hir htr a b ha2 hb2 (fun t => ⟨fun ht => ?_, fun ht => ?_⟩)
    · rcases List.mem_cons.1 ((h t).1 (List.mem_cons_of_mem _ ht)) with e | e
      · subst e; exact absurd (ha1 t ht) (hir t)
      · exact e
    · rcases List.mem_cons.1 ((h t).2 (List.mem_cons_of_mem _ ht)) with e | e
      · subst e; exact absurd (hb1 t ht) (hir t)
      · exact e
theorem bl_toList (s : ByteArray) : s.toList = bl s := Lib.toList_data s
theorem sortL_mem {l : List ByteArray} {t : ByteArray} : t ∈ sortL l ↔ t ∈ l := by
  unfold sortL
  rw [List.mem_map]
  constructor
  · rintro ⟨x, hx, rfl⟩
    rw [List.mem_mergeSort, List.mem_map] at hx
    obtain ⟨s, hs, rfl⟩ := hx
    exact hs
  · intro h
    exact ⟨bl t, by rw [List.mem_mergeSort, List.mem_map]; exact ⟨t, h, rfl⟩, rfl⟩
theorem sortL_strict {l : List ByteArray} (hn : l.Nodup) : (sortL l).Pairwise (fun a b => Op.bytesLess a.toList b.toList = true) := by
  have h1 : ((l.map bl).mergeSort fun x y => decide (x ≤ y)).Pairwise (fun x y => x ≤ y) := by
    have h := List.pairwise_mergeSort (le := fun x y : List UInt8 => decide (x ≤ y)) (fun a b c hab hbc => by simp only [decide_eq_true_eq] at *; exact List.le_trans hab hbc) (fun a b => by simp only [Bool.or_eq_true, decide_eq_true_eq]; exact List.le_total a b) (l.map bl)
    exact h.imp (fun h => by simpa using h)
  have h2 : ((l.map bl).mergeSort fun x y => decide (x ≤ y)).Nodup := by
    refine (List.mergeSort_perm _ _).nodup_iff.2 ?_
    exact List.pairwise_map.2 (hn.imp (fun {a b} hab e => hab (by have h : bl a = bl b := e
                                                                  cases a; cases b; simp [bl] at h; simp [h])))
  unfold sortL
  rw [List.pairwise_map]
  refine (h1.and h2).imp (fun {x y} ⟨hle, hne⟩ => ?_)
  show Op.bytesLess (⟨x.toArray⟩ : ByteArray).toList (⟨y.toArray⟩ : ByteArray).toList = true
  rw [bl_toList, bl_toList, bl_mk, bl_mk]
  cases hc : Op.bytesLess x y with
  | true => rfl
  | false =>
    have h2 : Op.bytesLess y x = false := by
      rw [Go.Proofs.bytesLess_eq, decide_eq_false_iff_not]
      exact List.not_lt.2 hle
    exact absurd (bl_tot hc h2) hne
theorem sortL_adL {l : List ByteArray} (hn : l.Nodup) : sortL l = adL [] l := by
  obtain ⟨h1, _, h3⟩ := adL_props l [] rfl hn (fun s _ => by simp)
  refine strict_ext (R := fun a b => Op.bytesLess a.toList b.toList = true) (fun x h => by rw [bl_irr] at h; cases h) (fun x y z => bl_tr) _ _ (sortL_strict hn) (sort_pw.1 h1) (fun t => ?_)
  rw [sortL_mem, h3]
  simp

end Go.Proofs.YtpdblmcflniomaaGreatDoor
