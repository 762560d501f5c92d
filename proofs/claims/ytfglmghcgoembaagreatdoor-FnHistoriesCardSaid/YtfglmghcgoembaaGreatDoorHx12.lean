/-
  Several texts in one. No conditions.
-/
import Derived.Test.YtfglmghcgoembaaGreatDoorHx11
import Derived.Test.YtfglmghcgoembaaGreatDoorHx9
import Derived.Test.YtfglmghcgoembaaGreatDoorHx3
import Derived.Test.YtfglmghcgoembaaGreatDoorMem7
namespace Go.Proofs.YtfglmghcgoembaaGreatDoor
open Go.RowKit

/-- one more entry, if the whole is a log -/
def apX (l : List Entry) (r m : Int) (s : ByteArray) : List Entry := l ++ [⟨r, (l.length : Int) + 1, m, s⟩]
def apF (l : List Entry) (r m : Int) (s : ByteArray) : List Entry × Bool := if lgB (apX l r m s) then (apX l r m s, true) else ([], false)
theorem apF_yes {l : List Entry} {r m : Int} {s : ByteArray} (h : lgB (apX l r m s) = true) : apF l r m s = (apX l r m s, true) := by unfold apF; rw [if_pos h]
theorem apF_no {l : List Entry} {r m : Int} {s : ByteArray} (h : lgB (apX l r m s) = false) : apF l r m s = ([], false) := by unfold apF; rw [if_neg (by rw [h]; simp)]
set_option maxRecDepth 100000 in
set_option maxHeartbeats 4000000 in
theorem lgAppend_any (l : List Entry) (r m : Int) (s : ByteArray) (A : Option Addr) (n c : Nat) (w : World) (hn : n ≤ 100000) (hs : Sl w A n l) (hv : ∀ x, x ∈ l → x.Text.size ≤ maxLen) (hz : s.size ≤ maxLen) :
    Calls Tryz.prog 49 #[.slice A n c, .int .i64 r, .int .i64 m, .string s] w (RetOwn2 w 40 (apF l r m s)) := by
  have HL := Lib.hid hs.1
  have hw : IntKind.i64.wrap ((n : Int) + 1) = (n : Int) + 1 := IntWalk.i64_in _ (by omega)
  have hvx : ∀ x, x ∈ l ++ [(⟨r, (n : Int) + 1, m, s⟩ : Entry)] → x.Text.size ≤ maxLen := fun x hx => by rcases List.mem_append.1 hx with h | h; exact hv x h; rw [List.mem_singleton.1 h]; exact hz
  have HX : Hid (apX l r m s = l ++ [(⟨r, (n : Int) + 1, m, s⟩ : Entry)]) := by rw [Hid]; unfold apX; rw [HL.out]
  obtain ⟨X, hX⟩ : ∃ X, l ++ [(⟨r, (n : Int) + 1, m, s⟩ : Entry)] = X := ⟨_, rfl⟩
  rw [hX] at hvx HX
  have HV := Lib.hid hvx
  clear hv hvx hz
  obtain ⟨v, ev⟩ : ∃ v, lgB X = v := ⟨_, rfl⟩
  have kg := Lib.hid (show ∀ (W : World) (A1 : Option Addr) (c1 : Nat), Sl W A1 (n + 1) X → Calls Tryz.prog 52 #[.slice A1 (n + 1) c1] W fun e w' => e = .returned (.bool v) ∧ Below W.heap.size W w' from fun W A1 c1 h1 => by have h := lgGood_any X A1 (n + 1) c1 W (by omega) h1 HV.out; rw [ev] at h; exact h)
  have EV := Lib.hid ev
  clear ev
  have HXe := Lib.hid hX
  clear hX
  go_enter Tryz.func49, Tryz.ntmps49
  go_wp2_with (first | (at_builtin; refine wpList_appN (w0 := w) rfl (.tmp 11) (.tmp 12) _ _ rfl el_ent (xs := ([] : List Entry)) (ys := l) rfl (Own.built w _ (Nat.le_refl _)) (bl_alloc (bl_refl _) _) rfl (hs.below (bl_alloc (bl_refl _) _)) (by omega) ?_; intro A1 e1 V1 ho1 hb1 hg1; have ho1 : Own V1 w.heap.size 40 (.slice A1 n e1) l := (by simpa using ho1); clear hg1) | (at_builtin; refine wpList_app1g rfl (.tmp 13) (.tmp 21) _ _ rfl el_ent (⟨r, (n : Int) + 1, m, s⟩ : Entry) rfl ho1 hb1 rfl (by simp) (by omega) ?_; intro A2 e2 V2 ho2 hb2 hg2; clear hg2))
  rw [HXe.out] at ho2
  refine (kg.out _ _ _ ho2.sl).mono ?_
  rintro e V3 ⟨rfl, hb3⟩
  have ho3 := ho2.below hb3
  have hb4 := bl_trans hb2 hb3
  cases v
  · go_wp2
    go_ret2
    exact retOwn2_mk (apF_no (by rw [HX.out]; exact EV.out)) (Own.nil _ _ _) hb4
  · go_wp2
    go_ret2
    exact retOwn2_mk ((apF_yes (by rw [HX.out]; exact EV.out)).trans (by rw [HX.out])) ho3 hb4
end Go.Proofs.YtfglmghcgoembaaGreatDoor

namespace Go.Proofs.YtfglmghcgoembaaGreatDoor
open Go.RowKit

section
variable {α : Type} [Flat α]
/-- a slice that reads as a list, in a block from base on -/
def SlB (w : World) (base : Nat) (A : Option Addr) (n : Nat) (xs : List α) : Prop := Sl w A n xs ∧ ∀ p, A = some p → base ≤ p.block
theorem SlB.sl {w : World} {base : Nat} {A : Option Addr} {n : Nat} {xs : List α} (h : SlB w base A n xs) : Sl w A n xs := h.1
theorem SlB.only {w w' : World} {base : Nat} {A : Option Addr} {n : Nat} {xs : List α} {F : List Nat} (h : SlB w base A n xs) (hf : OnlyF F w w') (hF : ∀ k, k ∈ F → k < base) : SlB w' base A n xs :=
  ⟨⟨h.1.1, fun k x hx => by
    obtain ⟨b, o, cs, hA, hr, hc⟩ := h.1.2 k x hx
    refine ⟨b, o, cs, hA, hr, fun j v hv => hf.keeps (hc j v hv) (fun hm => ?_)⟩
    have h1 := hF b hm
    have h2 := h.2 _ hA
    exact absurd h2 (Nat.not_le.2 h1)⟩, h.2⟩
theorem SlB.only1 {w w' : World} {base g : Nat} {A : Option Addr} {n : Nat} {xs : List α} (h : SlB w base A n xs) (hf : OnlyF [g] w w') (hg : g < base) : SlB w' base A n xs :=
  h.only hf (fun k hk => by rw [List.mem_singleton.1 hk]; exact hg)
theorem SlB.below {w w' : World} {base : Nat} {A : Option Addr} {n : Nat} {xs : List α} (h : SlB w base A n xs) (hb : Below w.heap.size w w') : SlB w' base A n xs := ⟨h.1.below hb, h.2⟩
theorem SlB.mono {w : World} {base b : Nat} {A : Option Addr} {n : Nat} {xs : List α} (h : SlB w base A n xs) (hb : b ≤ base) : SlB w b A n xs := ⟨h.1, fun p hp => Nat.le_trans hb (h.2 p hp)⟩
theorem SlB.take {w : World} {base : Nat} {A : Option Addr} {n i : Nat} {xs : List α} (h : SlB w base A n xs) (hi : i ≤ n) : SlB w base A i (xs.take i) := ⟨h.1.take hi, h.2⟩
theorem SlB.nil (w : World) (base : Nat) : SlB w base none 0 ([] : List α) := ⟨Sl.nil _ _, fun p hp => by cases hp⟩
theorem Own.slb {w : World} {base : Nat} {E : TypeId} {A : Option Addr} {n c : Nat} {xs : List α} (h : Own w base E (.slice A n c) xs) : SlB w base A n xs :=
  ⟨h.sl, fun p hp => by
    rcases h.2 with ⟨hv, _⟩ | ⟨g, cap, cur, hv, hbg, _⟩
    · injection hv with e1 _ _; rw [e1] at hp; cases hp
    · injection hv with e1 _ _; rw [e1] at hp; injection hp with hp; rw [← hp]; exact hbg⟩
/-- a beginning of a slice of the call's own is the call's own -/
theorem Own.takeN {w : World} {base : Nat} {E : TypeId} {A : Option Addr} {n c i : Nat} {xs : List α} (h : Own w base E (.slice A n c) xs) (hi : i ≤ n) : Own w base E (.slice A i c) (xs.take i) := by
  have hl := h.sl.1
  have hli : (xs.take i).length = i := by rw [List.length_take]; omega
  rcases h.2 with ⟨hv, h0⟩ | ⟨g, cap, cur, hv, hbg, hb, h1, h2, h3, h4⟩
  · injection hv with e1 e2 e3
    subst e1 e2 e3
    have e0 : i = 0 := by omega
    subst e0
    rw [List.take_zero]; exact Own.nil _ _ _
  · injection hv with e1 e2 e3
    subst e1 e3
    refine ⟨by rw [cellsOf_length], .inr ⟨g, c, cur, by rw [hli], hbg, hb, by rw [hli]; omega, h2, h3, ?_⟩⟩
    have e : xs = xs.take i ++ xs.drop i := (List.take_append_drop i xs).symm
    have hle : i * Flat.sz α ≤ xs.length * Flat.sz α := Nat.mul_le_mul_right _ (by omega)
    have h5 : (cur.toList.take (xs.length * Flat.sz α)).take (i * Flat.sz α) = cur.toList.take (i * Flat.sz α) := by rw [List.take_take, Nat.min_eq_left hle]
    rw [hli, ← h5, h4]
    conv => lhs; rw [e, cellsOf_append]
    rw [List.take_append_of_le_length (by rw [cellsOf_length, hli]; exact Nat.le_refl _), List.take_of_length_le (by rw [cellsOf_length, hli]; exact Nat.le_refl _)]
end
end Go.Proofs.YtfglmghcgoembaaGreatDoor
