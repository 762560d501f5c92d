/-
  Searches in lists of strings; a name put in at the end of a rising list. No conditions.
-/
import Derived.Test.YtgjnjfaohpmhkaaMem8
import Derived.Test.YtgjnjfaohpmhkaaStrs
import Derived.Test.YtgjnjfaohpmhkaaBytes
namespace Go.Proofs.Ytgjnjfaohpmhkaa
open Go.RowKit

def hasS (l : List ByteArray) (s : ByteArray) : Bool := l.any (fun p => p.toList == s.toList)
set_option maxHeartbeats 1000000 in
theorem indexS_any (L : List ByteArray) (v : ByteArray) (A : Option Addr) (n c : Nat) (w : World) (hn : (n : Int) ≤ 9223372036854775807) (hs : Sl w A n L) :
    Calls Try.prog 79 #[.slice A n c, .string v] w fun e w' => e = .returned (.int .i64 (indexF (fun p => p.toList == v.toList) L)) ∧ w' = w := by
  have HL := Lib.hid hs.1
  go_enter Try.func79, Try.ntmps79
  go_wp2
  go_loop [8] (fun i => ∃ k : Nat, k ≤ n ∧ i = .int .i64 k ∧ Hid (∀ j, j < k → ((nth L j).toList == v.toList) = false)) (fun i => n - (intOf i).toNat)
  case atStart => exact ⟨0, Nat.zero_le _, rfl, fun j hj => absurd hj (by omega)⟩
  case round =>
    obtain ⟨k, hk, rfl, hg⟩ := hrel
    by_cases hlt : k < n
    · obtain ⟨b, o, rfl, _, c0⟩ := hs.str hlt
      clear hs
      cases hp : (nth L k).toList == v.toList
      · have hp' := Lib.hid hp
        have hp2 : (v.toList == (nth L k).toList) = false := by rw [BEq.comm]; exact hp
        clear hp
        go_wp2
        go_round
        case rel => exact ⟨k + 1, by omega, by go_num, upto_succ hg hp'.out⟩
        case measure => simp [intOf]; omega
      · have hp' := Lib.hid hp
        have hp2 : (v.toList == (nth L k).toList) = true := by rw [BEq.comm]; exact hp
        clear hp
        go_wp2
        go_ret
        exact ⟨ret_i64 (indexF_hit (p := fun p : ByteArray => p.toList == v.toList) (by rw [HL.out]; exact hlt) hp'.out hg.out).symm, rfl⟩
    · obtain rfl : k = n := by omega
      go_wp2
      go_ret
      exact ⟨ret_i64 (indexF_none (p := fun p : ByteArray => p.toList == v.toList) (by rw [HL.out]; exact hg.out)).symm, rfl⟩
theorem containsS_any (L : List ByteArray) (v : ByteArray) (A : Option Addr) (n c : Nat) (w : World) (hn : (n : Int) ≤ 9223372036854775807) (hs : Sl w A n L) :
    Calls Try.prog 57 #[.slice A n c, .string v] w fun e w' => e = .returned (.bool (hasS L v)) ∧ w' = w := by
  unfold hasS
  rw [any_index]
  go_enter Try.func57, Try.ntmps57
  go_wp2_with fail
  refine (indexS_any L v _ _ _ _ hn hs).mono ?_
  rintro e w ⟨rfl, rfl⟩
  go_wp2
  go_ret
  exact ⟨rfl, rfl⟩
set_option maxHeartbeats 2000000 in
theorem rfPut_hit (l : List ByteArray) (s : ByteArray) (A : Option Addr) (n c q : Nat) (w : World) (hn : (n : Int) ≤ 9223372036854775807) (hs : Sl w A n l) (hq : q < n) (hlo : ∀ j, j < q → Op.bytesLess (nth l j).toList s.toList = true) (he : ((nth l q).toList == s.toList) = true) :
    Calls Try.prog 65 #[.slice A n c, .string s] w fun e w' => e = .returned (.slice A n c) ∧ w' = w := by
  have HLo := Lib.hid hlo
  clear hlo
  go_enter Try.func65, Try.ntmps65
  go_wp2
  go_loop [5] (fun i => ∃ k : Nat, k ≤ q ∧ i = .int .i64 k) (fun i => q - (intOf i).toNat)
  case atStart => exact ⟨0, Nat.zero_le _, rfl⟩
  case round =>
    obtain ⟨k, hk, rfl⟩ := hrel
    obtain ⟨b, o, rfl, _, c0⟩ := hs.str (by omega : k < n)
    clear hs
    by_cases hlt : k < q
    · have hl := HLo.out k hlt
      go_wp2
      go_round
      case rel => exact ⟨k + 1, by omega, by go_num⟩
      case measure => simp [intOf]; omega
    · obtain rfl : k = q := by omega
      have hl : Op.bytesLess (nth l k).toList s.toList = false := by rw [eq_of_beq he]; exact bl_irr _
      go_wp2
      go_ret
      exact ⟨rfl, rfl⟩
theorem sl_str {w : World} {b o : Nat} {s : ByteArray} (h : w.cell? ⟨b, o, none⟩ = some (.string s)) : Sl w (some ⟨b, o, none⟩) 1 [s] :=
  ⟨rfl, fun k x hx => by
    have hk : k = 0 := by have := (List.getElem?_eq_some_iff.1 hx).1; simpa using this
    subst hk
    have hx' : s = x := by simpa using hx
    subst hx'
    refine ⟨b, o, [.string s], rfl, rfl, fun j v hv => ?_⟩
    have hj : j = 0 := by have := (List.getElem?_eq_some_iff.1 hv).1; simpa using this
    subst hj
    have hv' : Value.string s = v := by simpa using hv
    subst hv'
    simpa using h⟩
theorem Sl.drop {α : Type} [Flat α] {w : World} {b o n i : Nat} {xs : List α} (h : Sl w (some ⟨b, o, none⟩) n xs) (_hi : i ≤ n) : Sl w (some ⟨b, o + i * Flat.sz α, none⟩) (n - i) (xs.drop i) :=
  ⟨by rw [List.length_drop, h.1], fun k x hx => by
    rw [List.getElem?_drop] at hx
    obtain ⟨b', o', cs, hA, hr, hc⟩ := h.2 (i + k) x hx
    injection hA with hA
    injection hA with h1 h2
    subst h1; subst h2
    refine ⟨b, _, cs, rfl, hr, fun j v hv => ?_⟩
    have := hc j v hv
    have e : o + (i + k) * Deep.sz α + j = o + i * Flat.sz α + k * Deep.sz α + j := by
      have : Deep.sz α = Flat.sz α := rfl
      rw [this, Nat.add_mul]; omega
    rwa [e] at this⟩
/-- As step_appN; all that has turned lies from the first world on. -/
theorem step_appB {α : Type} [Flat α] {P : Program} {ops : Array Oper} {o : Oper} {a : Act} {w : World} {K : Act → World → Prop} {Q : Exit → Act → World → Prop} {E : Prop} (hgd : o.guard = none) (s x : Operand) (t e : TypeId)
    (ho : o.op = .call { callee := .builtin .append, args := #[s, x], argTypes := #[t, t] }) (he : Elem P t e (Flat.sz α)) {w0 : World} {A B : Option Addr} {n c m d : Nat} {xs ys : List α} (hs : a.eval s = .slice A n c) (hx : a.eval x = .slice B m d)
    (hown : Own w w0.heap.size e (.slice A n c) xs) (hb : Below w0.heap.size w0 w) (hy : Sl w B m ys) (hlim : n + m ≤ 274877906944)
    (h : ∀ A' c' w', Own w' w0.heap.size e (.slice A' (n + m) c') (xs ++ ys) → Below w0.heap.size w0 w' → w.grownBy w' (Value.ownBlock (.slice A n c)) → K (a.put o.dst (.slice A' (n + m) c')) w') :
    if Region.wanted o (yielded ops a.tmps) = true then Oper.wp P o a w K Q else E :=
  step_appN hgd s x t e ho he hs hx hown hb.size hy hlim fun A' c' w' h1 h2 => h A' c' w' h1 (bl_grown hb h2 (fun k hk => (hown.lt k hk).1)) h2
set_option maxHeartbeats 4000000 in
theorem rfPut_any (l : List ByteArray) (s : ByteArray) (A : Option Addr) (n c q : Nat) (w : World) (hn : n ≤ 1048576) (hc : n ≤ c) (hcm : (c : Int) ≤ 9223372036854775807) (hs : Sl w A n l) (hqn : q ≤ n) (hlo : ∀ j, j < q → Op.bytesLess (nth l j).toList s.toList = true)
    (hst : q < n → Op.bytesLess (nth l q).toList s.toList = false ∧ ((nth l q).toList == s.toList) = false) :
    Calls Try.prog 65 #[.slice A n c, .string s] w (RetOwn w 9 (l.take q ++ [s] ++ l.drop q)) := by
  have HLo := Lib.hid hlo
  have HL := Lib.hid hs.1
  have HST := Lib.hid hst
  obtain ⟨Y, hY⟩ : ∃ Y, Y = List.take q l ++ [s] ++ List.drop q l := ⟨_, rfl⟩
  rw [← hY]
  have HY := Lib.hid hY
  clear hlo hst hY
  go_enter Try.func65, Try.ntmps65
  go_wp2
  go_loop [5] (fun i => ∃ k : Nat, k ≤ q ∧ i = .int .i64 k) (fun i => q - (intOf i).toNat)
  case atStart => exact ⟨0, Nat.zero_le _, rfl⟩
  case round =>
    obtain ⟨k, hk, rfl⟩ := hrel
    by_cases hlt : k < q
    · obtain ⟨b, o, rfl, _, c0⟩ := hs.str (by omega : k < n)
      clear hs
      have hl := HLo.out k hlt
      go_wp2
      go_round
      case rel => exact ⟨k + 1, by omega, by go_num⟩
      case measure => simp [intOf]; omega
    · obtain rfl : k = q := by omega
      have hkc : (k : Int) ≤ c := by omega
      have hkn : (k : Int) ≤ n := by omega
      have hk0 : (0 : Int) ≤ k := by omega
      have hst1 := Lib.hid (hs.take hqn)
      have hfl : (List.take k l ++ [s] ++ List.drop k l).length = n + 1 := by simp [HL.out]; omega
      have HFL := Lib.hid hfl
      clear hfl
      by_cases hkn2 : k < n
      · obtain ⟨b, o, rfl, _, c0⟩ := hs.str hkn2
        obtain ⟨hl, he⟩ := HST.out hkn2
        have hck : ¬ c = k := by omega
        have hsd : Hid (Sl w (some ⟨b, o + k, none⟩) (n - k) (l.drop k)) := by
          have h := hs.drop hqn
          have e : Flat.sz ByteArray = 1 := rfl
          rw [e, Nat.mul_one] at h
          exact h
        clear hs
        go_wp2_with fail
        clear c0
        go_region_held3 (fun w' => Below w.heap.size w w') (repeat' (first | assumption | exact bl_refl _ | refine bl_alloc ?_ _ | refine bl_drew ?_))
          (first
            | (refine step_appB rfl (.tmp 33) (.tmp 36) _ _ rfl el_str (xs := ([] : List ByteArray)) (ys := l.take k) (w0 := w) rfl rfl ?_ ?_ ?_ (by omega) ?_; (first | (focus (refine Own.below (w := w.alloc (.cells #[] 9)) (Own.built w _ (Nat.le_refl _)) ?_; (repeat' (first | assumption | exact bl_refl _ | refine bl_alloc ?_ _ | refine bl_drew ?_)); done)) | (focus (refine Own.below (w := (w.alloc (.cells #[.string s] 9)).alloc (.cells #[] 9)) ?_ ?_; (focus (have hbu := Own.built (α := ByteArray) (w.alloc (.cells #[.string s] 9)) 9 (base := w.heap.size) (by simp); simpa using hbu)); (repeat' (first | assumption | exact bl_refl _ | refine bl_alloc ?_ _ | refine bl_drew ?_)); done))); (repeat' (first | assumption | exact bl_refl _ | refine bl_alloc ?_ _ | refine bl_drew ?_)); (exact hst1.out.below (by repeat' (first | assumption | exact bl_refl _ | refine bl_alloc ?_ _ | refine bl_drew ?_))); (intro A1 c1 V1 ho1 hB1 hg1))
            | (refine step_appB rfl (.tmp 37) (.tmp 39) _ _ rfl el_str (xs := l.take k) (ys := [s]) (w0 := w) rfl rfl ?_ ?_ ?_ (by omega) ?_; (first | (simpa using ho1) | (exact Own.alloc (by simpa using ho1) _)); (repeat' (first | assumption | exact bl_refl _ | refine bl_alloc ?_ _ | refine bl_drew ?_)); (refine sl_str ?_; (first | (focus (go_simp; done)) | (focus (refine (hg1.cell_far _ ?_ ?_).trans ?_ <;> first | (simp; done) | (simp [Value.ownBlock]; done) | (go_simp; done) | (simp [Value.ownBlock]; omega))))); (intro A2 c2 V2 ho2 hB2 hg2))
            | (refine step_appB rfl (.tmp 40) (.tmp 43) _ _ rfl el_str (xs := l.take k ++ [s]) (ys := l.drop k) (w0 := w) rfl rfl ho2 hB2 (hsd.out.below hB2) (by omega) ?_; (intro A3 c3 V3 ho3 hB3 hg3)))
        all_goals
          (try simp only [Nat.zero_add] at ho3)
          (try simp only [Nat.add_zero] at ho3)
          rw [← HY.out] at ho3
          go_wp2
          all_goals (go_ret; exact retOwn_mk (by rw [HY.out, HFL.out]; first | done | omega) ho3 hB3)
      · obtain rfl : k = n := by omega
        have hsd : ∀ B, Hid (Sl w B 0 (l.drop k)) := fun B => by
          have e : l.drop k = [] := by rw [← HL.out]; simp
          rw [Hid, e]; exact Sl.nil _ _
        clear hs
        go_wp2_with fail
        go_region_held3 (fun w' => Below w.heap.size w w') (repeat' (first | assumption | exact bl_refl _ | refine bl_alloc ?_ _ | refine bl_drew ?_))
          (first
            | (refine step_appB rfl (.tmp 33) (.tmp 36) _ _ rfl el_str (xs := ([] : List ByteArray)) (ys := l.take k) (w0 := w) rfl rfl ?_ ?_ ?_ (by omega) ?_; (first | (focus (refine Own.below (w := w.alloc (.cells #[] 9)) (Own.built w _ (Nat.le_refl _)) ?_; (repeat' (first | assumption | exact bl_refl _ | refine bl_alloc ?_ _ | refine bl_drew ?_)); done)) | (focus (refine Own.below (w := (w.alloc (.cells #[.string s] 9)).alloc (.cells #[] 9)) ?_ ?_; (focus (have hbu := Own.built (α := ByteArray) (w.alloc (.cells #[.string s] 9)) 9 (base := w.heap.size) (by simp); simpa using hbu)); (repeat' (first | assumption | exact bl_refl _ | refine bl_alloc ?_ _ | refine bl_drew ?_)); done))); (repeat' (first | assumption | exact bl_refl _ | refine bl_alloc ?_ _ | refine bl_drew ?_)); (exact hst1.out.below (by repeat' (first | assumption | exact bl_refl _ | refine bl_alloc ?_ _ | refine bl_drew ?_))); (intro A1 c1 V1 ho1 hB1 hg1))
            | (refine step_appB rfl (.tmp 37) (.tmp 39) _ _ rfl el_str (xs := l.take k) (ys := [s]) (w0 := w) rfl rfl ?_ ?_ ?_ (by omega) ?_; (first | (simpa using ho1) | (exact Own.alloc (by simpa using ho1) _)); (repeat' (first | assumption | exact bl_refl _ | refine bl_alloc ?_ _ | refine bl_drew ?_)); (refine sl_str ?_; (first | (focus (go_simp; done)) | (focus (refine (hg1.cell_far _ ?_ ?_).trans ?_ <;> first | (simp; done) | (simp [Value.ownBlock]; done) | (go_simp; done) | (simp [Value.ownBlock]; omega))))); (intro A2 c2 V2 ho2 hB2 hg2))
            | (refine step_appB rfl (.tmp 40) (.tmp 43) _ _ rfl el_str (xs := l.take k ++ [s]) (ys := l.drop k) (w0 := w) rfl rfl ho2 hB2 ((hsd _).out.below hB2) (by omega) ?_; (intro A3 c3 V3 ho3 hB3 hg3)))
        all_goals
          (try simp only [Nat.zero_add] at ho3)
          (try simp only [Nat.add_zero] at ho3)
          rw [← HY.out] at ho3
          go_wp2
          all_goals (go_ret; exact retOwn_mk (by rw [HY.out, HFL.out]; first | done | omega) ho3 hB3)

end Go.Proofs.Ytgjnjfaohpmhkaa
