/-
  A name committed: the program's add; a name put into its place. No conditions.
-/
import Derived.Test.YtkgjbijkjlmomaaIcI
import Derived.Test.YtkgjbijkjlmomaaLays
import Derived.Test.YtkgjbijkjlmomaaMem8
import Derived.Test.YtkgjbijkjlmomaaCmp
import Derived.Test.YtkgjbijkjlmomaaBytes
import Derived.Shelf.Spec.SearchS
namespace Go.Proofs.Ytkgjbijkjlmomaa
open Go.RowKit

theorem sl_str {w : World} {b o : Nat} {s : ByteArray} (h : w.cell? ⟨b, o, none⟩ = some (.string s)) : Sl w (some ⟨b, o, none⟩) 1 [s] :=
  ⟨rfl, fun k x hx => by
    have hk : k = 0 := by have := (List.getElem?_eq_some_iff.1 hx).1; simpa using this
    subst hk
    have hx' : s = x := by simpa using hx
    subst hx'
    refine ⟨b, o, [.string s], rfl, rfl, fun j v hv => ?_⟩
    have hj : j = 0 := by have := (List.getElem?_eq_some_iff.1 hv).1; simpa using this
    subst hj
    have hv' : Value.string s = v := by simpa using hv
    subst hv'
    simpa using h⟩
theorem Sl.drop {α : Type} [Flat α] {w : World} {b o n i : Nat} {xs : List α} (h : Sl w (some ⟨b, o, none⟩) n xs) (_hi : i ≤ n) : Sl w (some ⟨b, o + i * Flat.sz α, none⟩) (n - i) (xs.drop i) :=
  ⟨by rw [List.length_drop, h.1], fun k x hx => by
    rw [List.getElem?_drop] at hx
    obtain ⟨b', o', cs, hA, hr, hc⟩ := h.2 (i + k) x hx
    injection hA with hA
    injection hA with h1 h2
    subst h1; subst h2
    refine ⟨b, _, cs, rfl, hr, fun j v hv => ?_⟩
    have := hc j v hv
    have e : o + (i + k) * Deep.sz α + j = o + i * Flat.sz α + k * Deep.sz α + j := by
      have : Deep.sz α = Flat.sz α := rfl
      rw [this, Nat.add_mul]; omega
    rwa [e] at this⟩
/-- As step_appN; all that has turned lies from the first world on. -/
theorem step_appB {α : Type} [Flat α] {P : Program} {ops : Array Oper} {o : Oper} {a : Act} {w : World} {K : Act → World → Prop} {Q : Exit → Act → World → Prop} {E : Prop} (hgd : o.guard = none) (s x : Operand) (t e : TypeId)
    (ho : o.op = .call { callee := .builtin .append, args := #[s, x], argTypes := #[t, t] }) (he : Elem P t e (Flat.sz α)) {w0 : World} {A B : Option Addr} {n c m d : Nat} {xs ys : List α} (hs : a.eval s = .slice A n c) (hx : a.eval x = .slice B m d)
    (hown : Own w w0.heap.size e (.slice A n c) xs) (hb : Below w0.heap.size w0 w) (hy : Sl w B m ys) (hlim : n + m ≤ 274877906944)
    (h : ∀ A' c' w', Own w' w0.heap.size e (.slice A' (n + m) c') (xs ++ ys) → Below w0.heap.size w0 w' → w.grownBy w' (Value.ownBlock (.slice A n c)) → K (a.put o.dst (.slice A' (n + m) c')) w') :
    if Region.wanted o (yielded ops a.tmps) = true then Oper.wp P o a w K Q else E :=
  step_appN hgd s x t e ho he hs hx hown hb.size hy hlim fun A' c' w' h1 h2 => h A' c' w' h1 (bl_grown hb h2 (fun k hk => (hown.lt k hk).1)) h2
set_option maxHeartbeats 4000000 in
theorem rfPut_any (l : List ByteArray) (s : ByteArray) (A : Option Addr) (n c q : Nat) (w : World) (hn : n ≤ 1048576) (hc : n ≤ c) (hcm : (c : Int) ≤ 9223372036854775807) (hs : Sl w A n l) (hqn : q ≤ n) (hlo : ∀ j, j < q → Op.bytesLess (nth l j).toList s.toList = true)
    (hst : q < n → Op.bytesLess (nth l q).toList s.toList = false ∧ ((nth l q).toList == s.toList) = false) :
    Calls Try.prog 61 #[.slice A n c, .string s] w (RetOwn w 9 (l.take q ++ [s] ++ l.drop q)) := by
  have HLo := Lib.hid hlo
  have HL := Lib.hid hs.1
  have HST := Lib.hid hst
  obtain ⟨Y, hY⟩ : ∃ Y, Y = List.take q l ++ [s] ++ List.drop q l := ⟨_, rfl⟩
  rw [← hY]
  have HY := Lib.hid hY
  clear hlo hst hY
  go_enter Try.func61, Try.ntmps61
  go_wp2
  go_loop [5] (fun i => ∃ k : Nat, k ≤ q ∧ i = .int .i64 k) (fun i => q - (intOf i).toNat)
  case atStart => exact ⟨0, Nat.zero_le _, rfl⟩
  case round =>
    obtain ⟨k, hk, rfl⟩ := hrel
    by_cases hlt : k < q
    · obtain ⟨b, o, rfl, _, c0⟩ := hs.str (by omega : k < n)
      clear hs
      have hl := HLo.out k hlt
      go_wp2
      go_round
      case rel => exact ⟨k + 1, by omega, by go_num⟩
      case measure => simp [intOf]; omega
    · obtain rfl : k = q := by omega
      have hkc : (k : Int) ≤ c := by omega
      have hkn : (k : Int) ≤ n := by omega
      have hk0 : (0 : Int) ≤ k := by omega
      have hst1 := Lib.hid (hs.take hqn)
      have hfl : (List.take k l ++ [s] ++ List.drop k l).length = n + 1 := by simp [HL.out]; omega
      have HFL := Lib.hid hfl
      clear hfl
      by_cases hkn2 : k < n
      · obtain ⟨b, o, rfl, _, c0⟩ := hs.str hkn2
        obtain ⟨hl, he⟩ := HST.out hkn2
        have hck : ¬ c = k := by omega
        have hsd : Hid (Sl w (some ⟨b, o + k, none⟩) (n - k) (l.drop k)) := by
          have h := hs.drop hqn
          have e : Flat.sz ByteArray = 1 := rfl
          rw [e, Nat.mul_one] at h
          exact h
        clear hs
        go_wp2_with fail
        clear c0
        go_region_held3 (fun w' => Below w.heap.size w w') (repeat' (first | assumption | exact bl_refl _ | refine bl_alloc ?_ _ | refine bl_drew ?_))
          (first
            | (refine step_appB rfl (.tmp 33) (.tmp 36) _ _ rfl el_str (xs := ([] : List ByteArray)) (ys := l.take k) (w0 := w) rfl rfl ?_ ?_ ?_ (by omega) ?_; (first | (focus (refine Own.below (w := w.alloc (.cells #[] 9)) (Own.built w _ (Nat.le_refl _)) ?_; (repeat' (first | assumption | exact bl_refl _ | refine bl_alloc ?_ _ | refine bl_drew ?_)); done)) | (focus (refine Own.below (w := (w.alloc (.cells #[.string s] 9)).alloc (.cells #[] 9)) ?_ ?_; (focus (have hbu := Own.built (α := ByteArray) (w.alloc (.cells #[.string s] 9)) 9 (base := w.heap.size) (by simp); simpa using hbu)); (repeat' (first | assumption | exact bl_refl _ | refine bl_alloc ?_ _ | refine bl_drew ?_)); done))); (repeat' (first | assumption | exact bl_refl _ | refine bl_alloc ?_ _ | refine bl_drew ?_)); (exact hst1.out.below (by repeat' (first | assumption | exact bl_refl _ | refine bl_alloc ?_ _ | refine bl_drew ?_))); (intro A1 c1 V1 ho1 hB1 hg1))
            | (refine step_appB rfl (.tmp 37) (.tmp 39) _ _ rfl el_str (xs := l.take k) (ys := [s]) (w0 := w) rfl rfl ?_ ?_ ?_ (by omega) ?_; (first | (simpa using ho1) | (exact Own.alloc (by simpa using ho1) _)); (repeat' (first | assumption | exact bl_refl _ | refine bl_alloc ?_ _ | refine bl_drew ?_)); (refine sl_str ?_; (first | (focus (go_simp; done)) | (focus (refine (hg1.cell_far _ ?_ ?_).trans ?_ <;> first | (simp; done) | (simp [Value.ownBlock]; done) | (go_simp; done) | (simp [Value.ownBlock]; omega))))); (intro A2 c2 V2 ho2 hB2 hg2))
            | (refine step_appB rfl (.tmp 40) (.tmp 43) _ _ rfl el_str (xs := l.take k ++ [s]) (ys := l.drop k) (w0 := w) rfl rfl ho2 hB2 (hsd.out.below hB2) (by omega) ?_; (intro A3 c3 V3 ho3 hB3 hg3)))
        all_goals
          (try simp only [Nat.zero_add] at ho3)
          (try simp only [Nat.add_zero] at ho3)
          rw [← HY.out] at ho3
          go_wp2
          all_goals (go_ret; exact retOwn_mk (by rw [HY.out, HFL.out]; first | done | omega) ho3 hB3)
      · obtain rfl : k = n := by omega
        have hsd : ∀ B, Hid (Sl w B 0 (l.drop k)) := fun B => by
          have e : l.drop k = [] := by rw [← HL.out]; simp
          rw [Hid, e]; exact Sl.nil _ _
        clear hs
        go_wp2_with fail
        go_region_held3 (fun w' => Below w.heap.size w w') (repeat' (first | assumption | exact bl_refl _ | refine bl_alloc ?_ _ | refine bl_drew ?_))
          (first
            | (refine step_appB rfl (.tmp 33) (.tmp 36) _ _ rfl el_str (xs := ([] : List ByteArray)) (ys := l.take k) (w0 := w) rfl rfl ?_ ?_ ?_ (by omega) ?_; (first | (focus (refine Own.below (w := w.alloc (.cells #[] 9)) (Own.built w _ (Nat.le_refl _)) ?_; (repeat' (first | assumption | exact bl_refl _ | refine bl_alloc ?_ _ | refine bl_drew ?_)); done)) | (focus (refine Own.below (w := (w.alloc (.cells #[.string s] 9)).alloc (.cells #[] 9)) ?_ ?_; (focus (have hbu := Own.built (α := ByteArray) (w.alloc (.cells #[.string s] 9)) 9 (base := w.heap.size) (by simp); simpa using hbu)); (repeat' (first | assumption | exact bl_refl _ | refine bl_alloc ?_ _ | refine bl_drew ?_)); done))); (repeat' (first | assumption | exact bl_refl _ | refine bl_alloc ?_ _ | refine bl_drew ?_)); (exact hst1.out.below (by repeat' (first | assumption | exact bl_refl _ | refine bl_alloc ?_ _ | refine bl_drew ?_))); (intro A1 c1 V1 ho1 hB1 hg1))
            | (refine step_appB rfl (.tmp 37) (.tmp 39) _ _ rfl el_str (xs := l.take k) (ys := [s]) (w0 := w) rfl rfl ?_ ?_ ?_ (by omega) ?_; (first | (simpa using ho1) | (exact Own.alloc (by simpa using ho1) _)); (repeat' (first | assumption | exact bl_refl _ | refine bl_alloc ?_ _ | refine bl_drew ?_)); (refine sl_str ?_; (first | (focus (go_simp; done)) | (focus (refine (hg1.cell_far _ ?_ ?_).trans ?_ <;> first | (simp; done) | (simp [Value.ownBlock]; done) | (go_simp; done) | (simp [Value.ownBlock]; omega))))); (intro A2 c2 V2 ho2 hB2 hg2))
            | (refine step_appB rfl (.tmp 40) (.tmp 43) _ _ rfl el_str (xs := l.take k ++ [s]) (ys := l.drop k) (w0 := w) rfl rfl ho2 hB2 ((hsd _).out.below hB2) (by omega) ?_; (intro A3 c3 V3 ho3 hB3 hg3)))
        all_goals
          (try simp only [Nat.zero_add] at ho3)
          (try simp only [Nat.add_zero] at ho3)
          rw [← HY.out] at ho3
          go_wp2
          all_goals (go_ret; exact retOwn_mk (by rw [HY.out, HFL.out]; first | done | omega) ho3 hB3)

theorem posS_ge {l : List ByteArray} {s : ByteArray} (h : sortB l = true) {j : Nat} (hj : posS l s ≤ j) (hl : j < l.length) : Op.bytesLess (nth l j).toList s.toList = false := by
  have h0 := posS_hi (l := l) (s := s) (by omega)
  by_cases e : j = posS l s
  · rw [e]; exact h0
  · rw [sort_pw, List.pairwise_iff_getElem] at h
    have h1 := h (posS l s) j (by omega) hl (by omega)
    rw [nth_ge, nth_ge] at h1
    cases hc : Op.bytesLess (nth l j).toList s.toList with
    | false => rfl
    | true => rw [bl_tr h1 hc] at h0; cases h0
theorem tup_i (I P : Nat) (b : Bool) (h : I = P) : Ending.returned (.tuple #[.int .i64 (I : Int), .bool b]) = .returned (.tuple #[.int .i64 (P : Int), .bool b]) := by rw [h]
theorem bsS_any (l : List ByteArray) (s : ByteArray) (A : Option Addr) (n c : Nat) (w : World) (hn : n ≤ 1048576) (hs : Sl w A n l) (hso : sortB l = true) :
    Calls Try.prog 82 #[.slice A n c, .string s] w fun e w' => ∃ b, e = .returned (.tuple #[.int .i64 ((posS l s : Nat) : Int), .bool b]) ∧ Below w.heap.size w w' := by
  have hl := hs.1
  by_cases h0 : n = 0
  · subst h0
    have hl0 : l = [] := List.length_eq_zero_iff.1 hl
    subst hl0
    exact (Any2.slices_BinarySearch_string_empty Try.laysSearchS A c s w).mono fun e w' ⟨he, hw⟩ => ⟨_, he, hw ▸ Below.refl _ _⟩
  · obtain ⟨b, o, rfl, hb, _⟩ := hs.str (k := 0) (by omega)
    have hle : posS l s ≤ n := by rw [← hl]; exact posS_le _ _
    have e := Lib.bsGo_spec (fun t => Op.bytesLess (if t < n then nth l t else s).toList s.toList) (posS l s)
      (fun t ht => by
        show Op.bytesLess (if t < n then nth l t else s).toList s.toList = true
        rw [if_pos (by omega)]; exact posS_lo ht)
      (fun t ht => by
        show Op.bytesLess (if t < n then nth l t else s).toList s.toList = false
        by_cases h : t < n
        · rw [if_pos h]; exact posS_ge hso ht (by omega)
        · rw [if_neg h]; exact bl_irr _) n 0 n (by omega) (by omega) hle
    refine (Any2.slices_BinarySearch_string Try.laysSearchS b o n c (fun t => if t < n then nth l t else s) s w (by omega) (fun j hj => ?_)).mono fun e' w' ⟨he, q, hw⟩ => ⟨_, he.trans (tup_i _ _ _ e), by rw [hw]; exact bl_drewN (bl_refl _) _⟩
    obtain ⟨b', o', e', _, hcell⟩ := hs.str hj
    injection e' with e'
    injection e' with e1 e2
    subst e1 e2
    show _ = some (Value.string (if j < n then nth l j else s))
    rw [if_pos hj]; exact hcell
set_option maxRecDepth 100000 in
set_option maxHeartbeats 4000000 in
theorem add_any (g o : Nat) (s : ByteArray) (A : Option Addr) (n c base : Nat) (l : List ByteArray) (w : World) (hn : n ≤ 1048575) (hc3 : w.cell? ⟨g, o + 3, none⟩ = some (.slice A n c)) (hf3 : w.frozen? ⟨g, o + 3, none⟩ = false) (ho : Own w base 9 (.slice A n c) l) (hg : ∀ x, Value.ownBlock (.slice A n c) = some x → x ≠ g) (hso : sortB l = true) (hbase : base ≤ w.heap.size) :
    Calls Try.prog 57 #[.pointer (some ⟨g, o, none⟩), .string s] w fun e w' => ∃ A' c' V, e = .returned (.tuple #[]) ∧ w' = V.setCell ⟨g, o + 3, none⟩ (.slice A' (n + 1) c') ∧ Own V base 9 (.slice A' (n + 1) c') (insQ l (posS l s) s) ∧ OnlyF (Value.ownBlock (.slice A n c)).toList w V ∧ ∀ x, Value.ownBlock (.slice A' (n + 1) c') = some x → Value.ownBlock (.slice A n c) = some x ∨ w.heap.size ≤ x := by
  have hgz : g < w.heap.size := World.block_lt_of_cell? w _ hc3
  have hple : posS l s ≤ n := by rw [← ho.sl.1]; exact posS_le _ _
  have HG : Hid (∀ k, k ∈ (Value.ownBlock (.slice A n c)).toList → k ≠ g) := fun k hk => hg k (by simpa using hk)
  have HO := Lib.hid ho
  have HLT : Hid (∀ k, Value.ownBlock (.slice A n c) = some k → k < w.heap.size) := fun k hk => (ho.lt k hk).2
  have HSO := Lib.hid hso
  have HQ : Hid (insAt l (posS l s) s = insQ l (posS l s) s) := by rw [Hid]; unfold insAt insQ; simp
  have HP : Hid (∀ V, Sl V A n l → Calls Try.prog 82 #[.slice A n c, .string s] V fun e w' => ∃ b, e = .returned (.tuple #[.int .i64 ((posS l s : Nat) : Int), .bool b]) ∧ Below V.heap.size V w') := fun V hV => bsS_any l s A n c V (by omega) hV hso
  obtain ⟨P, hP⟩ : ∃ P, P = posS l s := ⟨_, rfl⟩
  rw [← hP] at hple HQ HP ⊢
  clear hg ho hso hP
  go_enter Try.func57, Try.ntmps57
  go_wp2_with fail
  refine (HP.out _ HO.out.sl).mono ?_
  rintro e V ⟨bb, rfl, hV⟩
  have y3 := cell_later hV hc3
  have f3 := frozen_later hV hgz hf3
  have hgV : g < V.heap.size := World.block_lt_of_cell? V _ y3
  have HOV := Lib.hid (HO.out.below hV)
  have hVz := hV.size
  have HV1 := Lib.hid hV
  clear hc3 hf3 hV
  go_wp2_with fail
  refine (insert_str l A n c P base V.heap.size 1 s _ (by omega) hple (HOV.out.alloc _) (by simp only [World.size_alloc]; omega) (by simp only [World.alloc, Array.getElem?_push_size]; rfl) (fun g' hA hv => ?_)).mono ?_
  · have := HLT.out g' (by rw [hA]; rfl)
    omega
  rintro e V2 ⟨A2, c2, rfl, ho2, hg2, hbk2⟩
  have HBK : Hid (∀ x, Value.ownBlock (.slice A2 (n + 1) c2) = some x → Value.ownBlock (.slice A n c) = some x ∨ w.heap.size ≤ x) := fun x hx => (hbk2 x hx).imp id (fun h => by simp only [World.size_alloc] at h; omega)
  clear hbk2
  have hof : OnlyF (Value.ownBlock (.slice A n c)).toList V V2 := (OnlyF.alloc (OnlyF.refl _ _) _).trans (OnlyF.of_gb hg2)
  have x3 := hof.keeps y3 (fun hm' => HG.out _ hm' rfl)
  have k3 := (hof.frozen (p := ⟨g, o + 3, none⟩) hgV (fun hm' => HG.out _ hm' rfl)).trans f3
  have hgV2 : g < V2.heap.size := World.block_lt_of_cell? V2 _ x3
  have HOF : Hid (OnlyF (Value.ownBlock (.slice A n c)).toList w V2) := (OnlyF.below HV1.out).trans hof
  have HO2 := Lib.hid ho2
  clear hg2 ho2 y3 f3 hof
  go_wp2
  go_end0
  exact ⟨A2, c2, V2, rfl, rfl, by rw [← HQ.out]; exact HO2.out, HOF.out, HBK.out⟩

end Go.Proofs.Ytkgjbijkjlmomaa
