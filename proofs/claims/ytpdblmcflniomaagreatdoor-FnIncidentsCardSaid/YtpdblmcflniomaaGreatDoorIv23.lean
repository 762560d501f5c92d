/-
  Several texts in one. No conditions.
-/
import Derived.Test.YtpdblmcflniomaaGreatDoorIv22
import Derived.Test.YtpdblmcflniomaaGreatDoorIv20
import Derived.Test.YtpdblmcflniomaaGreatDoorLays
import Derived.Test.YtpdblmcflniomaaGreatDoorIv14
import Derived.Shelf.Spec.SearchS
import Derived.Test.YtpdblmcflniomaaGreatDoorIv15
namespace Go.Proofs.YtpdblmcflniomaaGreatDoor
open Go.RowKit

theorem app1_blk {α : Type} [Flat α] {P : Program} (t ty e : TypeId) (he : Elem P t e (Flat.sz α)) {base : Nat} {w : World} {A : Option Addr} {n c b d : Nat} {xs : List α} {y : α}
    (hown : Own w base e (.slice A n c) xs) (hy : Sl w (some ⟨b, 0, none⟩) 1 [y]) (hlim : n ≤ 1048576) {v' : Value} {w' : World} (hr : (Builtin.append_ #[t, t] ty #[.slice A n c, .slice (some ⟨b, 0, none⟩) 1 d]).run P w = .ok v' w') :
    ∀ x, v'.ownBlock = some x → Value.ownBlock (.slice A n c) = some x ∨ w.heap.size ≤ x := by
  obtain ⟨i, z, h1, h2, h3, h4, h5, h6⟩ := he
  have hn := hown.sl.1
  have ho1 : w.ownsRow base e (Flat.sz α) (.slice A n c) n (cellsOf xs) := by
    have := hown
    unfold Own at this
    rwa [hn] at this
  have hl : (cellsOf [y]).length = 1 * Flat.sz α := by rw [cellsOf_length]; rfl
  have hc : ∀ j u, (cellsOf [y])[j]? = some u → w.cell? ((⟨b, 0, none⟩ : Addr).add j) = some u := fun j u hu => by
    rw [addr_add]; exact hy.cells j u hu
  have hb5 : (n + 1) * i.bytes ≤ (n + 1) * 256 := Nat.mul_le_mul_left _ h5
  rcases ho1.2 with ⟨hv, _⟩ | ⟨g, cap, cur, hv, hbg, hg, hnc, hcm, hcs, htk⟩
  · injection hv with e1 e2 e3
    subst e1 e2 e3
    rw [run_append_nil (P := P) w t ty e i z h1 h2 h3 ⟨b, 0, none⟩ 1 d (cellsOf [y]) (by rw [h4]; exact hl) hc (by omega) (by omega) (by omega)] at hr
    injection hr with hr _
    subst hr
    intro x hx
    exact .inr (by have : w.heap.size = x := by simpa [Value.ownBlock] using hx
                   omega)
  · injection hv with e1 e2 e3
    subst e1 e3
    by_cases hroom : n + 1 ≤ c
    · obtain ⟨w2, hr2, _⟩ := run_append_fits (P := P) w base t ty e i (Flat.sz α) h1 h2 h4 g n c (cellsOf xs) ho1 ⟨b, 0, none⟩ 1 d (cellsOf [y]) hl hc (cellsOf_oneCell _) hroom
      rw [hr2] at hr
      injection hr with hr _
      subst hr
      exact fun x hx => .inl hx
    · have hold : ∀ j v, (cellsOf xs)[j]? = some v → w.cell? ((⟨g, 0, none⟩ : Addr).add j) = some v := fun j v hj => by
        rw [addr_add]; exact hown.sl.cells j v hj
      rw [run_append_grow (P := P) w t ty e i z h1 h2 h3 ⟨g, 0, none⟩ n c (cellsOf xs) (by rw [h4]; exact ho1.1) hold ⟨b, 0, none⟩ 1 d (cellsOf [y]) (by rw [h4]; exact hl) hc (by omega) (by omega) (growslice_fits (by omega) (by omega))] at hr
      injection hr with hr _
      subst hr
      intro x hx
      exact .inr (by have : w.heap.size = x := by simpa [Value.ownBlock] using hx
                     omega)
/-- A call hands back a slice with one element more; its block is the old one or a new one. -/
def RetInsB {α : Type} [Flat α] (w : World) (base : Nat) (E : TypeId) (A : Option Addr) (n c : Nat) (ys : List α) (e : Ending) (w' : World) : Prop :=
  ∃ A' c', e = .returned (.slice A' (n + 1) c') ∧ Own w' base E (.slice A' (n + 1) c') ys ∧ w.grownBy w' (Value.ownBlock (.slice A n c)) ∧ ∀ x, Value.ownBlock (.slice A' (n + 1) c') = some x → Value.ownBlock (.slice A n c) = some x ∨ w.heap.size ≤ x
end Go.Proofs.YtpdblmcflniomaaGreatDoor

namespace Go.Proofs.YtpdblmcflniomaaGreatDoor
open Go.RowKit

theorem sl_str {w : World} {b o : Nat} {s : ByteArray} (h : w.cell? ⟨b, o, none⟩ = some (.string s)) : Sl w (some ⟨b, o, none⟩) 1 [s] :=
  ⟨rfl, fun k x hx => by
    have hk : k = 0 := by have := (List.getElem?_eq_some_iff.1 hx).1; simpa using this
    subst hk
    have hx' : s = x := by simpa using hx
    subst hx'
    refine ⟨b, o, [.string s], rfl, rfl, fun j v hv => ?_⟩
    have hj : j = 0 := by have := (List.getElem?_eq_some_iff.1 hv).1; simpa using this
    subst hj
    have hv' : Value.string s = v := by simpa using hv
    subst hv'
    simpa using h⟩
theorem Sl.drop {α : Type} [Flat α] {w : World} {b o n i : Nat} {xs : List α} (h : Sl w (some ⟨b, o, none⟩) n xs) (_hi : i ≤ n) : Sl w (some ⟨b, o + i * Flat.sz α, none⟩) (n - i) (xs.drop i) :=
  ⟨by rw [List.length_drop, h.1], fun k x hx => by
    rw [List.getElem?_drop] at hx
    obtain ⟨b', o', cs, hA, hr, hc⟩ := h.2 (i + k) x hx
    injection hA with hA
    injection hA with h1 h2
    subst h1; subst h2
    refine ⟨b, _, cs, rfl, hr, fun j v hv => ?_⟩
    have := hc j v hv
    have e : o + (i + k) * Deep.sz α + j = o + i * Flat.sz α + k * Deep.sz α + j := by
      have : Deep.sz α = Flat.sz α := rfl
      rw [this, Nat.add_mul]; omega
    rwa [e] at this⟩
/-- As step_appN; all that has turned lies from the first world on. -/
theorem step_appB {α : Type} [Flat α] {P : Program} {ops : Array Oper} {o : Oper} {a : Act} {w : World} {K : Act → World → Prop} {Q : Exit → Act → World → Prop} {E : Prop} (hgd : o.guard = none) (s x : Operand) (t e : TypeId)
    (ho : o.op = .call { callee := .builtin .append, args := #[s, x], argTypes := #[t, t] }) (he : Elem P t e (Flat.sz α)) {w0 : World} {A B : Option Addr} {n c m d : Nat} {xs ys : List α} (hs : a.eval s = .slice A n c) (hx : a.eval x = .slice B m d)
    (hown : Own w w0.heap.size e (.slice A n c) xs) (hb : Below w0.heap.size w0 w) (hy : Sl w B m ys) (hlim : n + m ≤ 274877906944)
    (h : ∀ A' c' w', Own w' w0.heap.size e (.slice A' (n + m) c') (xs ++ ys) → Below w0.heap.size w0 w' → w.grownBy w' (Value.ownBlock (.slice A n c)) → K (a.put o.dst (.slice A' (n + m) c')) w') :
    if Region.wanted o (yielded ops a.tmps) = true then Oper.wp P o a w K Q else E :=
  step_appN hgd s x t e ho he hs hx hown hb.size hy hlim fun A' c' w' h1 h2 => h A' c' w' h1 (bl_grown hb h2 (fun k hk => (hown.lt k hk).1)) h2
set_option maxHeartbeats 4000000 in
theorem rfPut_any (l : List ByteArray) (s : ByteArray) (A : Option Addr) (n c q : Nat) (w : World) (hn : n ≤ 1048576) (hc : n ≤ c) (hcm : (c : Int) ≤ 9223372036854775807) (hs : Sl w A n l) (hqn : q ≤ n) (hlo : ∀ j, j < q → Op.bytesLess (nth l j).toList s.toList = true)
    (hst : q < n → Op.bytesLess (nth l q).toList s.toList = false ∧ ((nth l q).toList == s.toList) = false) :
    Calls Tryz.prog 56 #[.slice A n c, .string s] w (RetOwn w 9 (l.take q ++ [s] ++ l.drop q)) := by
  have HLo := Lib.hid hlo
  have HL := Lib.hid hs.1
  have HST := Lib.hid hst
  obtain ⟨Y, hY⟩ : ∃ Y, Y = List.take q l ++ [s] ++ List.drop q l := ⟨_, rfl⟩
  rw [← hY]
  have HY := Lib.hid hY
  clear hlo hst hY
  go_enter Tryz.func56, Tryz.ntmps56
  go_wp2
  go_loop [5] (fun i => ∃ k : Nat, k ≤ q ∧ i = .int .i64 k) (fun i => q - (intOf i).toNat)
  case atStart => exact ⟨0, Nat.zero_le _, rfl⟩
  case round =>
    obtain ⟨k, hk, rfl⟩ := hrel
    by_cases hlt : k < q
    · obtain ⟨b, o, rfl, _, c0⟩ := hs.str (by omega : k < n)
      clear hs
      have hl := HLo.out k hlt
      go_wp2
      go_round
      case rel => exact ⟨k + 1, by omega, by go_num⟩
      case measure => simp [intOf]; omega
    · obtain rfl : k = q := by omega
      have hkc : (k : Int) ≤ c := by omega
      have hkn : (k : Int) ≤ n := by omega
      have hk0 : (0 : Int) ≤ k := by omega
      have hst1 := Lib.hid (hs.take hqn)
      have hfl : (List.take k l ++ [s] ++ List.drop k l).length = n + 1 := by simp [HL.out]; omega
      have HFL := Lib.hid hfl
      clear hfl
      by_cases hkn2 : k < n
      · obtain ⟨b, o, rfl, _, c0⟩ := hs.str hkn2
        obtain ⟨hl, he⟩ := HST.out hkn2
        have hck : ¬ c = k := by omega
        have hsd : Hid (Sl w (some ⟨b, o + k, none⟩) (n - k) (l.drop k)) := by
          have h := hs.drop hqn
          have e : Flat.sz ByteArray = 1 := rfl
          rw [e, Nat.mul_one] at h
          exact h
        clear hs
        go_wp2_with fail
        clear c0
        go_region_held3 (fun w' => Below w.heap.size w w') (repeat' (first | assumption | exact bl_refl _ | refine bl_alloc ?_ _ | refine bl_drew ?_))
          (first
            | (refine step_appB rfl (.tmp 33) (.tmp 36) _ _ rfl el_str (xs := ([] : List ByteArray)) (ys := l.take k) (w0 := w) rfl rfl ?_ ?_ ?_ (by omega) ?_; (first | (focus (refine Own.below (w := w.alloc (.cells #[] 9)) (Own.built w _ (Nat.le_refl _)) ?_; (repeat' (first | assumption | exact bl_refl _ | refine bl_alloc ?_ _ | refine bl_drew ?_)); done)) | (focus (refine Own.below (w := (w.alloc (.cells #[.string s] 9)).alloc (.cells #[] 9)) ?_ ?_; (focus (have hbu := Own.built (α := ByteArray) (w.alloc (.cells #[.string s] 9)) 9 (base := w.heap.size) (by simp); simpa using hbu)); (repeat' (first | assumption | exact bl_refl _ | refine bl_alloc ?_ _ | refine bl_drew ?_)); done))); (repeat' (first | assumption | exact bl_refl _ | refine bl_alloc ?_ _ | refine bl_drew ?_)); (exact hst1.out.below (by repeat' (first | assumption | exact bl_refl _ | refine bl_alloc ?_ _ | refine bl_drew ?_))); (intro A1 c1 V1 ho1 hB1 hg1))
            | (refine step_appB rfl (.tmp 37) (.tmp 39) _ _ rfl el_str (xs := l.take k) (ys := [s]) (w0 := w) rfl rfl ?_ ?_ ?_ (by omega) ?_; (first | (simpa using ho1) | (exact Own.alloc (by simpa using ho1) _)); (repeat' (first | assumption | exact bl_refl _ | refine bl_alloc ?_ _ | refine bl_drew ?_)); (refine sl_str ?_; (first | (focus (go_simp; done)) | (focus (refine (hg1.cell_far _ ?_ ?_).trans ?_ <;> first | (simp; done) | (simp [Value.ownBlock]; done) | (go_simp; done) | (simp [Value.ownBlock]; omega))))); (intro A2 c2 V2 ho2 hB2 hg2))
            | (refine step_appB rfl (.tmp 40) (.tmp 43) _ _ rfl el_str (xs := l.take k ++ [s]) (ys := l.drop k) (w0 := w) rfl rfl ho2 hB2 (hsd.out.below hB2) (by omega) ?_; (intro A3 c3 V3 ho3 hB3 hg3)))
        all_goals
          (try simp only [Nat.zero_add] at ho3)
          (try simp only [Nat.add_zero] at ho3)
          rw [← HY.out] at ho3
          go_wp2
          all_goals (go_ret; exact retOwn_mk (by rw [HY.out, HFL.out]; first | done | omega) ho3 hB3)
      · obtain rfl : k = n := by omega
        have hsd : ∀ B, Hid (Sl w B 0 (l.drop k)) := fun B => by
          have e : l.drop k = [] := by rw [← HL.out]; simp
          rw [Hid, e]; exact Sl.nil _ _
        clear hs
        go_wp2_with fail
        go_region_held3 (fun w' => Below w.heap.size w w') (repeat' (first | assumption | exact bl_refl _ | refine bl_alloc ?_ _ | refine bl_drew ?_))
          (first
            | (refine step_appB rfl (.tmp 33) (.tmp 36) _ _ rfl el_str (xs := ([] : List ByteArray)) (ys := l.take k) (w0 := w) rfl rfl ?_ ?_ ?_ (by omega) ?_; (first | (focus (refine Own.below (w := w.alloc (.cells #[] 9)) (Own.built w _ (Nat.le_refl _)) ?_; (repeat' (first | assumption | exact bl_refl _ | refine bl_alloc ?_ _ | refine bl_drew ?_)); done)) | (focus (refine Own.below (w := (w.alloc (.cells #[.string s] 9)).alloc (.cells #[] 9)) ?_ ?_; (focus (have hbu := Own.built (α := ByteArray) (w.alloc (.cells #[.string s] 9)) 9 (base := w.heap.size) (by simp); simpa using hbu)); (repeat' (first | assumption | exact bl_refl _ | refine bl_alloc ?_ _ | refine bl_drew ?_)); done))); (repeat' (first | assumption | exact bl_refl _ | refine bl_alloc ?_ _ | refine bl_drew ?_)); (exact hst1.out.below (by repeat' (first | assumption | exact bl_refl _ | refine bl_alloc ?_ _ | refine bl_drew ?_))); (intro A1 c1 V1 ho1 hB1 hg1))
            | (refine step_appB rfl (.tmp 37) (.tmp 39) _ _ rfl el_str (xs := l.take k) (ys := [s]) (w0 := w) rfl rfl ?_ ?_ ?_ (by omega) ?_; (first | (simpa using ho1) | (exact Own.alloc (by simpa using ho1) _)); (repeat' (first | assumption | exact bl_refl _ | refine bl_alloc ?_ _ | refine bl_drew ?_)); (refine sl_str ?_; (first | (focus (go_simp; done)) | (focus (refine (hg1.cell_far _ ?_ ?_).trans ?_ <;> first | (simp; done) | (simp [Value.ownBlock]; done) | (go_simp; done) | (simp [Value.ownBlock]; omega))))); (intro A2 c2 V2 ho2 hB2 hg2))
            | (refine step_appB rfl (.tmp 40) (.tmp 43) _ _ rfl el_str (xs := l.take k ++ [s]) (ys := l.drop k) (w0 := w) rfl rfl ho2 hB2 ((hsd _).out.below hB2) (by omega) ?_; (intro A3 c3 V3 ho3 hB3 hg3)))
        all_goals
          (try simp only [Nat.zero_add] at ho3)
          (try simp only [Nat.add_zero] at ho3)
          rw [← HY.out] at ho3
          go_wp2
          all_goals (go_ret; exact retOwn_mk (by rw [HY.out, HFL.out]; first | done | omega) ho3 hB3)

theorem posS_ge {l : List ByteArray} {s : ByteArray} (h : sortB l = true) {j : Nat} (hj : posS l s ≤ j) (hl : j < l.length) : Op.bytesLess (nth l j).toList s.toList = false := by
  have h0 := posS_hi (l := l) (s := s) (by omega)
  by_cases e : j = posS l s
  · rw [e]; exact h0
  · rw [sort_pw, List.pairwise_iff_getElem] at h
    have h1 := h (posS l s) j (by omega) hl (by omega)
    rw [nth_ge, nth_ge] at h1
    cases hc : Op.bytesLess (nth l j).toList s.toList with
    | false => rfl
    | true => rw [bl_tr h1 hc] at h0; cases h0
theorem tup_i (I P : Nat) (b : Bool) (h : I = P) : Ending.returned (.tuple #[.int .i64 (I : Int), .bool b]) = .returned (.tuple #[.int .i64 (P : Int), .bool b]) := by rw [h]
end Go.Proofs.YtpdblmcflniomaaGreatDoor

namespace Go.Proofs.YtpdblmcflniomaaGreatDoor
open Go.RowKit

theorem rfPutQ (l : List ByteArray) (s : ByteArray) (A : Option Addr) (n c : Nat) (w : World) (hn : n ≤ 1048576) (hc : n ≤ c) (hcm : (c : Int) ≤ 9223372036854775807) (hs : Sl w A n l) (hno : s ∉ l) :
    Calls Tryz.prog 56 #[.slice A n c, .string s] w (RetOwn w 9 (insQ l (posS l s) s)) :=
  rfPut_any l s A n c (posS l s) w hn hc hcm hs (by rw [← hs.1]; exact posS_le _ _) (fun j hj => posS_lo hj) (fun hq => by
    have hq' : posS l s < l.length := by rw [hs.1]; exact hq
    refine ⟨posS_hi hq', ?_⟩
    cases hc : ((nth l (posS l s)).toList == s.toList) with
    | false => rfl
    | true =>
      have h := nth_mem hq'
      rw [bytes_inj (a := nth l (posS l s)) (b := s) (by simpa using hc)] at h
      exact absurd h hno)
theorem hv_ad {xs : List Incident} {j : Nat} {s : ByteArray} (hv : ∀ x, x ∈ xs → ∀ y, y ∈ x.Names → y.size ≤ maxLen) (hz : s.size ≤ maxLen) (hj : j < xs.length) : ∀ x, x ∈ xs.set j (adX (nth xs j) s) → ∀ y, y ∈ x.Names → y.size ≤ maxLen := fun x hx => by
  rcases List.mem_or_eq_of_mem_set hx with hx | rfl
  · exact hv x hx
  · intro y hy
    rcases insQ_mem.1 hy with rfl | hy
    · exact hz
    · exact hv _ (nth_mem hj) y hy
set_option maxRecDepth 100000 in
set_option maxHeartbeats 8000000 in
theorem ixAdd_any (xs : List Incident) (j : Nat) (nm : ByteArray) (A : Option Addr) (n c : Nat) (w : World) (hn : n ≤ 1048576) (hs : Sl w A n xs) (hin : ∀ x, x ∈ xs → x.Names.length ≤ 1048576) (hj : j < n) (hno : nm ∉ (nth xs j).Names) :
    Calls Tryz.prog 102 #[.slice A n c, .int .i64 j, .string nm] w (RetOwnX incidentN w 32 9 (xs.set j (adX (nth xs j) nm))) := by
  have HIN := Lib.hid hin
  have HL := Lib.hid hs.1
  clear hin
  go_enter Tryz.func102, Tryz.ntmps102
  have hk0 := bl_refl w
  go_wp2_with fail
  refine (ixOwn_any xs _ _ _ _ hn hs HIN.out).mono ?_
  rintro e V1 ⟨A_c, c_c, F_c, rfl, ho_c, hb1⟩
  have hB1 := bl_trans (a := w) (bl_refl _) hb1
  have hk1 := bl_trans hk0 hB1
  have z1 := Lib.hid hB1.size
  have hjx : j < xs.length := by rw [HL.out]; exact hj
  obtain ⟨ps, hp, _, hop⟩ := ho_c
  obtain ⟨g, rfl⟩ := hop.out.form (by omega : 0 < xs.length)
  have hjl : j < ps.length := by rw [hop.len]; exact hjx
  obtain ⟨p, hpq⟩ : ∃ p, ps[j]? = some p := ⟨_, List.getElem?_eq_getElem hjl⟩
  have he : nth (ps.map Prod.fst) j = p.1 := nth_get (by rw [List.getElem?_map, hpq]; rfl)
  have hx : Hid (nth xs j = incidentN.of p.1 p.2) := nth_get (by rw [← hp]; unfold Nest.plain; rw [List.getElem?_map, hpq]; rfl)
  have hjc : xs.length ≤ c_c := hop.out.cap.1
  have hjI : (j : Int) < xs.length := by omega
  have hj0 : (0 : Int) ≤ j := by omega
  have HW := Lib.hid hk1
  have hnl : (nth xs j).Names.length ≤ 1048576 := HIN.out _ (nth_mem hjx)
  have d0 : V1.cell? ⟨g, j * 4, none⟩ = some (.int .i64 (nth (ps.map Prod.fst) j).Number) := hop.out.cellAt hjx 0 _ rfl
  have d1 : V1.cell? ⟨g, j * 4 + 1, none⟩ = some (.int .i64 (nth (ps.map Prod.fst) j).Node) := hop.out.cellAt hjx 1 _ rfl
  have d2 : V1.cell? ⟨g, j * 4 + 2, none⟩ = some (.bool (nth (ps.map Prod.fst) j).Closed) := hop.out.cellAt hjx 2 _ rfl
  have d3 : V1.cell? ⟨g, j * 4 + 3, none⟩ = some (.slice (nth (ps.map Prod.fst) j).A (nth (ps.map Prod.fst) j).n (nth (ps.map Prod.fst) j).c) := hop.out.cellAt hjx 3 _ rfl
  have f0 := hop.out.frozenAt (j * 4)
  have f1 := hop.out.frozenAt (j * 4 + 1)
  have f2 := hop.out.frozenAt (j * 4 + 2)
  have f3 := hop.out.frozenAt (j * 4 + 3)
  rw [he] at d0 d1 d2 d3
  have hin := hop.inn j p hpq
  have hpl : (nth xs j).Names = p.2 := by rw [hx.out]; rfl
  have hpn : p.2.length = p.1.n := hin.sl.1
  have hpnn : p.1.n ≤ 1048576 := by rw [← hpn, ← hpl]; exact hnl
  obtain ⟨hpc, hpm⟩ := hin.cap
  have hpm2 : (p.1.c : Int) ≤ 9223372036854775807 := by unfold maxLen at hpm; omega
  have HR : Hid (∀ V, Sl V p.1.A p.1.n p.2 → Calls Tryz.prog 56 #[.slice p.1.A p.1.n p.1.c, .string nm] V (RetOwn V 9 (insQ p.2 (posS p.2 nm) nm))) := fun V hV => rfPutQ p.2 nm _ _ _ V hpnn hpc hpm2 hV (by rw [← hpl]; exact hno)
  obtain ⟨M, hM⟩ : ∃ M, M = insQ p.2 (posS p.2 nm) nm := ⟨_, rfl⟩
  rw [← hM] at HR
  have HM := Lib.hid hM
  have HPL := Lib.hid hpl
  have HOP := Lib.hid hop
  have HIN2 : Hid (Own V1 w.heap.size 9 (.slice p.1.A p.1.n p.1.c) p.2) := hin
  have hgz : g < V1.heap.size := World.block_lt_of_cell? _ _ d0
  clear hs hin hop hk0 hB1 hk1 hno hpl hpn hpc hpm hpm2 hnl hM
  go_wp2_with fail
  refine (HR.out _ (HIN2.out.sl.below (bl_alloc (bl_refl _) _))).mono ?_
  rintro e V2 ⟨A2, c2, rfl, ho2, hb2⟩
  have y0 : V2.cell? ⟨V1.heap.size, 0, none⟩ = some (.int .i64 p.1.Number) := cell_later hb2 (by go_simp)
  have y1 : V2.cell? ⟨V1.heap.size, 1, none⟩ = some (.int .i64 p.1.Node) := cell_later hb2 (by go_simp)
  have y2 : V2.cell? ⟨V1.heap.size, 2, none⟩ = some (.bool p.1.Closed) := cell_later hb2 (by go_simp)
  have y3 : V2.cell? ⟨V1.heap.size, 3, none⟩ = some (.slice p.1.A p.1.n p.1.c) := cell_later hb2 (by go_simp)
  have z3 : V2.frozen? ⟨V1.heap.size, 3, none⟩ = false := frozen_later hb2 (by simp) (by go_simp)
  have hz2 : V1.heap.size < V2.heap.size := World.block_lt_of_cell? _ _ y0
  have HB2 : Hid (Below V1.heap.size V1 V2) := bl_trans (bl_alloc (bl_refl _) _) hb2
  have HO2 : Hid (Own V2 (V1.heap.size + 1) 9 (.slice A2 M.length c2) M) := Own.mono ho2 (by simp)
  clear ho2 hb2 d0 d1 d2 d3 f0 f1 f2 f3
  go_upto_region 4 with fail
  refine wp_hideI (R := fun X => OnlyF [V1.heap.size] V2 X ∧ V1.heap.size < X.heap.size ∧ X.cell? ⟨V1.heap.size, 0, none⟩ = some (.int .i64 p.1.Number) ∧ X.cell? ⟨V1.heap.size, 1, none⟩ = some (.int .i64 p.1.Node) ∧ X.cell? ⟨V1.heap.size, 2, none⟩ = some (.bool p.1.Closed) ∧ X.cell? ⟨V1.heap.size, 3, none⟩ = some (.slice A2 M.length c2)) ⟨OnlyF.set (OnlyF.refl _ _) (List.mem_singleton.2 rfl) _, by simpa using hz2, by go_simp, by go_simp, by go_simp, by go_simp⟩ (fun X ⟨hfX, hXz, e0, e1, e2, e3⟩ => ?_)
  clear y0 y1 y2 y3 z3
  have hbX : Below V1.heap.size V1 X := below_only HB2.out hfX (fun y hy => by rw [List.mem_singleton.1 hy]; exact ⟨Nat.le_refl _, hz2⟩) (Nat.le_refl _)
  have hop := HOP.out.below hbX
  have d0 : X.cell? ⟨g, j * 4, none⟩ = some (.int .i64 (nth (ps.map Prod.fst) j).Number) := hop.out.cellAt hjx 0 _ rfl
  have d1 : X.cell? ⟨g, j * 4 + 1, none⟩ = some (.int .i64 (nth (ps.map Prod.fst) j).Node) := hop.out.cellAt hjx 1 _ rfl
  have d2 : X.cell? ⟨g, j * 4 + 2, none⟩ = some (.bool (nth (ps.map Prod.fst) j).Closed) := hop.out.cellAt hjx 2 _ rfl
  have d3 : X.cell? ⟨g, j * 4 + 3, none⟩ = some (.slice (nth (ps.map Prod.fst) j).A (nth (ps.map Prod.fst) j).n (nth (ps.map Prod.fst) j).c) := hop.out.cellAt hjx 3 _ rfl
  have f0 := hop.out.frozenAt (j * 4)
  have f1 := hop.out.frozenAt (j * 4 + 1)
  have f2 := hop.out.frozenAt (j * 4 + 2)
  have f3 := hop.out.frozenAt (j * 4 + 3)
  have HOX := Lib.hid hop
  have HOM : Hid (Own X (V1.heap.size + 1) 9 (.slice A2 M.length c2) M) := HO2.out.only hfX (fun y hy hm => by have := (HO2.out.lt y (by simpa using hy)).1; have := List.mem_singleton.1 hm; omega)
  have HBX := Lib.hid hbX
  have hgX : g < X.heap.size := by omega
  have hgB : g ≠ V1.heap.size := by omega
  clear hop hfX hbX
  go_wp2
  go_ret
  refine retOwnX_mk ?_ ((HOX.out.mono (b := w.heap.size) (Nat.le_refl _)).upd (p' := ((⟨p.1.Number, p.1.Node, p.1.Closed, A2, M.length, c2⟩ : IncidentR), M)) hpq (HOX.out.out.put hjx (⟨p.1.Number, p.1.Node, p.1.Closed, A2, M.length, c2⟩ : IncidentR)) ?_ ?_ ?_) ?_
  · unfold Nest.plain at hp ⊢; rw [List.map_set, hp, HM.out]; unfold adX; rw [HPL.out, hx.out]; rfl
  · refine Own.mono (base := V1.heap.size + 1) ?_ (by have := HW.out.size; omega)
    repeat' (first | exact HOM.out | refine Own.set ?_ (by omega) _)
  · intro x hx1
    refine .inr fun q' r hr hx2 => ?_
    have h1 := (HOM.out.lt x hx1).1
    have h2 := ((HOP.out.inn q' r hr).lt x hx2).2
    omega
  · repeat' (first | exact OnlyF.refl _ _ | refine OnlyF.set ?_ List.mem_cons_self _)
  · repeat' (first | exact bl_trans HW.out HBX.out | refine bl_set ?_ (by have := (HOX.out.out.lt g rfl).1; simp only []; omega) _)

end Go.Proofs.YtpdblmcflniomaaGreatDoor
