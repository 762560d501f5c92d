/-
  Several texts in one. No conditions.
-/
import Derived.Test.YtfglmghcgoembaaGreatDoorHx8
import Derived.Test.YtfglmghcgoembaaGreatDoorHiL
import Derived.Deep.DeepCutAuto
namespace Go.Proofs.YtfglmghcgoembaaGreatDoor
open Go.RowKit

theorem results_tmp4 {fn : Func} {t u v x : Tmp} (h : fn.results = #[.tmp t, .tmp u, .tmp v, .tmp x]) (tmps : Array Value) (P : Program) (w : World) :
    (results fn tmps).run P w = .ok (.tuple #[tmps.getD t undef, tmps.getD u undef, tmps.getD v undef, tmps.getD x undef]) w := by
  simp [results, h]
theorem haveFirst {p q : Prop} (h : p) (f : p → q) : q := f h
theorem wp_below {P : Program} {c : Code} {Q : Exit → Act → World → Prop} {a : Act} {w : World} (h : ∀ V, Below w.heap.size w V → c.wp P Q a V) : c.wp P Q a w := h w (bl_refl w)
theorem sl_lit' {α : Type} [Flat α] {W : World} {E : TypeId} {xs : List α} {vs : Array Value} {g' n : Nat} (hg : g' = W.heap.size) (hn : n = xs.length) (hv : vs.toList = cellsOf xs) : Sl (W.alloc (.cells vs E)) (some ⟨g', 0, none⟩) n xs := by
  subst hg; subst hn; exact sl_lit W E xs vs hv
theorem lies1 (g : Nat) : Lies [g] g (g + 1) := fun k hk => by have := List.mem_singleton.1 hk; omega
/-- what a drawing function is handed: the code -/
structure CodeIs (w : World) (A : Option Addr) (n : Nat) (cs : List Byt) : Prop where
  sl : Sl w A n cs
  le : (n : Int) ≤ 9223372036854775807
  ok : ∀ x, x ∈ cs → 0 ≤ x.v ∧ x.v ≤ 255
theorem CodeIs.below {w w' : World} {A : Option Addr} {n : Nat} {cs : List Byt} (h : CodeIs w A n cs) (hb : Below w.heap.size w w') : CodeIs w' A n cs := ⟨h.sl.below hb, h.le, h.ok⟩
theorem CodeIs.cur {W : World} {E : TypeId} {A : Option Addr} {n c g : Nat} {cs : List Byt} (h : CodeIs W A n cs) (hg : g = W.heap.size) : Cur (W.alloc (.cells #[.slice A n c, .int .i64 0, .int .u64 0] E)) g 0 := Cur.init' hg h.sl h.le h.ok
theorem Own.onlyF {α : Type} [Flat α] {w w' : World} {base : Nat} {E : TypeId} {v : Value} {xs : List α} (h : Own w base E v xs) {g : Nat} (hf : OnlyF [g] w w') (hg : g < base) : Own w' base E v xs :=
  h.grown (row := some g) ⟨hf.os, hf.tape, hf.output, hf.size, fun k hk hn => hf.block k hk (fun hm => by have := List.mem_singleton.1 hm; rw [this] at hn; exact hn rfl)⟩ (.inr (fun e => by have := h.lt g e; omega))
theorem Cur.onlyF {w w' : World} {g : Nat} {N : Int} (h : Cur w g N) {F : List Nat} (hf : OnlyF F w w') (hF : ∀ k, k ∈ F → g < k) : Cur w' g N := by
  have hl := h.lt
  obtain ⟨A, n, c, cs, a, s, h⟩ := h
  have hg : g ∉ F := fun hm => by have := hF g hm; omega
  refine ⟨A, n, c, cs, a, s, { h with c0 := hf.keeps h.c0 hg, c1 := hf.keeps h.c1 hg, c2 := hf.keeps h.c2 hg, f0 := (hf.frozen hl hg).trans h.f0, f1 := (hf.frozen hl hg).trans h.f1, f2 := (hf.frozen hl hg).trans h.f2, sl := ⟨h.sl.1, fun k x hx => ?_⟩ }⟩
  obtain ⟨b, o, cs', hA, hr, hc⟩ := h.sl.2 k x hx
  refine ⟨b, o, cs', hA, hr, fun j v hv => hf.keeps (hc j v hv) (fun hm => ?_)⟩
  have h1 := h.cb b o hA (by have := (List.getElem?_eq_some_iff.1 hx).1; have := h.sl.1; omega)
  have h2 := hF b hm
  omega
theorem OnlyF.own {F F' : List Nat} {a b c : World} (h : OnlyF F a b) (h' : OnlyF F' b c) (hF : ∀ k, k ∈ F' → a.heap.size ≤ k) : OnlyF F a c :=
  ⟨h'.os.trans h.os, h'.tape.trans h.tape, h'.output.trans h.output, Nat.le_trans h.size h'.size, fun k hk hn => (h'.block k (Nat.lt_of_lt_of_le hk h.size) (fun hm => by have := hF k hm; omega)).trans (h.block k hk hn)⟩
/-- append of one new element to a slice of an own block, in a world in which an older block was written. -/
theorem wpList_app1o {α : Type} [Flat α] {P : Program} {ops : Array Oper} {rest : List Oper} {o : Oper} {a : Act} {Q : Exit → Act → World → Prop} (hgd : o.guard = none) (s x : Operand) (t e : TypeId)
    (ho : o.op = .call { callee := .builtin .append, args := #[s, x], argTypes := #[t, t] }) (he : Elem P t e (Flat.sz α)) {base : Nat} {w : World} {A : Option Addr} {n c g : Nat} {xs : List α} (y : α) (hs : a.eval s = .slice A n c)
    (hown : Own w base e (.slice A n c) xs) (hb : base ≤ w.heap.size) (hx : a.eval x = .slice (some ⟨g, 0, none⟩) 1 1) (hgw : w.heap.size = g) (hlim : n ≤ 274877906944)
    (h : ∀ A' c' w', Own w' base e (.slice A' (n + 1) c') (xs ++ [y]) → (∀ N k, k < base → Cur w k N → Cur w' k N) → (∀ F a0, a0.heap.size ≤ base → OnlyF F a0 w → OnlyF F a0 w') → wpList P ops Q rest (a.put o.dst (.slice A' (n + 1) c')) w') :
    wpList P ops Q (o :: rest) a (w.alloc (.cells (Flat.enc y).toArray e)) := by
  subst hgw
  obtain ⟨i, z, h1, h2, h3, h4, h5, h6⟩ := he
  have hn := hown.sl.1
  have ho1 : (w.alloc (.cells (Flat.enc y).toArray e)).ownsRow base e (Flat.sz α) (.slice A n c) n (cellsOf xs) := by
    have := World.ownsRow.alloc hown (.cells (Flat.enc y).toArray e)
    rwa [hn] at this
  refine wpList_append_own _ hgd s x t ho base e i z (Flat.sz α) i.bytes h1 h2 h3 h4 rfl h6 Flat.pos _ n (cellsOf xs) hs ho1 ⟨w.heap.size, 0, none⟩ 1 1 (Flat.enc y) hx (by rw [Flat.len, Nat.one_mul]) ?_ (Flat.one y) ?_ ?_ ?_ ?_
  · intro j u hu
    rw [addr_add, Nat.zero_add, World.cell?_alloc_new]
    simpa using hu
  · unfold maxLen; omega
  · have : (n + 1) * i.bytes ≤ (n + 1) * 256 := Nat.mul_le_mul_left _ h5
    omega
  · simp only [World.size_alloc]; omega
  · intro v' w' hown' hg _
    have hnx : (xs ++ [y]).length = n + 1 := by simp [hn]
    have hO : Own w' base e v' (xs ++ [y]) := by unfold Own; rw [hnx, cellsOf_append, cellsOf_one]; exact hown'
    obtain ⟨A', c', rfl⟩ := hO.slice
    rw [hnx] at hO ⊢
    have hf := OnlyF.of_gb hg
    have hF : ∀ k, k ∈ (Value.ownBlock (.slice A n c)).toList → base ≤ k := fun k hk => (hown.lt k (by simpa using hk)).1
    exact h A' c' w' hO (fun N k hk hc => (hc.alloc _).onlyF hf (fun j hj => Nat.lt_of_lt_of_le hk (hF j hj))) (fun F a0 ha0 h0 => (h0.alloc _).own hf (fun j hj => Nat.le_trans ha0 (hF j hj)))
/-- the same, with what the append did to memory. -/
theorem wpList_app1q {α : Type} [Flat α] {P : Program} {ops : Array Oper} {rest : List Oper} {o : Oper} {a : Act} {Q : Exit → Act → World → Prop} (hgd : o.guard = none) (s x : Operand) (t e : TypeId)
    (ho : o.op = .call { callee := .builtin .append, args := #[s, x], argTypes := #[t, t] }) (he : Elem P t e (Flat.sz α)) {base : Nat} {w : World} {A : Option Addr} {n c g : Nat} {xs : List α} (y : α) (hs : a.eval s = .slice A n c)
    (hown : Own w base e (.slice A n c) xs) (hb : base ≤ w.heap.size) (hx : a.eval x = .slice (some ⟨g, 0, none⟩) 1 1) (hgw : w.heap.size = g) (hlim : n ≤ 274877906944)
    (h : ∀ A' c' w', Own w' base e (.slice A' (n + 1) c') (xs ++ [y]) → (w.alloc (.cells (Flat.enc y).toArray e)).grownBy w' (Value.ownBlock (.slice A n c)) → wpList P ops Q rest (a.put o.dst (.slice A' (n + 1) c')) w') :
    wpList P ops Q (o :: rest) a (w.alloc (.cells (Flat.enc y).toArray e)) := by
  subst hgw
  obtain ⟨i, z, h1, h2, h3, h4, h5, h6⟩ := he
  have hn := hown.sl.1
  have ho1 : (w.alloc (.cells (Flat.enc y).toArray e)).ownsRow base e (Flat.sz α) (.slice A n c) n (cellsOf xs) := by
    have := World.ownsRow.alloc hown (.cells (Flat.enc y).toArray e)
    rwa [hn] at this
  refine wpList_append_own _ hgd s x t ho base e i z (Flat.sz α) i.bytes h1 h2 h3 h4 rfl h6 Flat.pos _ n (cellsOf xs) hs ho1 ⟨w.heap.size, 0, none⟩ 1 1 (Flat.enc y) hx (by rw [Flat.len, Nat.one_mul]) ?_ (Flat.one y) ?_ ?_ ?_ ?_
  · intro j u hu
    rw [addr_add, Nat.zero_add, World.cell?_alloc_new]
    simpa using hu
  · unfold maxLen; omega
  · have : (n + 1) * i.bytes ≤ (n + 1) * 256 := Nat.mul_le_mul_left _ h5
    omega
  · simp only [World.size_alloc]; omega
  · intro v' w' hown' hg _
    have hnx : (xs ++ [y]).length = n + 1 := by simp [hn]
    have hO : Own w' base e v' (xs ++ [y]) := by unfold Own; rw [hnx, cellsOf_append, cellsOf_one]; exact hown'
    obtain ⟨A', c', rfl⟩ := hO.slice
    rw [hnx] at hO ⊢
    exact h A' c' w' hO hg
theorem Cur.grown {α : Type} [Flat α] {w w' : World} {base : Nat} {E : TypeId} {v : Value} {xs : List α} {k : Nat} {N : Int} (hc : Cur w k N) (hown : Own w base E v xs) {o : Obj} (hg : (w.alloc o).grownBy w' v.ownBlock) (hk : k < base) : Cur w' k N :=
  (hc.alloc _).onlyF (OnlyF.of_gb hg) (fun j hj => Nat.lt_of_lt_of_le hk (hown.lt j (by simpa using hj)).1)
theorem OnlyF.grown {α : Type} [Flat α] {w w' a0 : World} {base : Nat} {E : TypeId} {v : Value} {xs : List α} {F : List Nat} (h : OnlyF F a0 w) (hown : Own w base E v xs) {o : Obj} (hg : (w.alloc o).grownBy w' v.ownBlock) (hk : a0.heap.size ≤ base) : OnlyF F a0 w' :=
  (h.alloc _).own (OnlyF.of_gb hg) (fun j hj => Nat.le_trans hk (hown.lt j (by simpa using hj)).1)
theorem Own.lit1 {α : Type} [Flat α] (w : World) (E : TypeId) {base : Nat} (hb : base ≤ w.heap.size) (y : α) : Own (w.alloc (.cells (Flat.enc y).toArray E)) base E (.slice (some ⟨w.heap.size, 0, none⟩) 1 1) [y] := by
  have h := World.ownsRow_lit (base := base) (e := E) (size := Flat.sz α) w (Flat.enc y).toArray 1 hb (by unfold maxLen; omega) (by simp [Flat.len])
  unfold Own
  rw [cellsOf_one]
  simpa using h

end Go.Proofs.YtfglmghcgoembaaGreatDoor

namespace Go.Proofs.YtfglmghcgoembaaGreatDoor
open Go.RowKit

set_option maxRecDepth 100000 in
set_option maxHeartbeats 8000000 in
theorem entryWords_any (g : Nat) (N : Int) (w : World) (hc : Cur w g N) (hN : N ≤ 900000000) :
    Calls Tryz.prog 50 #[.pointer (some ⟨g, 0, none⟩)] w fun e w' => ∃ s : ByteArray, e = .returned (.string s) ∧ s.size ≤ 48 ∧ Cur w' g (N + 8) ∧ OnlyF [g] w w' := by
  have lg0 := hc.lt
  go_enter Tryz.func50, Tryz.ntmps50
  go_wp2_with fail
  refine (one_any g _ 40 _ (hc.below (by repeat' (first | exact bl_refl _ | refine bl_alloc ?_ _ | refine bl_drew ?_ | refine bl_set ?_ (by simp; try omega) _))) (by omega) (by omega)).mono ?_
  rintro e V1 ⟨b, rfl, hc1, hf1⟩
  have lg1 : g < V1.heap.size := hc1.lt
  have hF1 : OnlyF [g] w V1 := (OnlyF.below (a := w) (by repeat' (first | exact bl_refl _ | refine bl_alloc ?_ _ | refine bl_drew ?_ | refine bl_set ?_ (by simp; try omega) _))).trans hf1
  cases b
  · go_wp2_with fail
    refine (of_any g _ _ _ _ [⟨#[112, 49, 32, 99, 97, 108, 108, 101, 100]⟩, ⟨#[112, 49, 32, 109, 111, 118, 105, 110, 103]⟩, ⟨#[112, 50, 32, 116, 104, 101, 114, 101]⟩, ⟨#[102, 105, 114, 101, 32, 97, 116, 32, 55, 58, 51, 48]⟩, ⟨#[99, 97, 110, 99, 101, 108, 32, 49]⟩, ⟨#[99, 97, 110, 99, 101, 108, 32, 50]⟩, ⟨#[99, 97, 110, 99, 101, 108, 32, 48, 51]⟩, ⟨#[99, 97, 110, 99, 101, 108]⟩, ⟨#[97, 105, 114, 32, 108, 111, 119, 32, 45, 32, 114, 101, 99, 97, 108, 108]⟩, ⟨#[111, 107]⟩] _ (hc1.below (by repeat' (first | exact bl_refl _ | refine bl_alloc ?_ _ | refine bl_drew ?_ | refine bl_set ?_ (by simp; try omega) _))) (by omega) (by exact sl_lit' (by simp) rfl rfl) (by omega) (by omega) (by rintro b o h _; injection h with h; injection h with h1; omega)).mono ?_
    rintro e V2 ⟨s, rfl, hs, hc2, hf2⟩
    have lg2 : g < V2.heap.size := hc2.lt
    have hF2 : OnlyF [g] w V2 := hF1.trans ((OnlyF.below (a := V1) (by repeat' (first | exact bl_refl _ | refine bl_alloc ?_ _ | refine bl_drew ?_ | refine bl_set ?_ (by simp; try omega) _))).trans hf2)
    have hz : s.size ≤ 16 := by simp only [List.mem_cons, List.not_mem_nil, or_false] at hs; rcases hs with rfl | rfl | rfl | rfl | rfl | rfl | rfl | rfl | rfl | rfl <;> decide
    clear hs
    go_wp2_with fail
    refine (one_any g _ 20 _ (hc2.below (by repeat' (first | exact bl_refl _ | refine bl_alloc ?_ _ | refine bl_drew ?_ | refine bl_set ?_ (by simp; try omega) _))) (by omega) (by omega)).mono ?_
    rintro e V3 ⟨b2, rfl, hc3, hf3⟩
    have lg3 : g < V3.heap.size := hc3.lt
    have hF3 : OnlyF [g] w V3 := hF2.trans ((OnlyF.below (a := V2) (by repeat' (first | exact bl_refl _ | refine bl_alloc ?_ _ | refine bl_drew ?_ | refine bl_set ?_ (by simp; try omega) _))).trans hf3)
    cases b2
    · go_wp2
      go_ret
      exact ⟨s, rfl, by omega, hc3.mono (by omega), hF3⟩
    · go_wp2_with fail
      refine (pick_any g _ 2 _ (hc3.below (by repeat' (first | exact bl_refl _ | refine bl_alloc ?_ _ | refine bl_drew ?_ | refine bl_set ?_ (by simp; try omega) _))) (by omega) (by omega)).mono ?_
      rintro e V4 ⟨q, rfl, hq, hc4, hf4⟩
      have lg4 : g < V4.heap.size := hc4.lt
      have hF4 : OnlyF [g] w V4 := hF3.trans ((OnlyF.below (a := V3) (by repeat' (first | exact bl_refl _ | refine bl_alloc ?_ _ | refine bl_drew ?_ | refine bl_set ?_ (by simp; try omega) _))).trans hf4)
      have hq1 := hq.2 (by omega)
      have hq0 := hq.1
      have hw : IntKind.i64.wrap (40 + q) = 40 + q := wrapi (by omega) (by omega)
      clear hq
      go_wp2
      go_loop [3] (fun sv => ∃ s : ByteArray, sv = .string s ∧ s.size ≤ 41) (fun sv => 50 - (match sv with | .string s => s.size | _ => 0))
      case atStart => exact ⟨s, rfl, by omega⟩
      case round =>
        obtain ⟨t, rfl, ht⟩ := hrel
        by_cases hlt : (t.size : Int) < 40 + q
        · have hd : decide ((t.size : Int) < 40 + q) = true := decide_eq_true hlt
          have s1 : (⟨#[120]⟩ : ByteArray).size = 1 := rfl
          have hsz : (t ++ ⟨#[120]⟩ : ByteArray).size = t.size + 1 := by rw [ByteArray.size_append, s1]
          have ht40 : t.size ≤ 40 := by omega
          go_wp2
          go_round
          case rel => exact ⟨t ++ ⟨#[120]⟩, rfl, by rw [hsz]; omega⟩
          case measure => simp only [hsz]; omega
        · have hd : decide ((t.size : Int) < 40 + q) = false := decide_eq_false hlt
          go_wp2
          go_ret
          exact ⟨t, rfl, by omega, hc4.mono (by omega), hF4⟩
  · go_wp2_with fail
    refine (of_any g _ _ _ _ [⟨#[]⟩, ⟨#[32, 120]⟩, ⟨#[120, 32]⟩, ⟨#[65]⟩, ⟨#[120, 44, 121]⟩, ⟨#[102, 111, 114, 116, 121, 32, 98, 121, 116, 101, 115, 32, 111, 102, 32, 116, 101, 120, 116, 44, 32, 111, 110, 101, 32, 109, 111, 114, 101, 32, 116, 104, 97, 110, 32, 97, 108, 108, 111, 119]⟩] _ (hc1.below (by repeat' (first | exact bl_refl _ | refine bl_alloc ?_ _ | refine bl_drew ?_ | refine bl_set ?_ (by simp; try omega) _))) (by omega) (by exact sl_lit' (by simp) rfl rfl) (by omega) (by omega) (by rintro b o h _; injection h with h; injection h with h1; omega)).mono ?_
    rintro e V2 ⟨s, rfl, hs, hc2, hf2⟩
    have lg2 : g < V2.heap.size := hc2.lt
    have hF2 : OnlyF [g] w V2 := hF1.trans ((OnlyF.below (a := V1) (by repeat' (first | exact bl_refl _ | refine bl_alloc ?_ _ | refine bl_drew ?_ | refine bl_set ?_ (by simp; try omega) _))).trans hf2)
    have hz : s.size ≤ 40 := by simp only [List.mem_cons, List.not_mem_nil, or_false] at hs; rcases hs with rfl | rfl | rfl | rfl | rfl | rfl <;> decide
    clear hs
    go_wp2
    go_ret
    exact ⟨s, rfl, by omega, hc2.mono (by omega), hF2⟩
end Go.Proofs.YtfglmghcgoembaaGreatDoor
