/-
  Several texts in one. No conditions.
-/
import Derived.Test.YtpdblmcflniomaaGreatDoorIv13
import Derived.Test.YtpdblmcflniomaaGreatDoorIv4
import Derived.Test.YtpdblmcflniomaaGreatDoorIv2
import Derived.Test.YtpdblmcflniomaaGreatDoorIv0
namespace Go.Proofs.YtpdblmcflniomaaGreatDoor
open Go.RowKit

theorem results_tmp4 {fn : Func} {t u v x : Tmp} (h : fn.results = #[.tmp t, .tmp u, .tmp v, .tmp x]) (tmps : Array Value) (P : Program) (w : World) :
    (results fn tmps).run P w = .ok (.tuple #[tmps.getD t undef, tmps.getD u undef, tmps.getD v undef, tmps.getD x undef]) w := by
  simp [results, h]
theorem haveFirst {p q : Prop} (h : p) (f : p → q) : q := f h
theorem wp_below {P : Program} {c : Code} {Q : Exit → Act → World → Prop} {a : Act} {w : World} (h : ∀ V, Below w.heap.size w V → c.wp P Q a V) : c.wp P Q a w := h w (bl_refl w)
theorem sl_lit' {α : Type} [Flat α] {W : World} {E : TypeId} {xs : List α} {vs : Array Value} {g' n : Nat} (hg : g' = W.heap.size) (hn : n = xs.length) (hv : vs.toList = cellsOf xs) : Sl (W.alloc (.cells vs E)) (some ⟨g', 0, none⟩) n xs := by
  subst hg; subst hn; exact sl_lit W E xs vs hv
theorem lies1 (g : Nat) : Lies [g] g (g + 1) := fun k hk => by have := List.mem_singleton.1 hk; omega
/-- what a drawing function is handed: the code -/
structure CodeIs (w : World) (A : Option Addr) (n : Nat) (cs : List Byt) : Prop where
  sl : Sl w A n cs
  le : (n : Int) ≤ 9223372036854775807
  ok : ∀ x, x ∈ cs → 0 ≤ x.v ∧ x.v ≤ 255
theorem CodeIs.below {w w' : World} {A : Option Addr} {n : Nat} {cs : List Byt} (h : CodeIs w A n cs) (hb : Below w.heap.size w w') : CodeIs w' A n cs := ⟨h.sl.below hb, h.le, h.ok⟩
theorem CodeIs.cur {W : World} {E : TypeId} {A : Option Addr} {n c g : Nat} {cs : List Byt} (h : CodeIs W A n cs) (hg : g = W.heap.size) : Cur (W.alloc (.cells #[.slice A n c, .int .i64 0, .int .u64 0] E)) g 0 := Cur.init' hg h.sl h.le h.ok
theorem Own.onlyF {α : Type} [Flat α] {w w' : World} {base : Nat} {E : TypeId} {v : Value} {xs : List α} (h : Own w base E v xs) {g : Nat} (hf : OnlyF [g] w w') (hg : g < base) : Own w' base E v xs :=
  h.grown (row := some g) ⟨hf.os, hf.tape, hf.output, hf.size, fun k hk hn => hf.block k hk (fun hm => by have := List.mem_singleton.1 hm; rw [this] at hn; exact hn rfl)⟩ (.inr (fun e => by have := h.lt g e; omega))
theorem Cur.onlyF {w w' : World} {g : Nat} {N : Int} (h : Cur w g N) {F : List Nat} (hf : OnlyF F w w') (hF : ∀ k, k ∈ F → g < k) : Cur w' g N := by
  have hl := h.lt
  obtain ⟨A, n, c, cs, a, s, h⟩ := h
  have hg : g ∉ F := fun hm => by have := hF g hm; omega
  refine ⟨A, n, c, cs, a, s, { h with c0 := hf.keeps h.c0 hg, c1 := hf.keeps h.c1 hg, c2 := hf.keeps h.c2 hg, f0 := (hf.frozen hl hg).trans h.f0, f1 := (hf.frozen hl hg).trans h.f1, f2 := (hf.frozen hl hg).trans h.f2, sl := ⟨h.sl.1, fun k x hx => ?_⟩ }⟩
  obtain ⟨b, o, cs', hA, hr, hc⟩ := h.sl.2 k x hx
  refine ⟨b, o, cs', hA, hr, fun j v hv => hf.keeps (hc j v hv) (fun hm => ?_)⟩
  have h1 := h.cb b o hA (by have := (List.getElem?_eq_some_iff.1 hx).1; have := h.sl.1; omega)
  have h2 := hF b hm
  omega
theorem OnlyF.own {F F' : List Nat} {a b c : World} (h : OnlyF F a b) (h' : OnlyF F' b c) (hF : ∀ k, k ∈ F' → a.heap.size ≤ k) : OnlyF F a c :=
  ⟨h'.os.trans h.os, h'.tape.trans h.tape, h'.output.trans h.output, Nat.le_trans h.size h'.size, fun k hk hn => (h'.block k (Nat.lt_of_lt_of_le hk h.size) (fun hm => by have := hF k hm; omega)).trans (h.block k hk hn)⟩
/-- append of one new element to a slice of an own block, in a world in which an older block was written. -/
theorem wpList_app1o {α : Type} [Flat α] {P : Program} {ops : Array Oper} {rest : List Oper} {o : Oper} {a : Act} {Q : Exit → Act → World → Prop} (hgd : o.guard = none) (s x : Operand) (t e : TypeId)
    (ho : o.op = .call { callee := .builtin .append, args := #[s, x], argTypes := #[t, t] }) (he : Elem P t e (Flat.sz α)) {base : Nat} {w : World} {A : Option Addr} {n c g : Nat} {xs : List α} (y : α) (hs : a.eval s = .slice A n c)
    (hown : Own w base e (.slice A n c) xs) (hb : base ≤ w.heap.size) (hx : a.eval x = .slice (some ⟨g, 0, none⟩) 1 1) (hgw : w.heap.size = g) (hlim : n ≤ 274877906944)
    (h : ∀ A' c' w', Own w' base e (.slice A' (n + 1) c') (xs ++ [y]) → (∀ N k, k < base → Cur w k N → Cur w' k N) → (∀ F a0, a0.heap.size ≤ base → OnlyF F a0 w → OnlyF F a0 w') → wpList P ops Q rest (a.put o.dst (.slice A' (n + 1) c')) w') :
    wpList P ops Q (o :: rest) a (w.alloc (.cells (Flat.enc y).toArray e)) := by
  subst hgw
  obtain ⟨i, z, h1, h2, h3, h4, h5, h6⟩ := he
  have hn := hown.sl.1
  have ho1 : (w.alloc (.cells (Flat.enc y).toArray e)).ownsRow base e (Flat.sz α) (.slice A n c) n (cellsOf xs) := by
    have := World.ownsRow.alloc hown (.cells (Flat.enc y).toArray e)
    rwa [hn] at this
  refine wpList_append_own _ hgd s x t ho base e i z (Flat.sz α) i.bytes h1 h2 h3 h4 rfl h6 Flat.pos _ n (cellsOf xs) hs ho1 ⟨w.heap.size, 0, none⟩ 1 1 (Flat.enc y) hx (by rw [Flat.len, Nat.one_mul]) ?_ (Flat.one y) ?_ ?_ ?_ ?_
  · intro j u hu
    rw [addr_add, Nat.zero_add, World.cell?_alloc_new]
    simpa using hu
  · unfold maxLen; omega
  · have : (n + 1) * i.bytes ≤ (n + 1) * 256 := Nat.mul_le_mul_left _ h5
    omega
  · simp only [World.size_alloc]; omega
  · intro v' w' hown' hg _
    have hnx : (xs ++ [y]).length = n + 1 := by simp [hn]
    have hO : Own w' base e v' (xs ++ [y]) := by unfold Own; rw [hnx, cellsOf_append, cellsOf_one]; exact hown'
    obtain ⟨A', c', rfl⟩ := hO.slice
    rw [hnx] at hO ⊢
    have hf := OnlyF.of_gb hg
    have hF : ∀ k, k ∈ (Value.ownBlock (.slice A n c)).toList → base ≤ k := fun k hk => (hown.lt k (by simpa using hk)).1
    exact h A' c' w' hO (fun N k hk hc => (hc.alloc _).onlyF hf (fun j hj => Nat.lt_of_lt_of_le hk (hF j hj))) (fun F a0 ha0 h0 => (h0.alloc _).own hf (fun j hj => Nat.le_trans ha0 (hF j hj)))
/-- the same, with what the append did to memory. -/
theorem wpList_app1q {α : Type} [Flat α] {P : Program} {ops : Array Oper} {rest : List Oper} {o : Oper} {a : Act} {Q : Exit → Act → World → Prop} (hgd : o.guard = none) (s x : Operand) (t e : TypeId)
    (ho : o.op = .call { callee := .builtin .append, args := #[s, x], argTypes := #[t, t] }) (he : Elem P t e (Flat.sz α)) {base : Nat} {w : World} {A : Option Addr} {n c g : Nat} {xs : List α} (y : α) (hs : a.eval s = .slice A n c)
    (hown : Own w base e (.slice A n c) xs) (hb : base ≤ w.heap.size) (hx : a.eval x = .slice (some ⟨g, 0, none⟩) 1 1) (hgw : w.heap.size = g) (hlim : n ≤ 274877906944)
    (h : ∀ A' c' w', Own w' base e (.slice A' (n + 1) c') (xs ++ [y]) → (w.alloc (.cells (Flat.enc y).toArray e)).grownBy w' (Value.ownBlock (.slice A n c)) → wpList P ops Q rest (a.put o.dst (.slice A' (n + 1) c')) w') :
    wpList P ops Q (o :: rest) a (w.alloc (.cells (Flat.enc y).toArray e)) := by
  subst hgw
  obtain ⟨i, z, h1, h2, h3, h4, h5, h6⟩ := he
  have hn := hown.sl.1
  have ho1 : (w.alloc (.cells (Flat.enc y).toArray e)).ownsRow base e (Flat.sz α) (.slice A n c) n (cellsOf xs) := by
    have := World.ownsRow.alloc hown (.cells (Flat.enc y).toArray e)
    rwa [hn] at this
  refine wpList_append_own _ hgd s x t ho base e i z (Flat.sz α) i.bytes h1 h2 h3 h4 rfl h6 Flat.pos _ n (cellsOf xs) hs ho1 ⟨w.heap.size, 0, none⟩ 1 1 (Flat.enc y) hx (by rw [Flat.len, Nat.one_mul]) ?_ (Flat.one y) ?_ ?_ ?_ ?_
  · intro j u hu
    rw [addr_add, Nat.zero_add, World.cell?_alloc_new]
    simpa using hu
  · unfold maxLen; omega
  · have : (n + 1) * i.bytes ≤ (n + 1) * 256 := Nat.mul_le_mul_left _ h5
    omega
  · simp only [World.size_alloc]; omega
  · intro v' w' hown' hg _
    have hnx : (xs ++ [y]).length = n + 1 := by simp [hn]
    have hO : Own w' base e v' (xs ++ [y]) := by unfold Own; rw [hnx, cellsOf_append, cellsOf_one]; exact hown'
    obtain ⟨A', c', rfl⟩ := hO.slice
    rw [hnx] at hO ⊢
    exact h A' c' w' hO hg
theorem Cur.grown {α : Type} [Flat α] {w w' : World} {base : Nat} {E : TypeId} {v : Value} {xs : List α} {k : Nat} {N : Int} (hc : Cur w k N) (hown : Own w base E v xs) {o : Obj} (hg : (w.alloc o).grownBy w' v.ownBlock) (hk : k < base) : Cur w' k N :=
  (hc.alloc _).onlyF (OnlyF.of_gb hg) (fun j hj => Nat.lt_of_lt_of_le hk (hown.lt j (by simpa using hj)).1)
theorem OnlyF.grown {α : Type} [Flat α] {w w' a0 : World} {base : Nat} {E : TypeId} {v : Value} {xs : List α} {F : List Nat} (h : OnlyF F a0 w) (hown : Own w base E v xs) {o : Obj} (hg : (w.alloc o).grownBy w' v.ownBlock) (hk : a0.heap.size ≤ base) : OnlyF F a0 w' :=
  (h.alloc _).own (OnlyF.of_gb hg) (fun j hj => Nat.le_trans hk (hown.lt j (by simpa using hj)).1)
theorem Own.lit1 {α : Type} [Flat α] (w : World) (E : TypeId) {base : Nat} (hb : base ≤ w.heap.size) (y : α) : Own (w.alloc (.cells (Flat.enc y).toArray E)) base E (.slice (some ⟨w.heap.size, 0, none⟩) 1 1) [y] := by
  have h := World.ownsRow_lit (base := base) (e := E) (size := Flat.sz α) w (Flat.enc y).toArray 1 hb (by unfold maxLen; omega) (by simp [Flat.len])
  unfold Own
  rw [cellsOf_one]
  simpa using h

end Go.Proofs.YtpdblmcflniomaaGreatDoor

namespace Go.Proofs.YtpdblmcflniomaaGreatDoor
open Go.RowKit

theorem bl_irr : ∀ x : List UInt8, Op.bytesLess x x = false
  | [] => by simp [Op.bytesLess]
  | a :: x => by simp [Op.bytesLess, bl_irr x]
theorem bl_tr : ∀ {x y z : List UInt8}, Op.bytesLess x y = true → Op.bytesLess y z = true → Op.bytesLess x z = true
  | x, y, [], _, h => by cases y <;> simp [Op.bytesLess] at h
  | x, [], _ :: _, h, _ => by cases x <;> simp [Op.bytesLess] at h
  | [], _ :: _, _ :: _, _, _ => by simp [Op.bytesLess]
  | a :: x, b :: y, c :: z, h1, h2 => by
    simp only [Op.bytesLess] at h1 h2 ⊢
    have e1 : ∀ u v : UInt8, (u < v) ↔ u.toNat < v.toNat := fun u v => Iff.rfl
    have e2 : ∀ u v : UInt8, (u = v) ↔ u.toNat = v.toNat := fun u v => UInt8.toNat_inj.symm
    have ih := @bl_tr x y z
    by_cases p1 : a < b <;> by_cases q1 : a = b <;> by_cases p2 : b < c <;> by_cases q2 : b = c <;> by_cases p3 : a < c <;> by_cases q3 : a = c <;> simp_all <;> omega
/-- a list's names rise -/
def Rises {α : Type} [Inhabited α] (f : α → ByteArray) (xs : List α) : Prop := ∀ j k, j < k → k < xs.length → Op.bytesLess (f (nth xs j)).toList (f (nth xs k)).toList = true
theorem rises_of {α : Type} [Inhabited α] {f : α → ByteArray} {xs : List α} (h : ∀ k, 0 < k → k < xs.length → Op.bytesLess (f (nth xs (k - 1))).toList (f (nth xs k)).toList = true) : Rises f xs := by
  intro j k
  induction k with
  | zero => omega
  | succ k ih =>
    intro hj hk
    have h1 := h (k + 1) (by omega) hk
    simp only [Nat.add_sub_cancel] at h1
    by_cases e : j = k
    · subst e; exact h1
    · exact bl_tr (ih (by omega) (by omega)) h1
/-- where the first name that is not less stands, the name itself stands, or nowhere -/
def isNm {α : Type} (f : α → ByteArray) (nm : ByteArray) (x : α) : Bool := (f x).toList == nm.toList
theorem low_hit {α : Type} [Inhabited α] {f : α → ByteArray} {xs : List α} {nm : ByteArray} {k : Nat} (hlo : ∀ j, j < k → Op.bytesLess (f (nth xs j)).toList nm.toList = true) (hk : k < xs.length)
    (h : ((f (nth xs k)).toList == nm.toList) = true) : indexF (isNm f nm) xs = k := by
  refine indexF_hit hk h fun j hj => ?_
  have h1 := hlo j hj
  unfold isNm
  cases he : (f (nth xs j)).toList == nm.toList with
  | false => rfl
  | true => have he := eq_of_beq he; rw [he, bl_irr] at h1; cases h1
theorem low_miss {α : Type} [Inhabited α] {f : α → ByteArray} {xs : List α} {nm : ByteArray} {k : Nat} (hr : Rises f xs) (hlo : ∀ j, j < k → Op.bytesLess (f (nth xs j)).toList nm.toList = true)
    (h : k < xs.length → Op.bytesLess (f (nth xs k)).toList nm.toList = false ∧ ((f (nth xs k)).toList == nm.toList) = false) : indexF (isNm f nm) xs = -1 := by
  refine indexF_none fun j hj => ?_
  unfold isNm
  cases he : (f (nth xs j)).toList == nm.toList with
  | false => rfl
  | true =>
    have he := eq_of_beq he
    by_cases h1 : j < k
    · have h2 := hlo j h1; rw [he, bl_irr] at h2; cases h2
    · have hk : k < xs.length := by omega
      obtain ⟨h2, h3⟩ := h hk
      by_cases h4 : j = k
      · subst h4; rw [he] at h3; simp at h3
      · have h5 := hr k j (by omega) hj
        rw [he, h2] at h5; cases h5
end Go.Proofs.YtpdblmcflniomaaGreatDoor

namespace Go.Proofs.YtpdblmcflniomaaGreatDoor
open Go.RowKit

theorem bl_tot : ∀ {x y : List UInt8}, Op.bytesLess x y = false → Op.bytesLess y x = false → x = y
  | [], [], _, _ => rfl
  | [], _ :: _, h, _ => by simp [Op.bytesLess] at h
  | _ :: _, [], _, h => by simp [Op.bytesLess] at h
  | a :: x, b :: y, h1, h2 => by
    simp only [Op.bytesLess] at h1 h2
    have e1 : ∀ u v : UInt8, (u < v) ↔ u.toNat < v.toNat := fun u v => Iff.rfl
    have e2 : ∀ u v : UInt8, (u = v) ↔ u.toNat = v.toNat := fun u v => UInt8.toNat_inj.symm
    have ih := @bl_tot x y
    by_cases q1 : a = b
    · subst q1
      simp at h1 h2
      rw [ih h1 h2]
    · have hne : ¬ a.toNat = b.toNat := fun e => q1 ((e2 a b).2 e)
      have p : a < b ∨ b < a := by simp only [e1]; omega
      rcases p with p | p
      · simp [p] at h1
      · simp [p] at h2
theorem bl_asym {x y : List UInt8} (h : Op.bytesLess x y = true) : Op.bytesLess y x = false := by
  cases h2 : Op.bytesLess y x with
  | false => rfl
  | true => have := bl_tr h h2; rw [bl_irr] at this; cases this
def cmpS (a b : ByteArray) : Int := if Op.bytesLess a.toList b.toList then -1 else if Op.bytesLess b.toList a.toList then 1 else 0
def cmpI (a b : Int) : Int := if a < b then -1 else if b < a then 1 else 0
theorem nanS_any (a : ByteArray) (w : World) : Calls Tryz.prog 132 #[.string a] w fun e w' => e = .returned (.bool false) ∧ w' = w := by
  go_enter Tryz.func132, Tryz.ntmps132
  go_wp2
  go_ret
  exact ⟨rfl, rfl⟩
def or2 (a b : Int) : Int := if a = 0 then b else a
end Go.Proofs.YtpdblmcflniomaaGreatDoor
