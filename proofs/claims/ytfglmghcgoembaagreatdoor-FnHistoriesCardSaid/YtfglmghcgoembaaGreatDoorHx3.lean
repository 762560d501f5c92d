/-
  Several texts in one. No conditions.
-/
import Derived.Test.YtfglmghcgoembaaGreatDoorHx2
namespace Go.Proofs.YtfglmghcgoembaaGreatDoor
open Go.RowKit
/-- Of what was there only the blocks of F may have turned. -/
structure OnlyF (F : List Nat) (w w' : World) : Prop where
  os : w'.os = w.os
  tape : w'.tape = w.tape
  output : w'.output = w.output
  size : w.heap.size ≤ w'.heap.size
  block : ∀ k, k < w.heap.size → k ∉ F → w'.heap[k]? = w.heap[k]?
theorem OnlyF.of_gb {w w' : World} {v : Value} (h : w.grownBy w' v.ownBlock) : OnlyF v.ownBlock.toList w w' :=
  ⟨h.os, h.tape, h.output, h.size, fun k hk hn => h.block k hk (fun e => hn (by rw [← e]; simp))⟩
theorem OnlyF.refl (F : List Nat) (w : World) : OnlyF F w w := ⟨rfl, rfl, rfl, Nat.le_refl _, fun _ _ _ => rfl⟩
theorem OnlyF.trans {F : List Nat} {a b c : World} (h : OnlyF F a b) (k : OnlyF F b c) : OnlyF F a c :=
  ⟨k.os.trans h.os, k.tape.trans h.tape, k.output.trans h.output, Nat.le_trans h.size k.size, fun i hi hn => (k.block i (Nat.lt_of_lt_of_le hi h.size) hn).trans (h.block i hi hn)⟩
theorem OnlyF.below {F : List Nat} {a b : World} (h : Below a.heap.size a b) : OnlyF F a b := ⟨h.os, h.tape, h.output, h.size, fun i hi _ => h.block i hi⟩
theorem OnlyF.mono {F G : List Nat} {a b : World} (h : OnlyF F a b) (hs : ∀ k ∈ F, k ∈ G) : OnlyF G a b := ⟨h.os, h.tape, h.output, h.size, fun i hi hn => h.block i hi (fun hm => hn (hs i hm))⟩
theorem OnlyF.keeps {F : List Nat} {a b : World} (h : OnlyF F a b) {ad : Addr} {v : Value} (hv : a.cell? ad = some v) (hn : ad.block ∉ F) : b.cell? ad = some v :=
  (World.cell?_of_block (h.block ad.block (World.block_lt_of_cell? a ad hv) hn)).trans hv
/-- The blocks of F lie from lo on and below hi. -/
def Lies (F : List Nat) (lo hi : Nat) : Prop := ∀ k, k ∈ F → lo ≤ k ∧ k < hi
theorem Lies.apart {F G : List Nat} {a b c d : Nat} (h : Lies F a b) (k : Lies G c d) (hle : b ≤ c ∨ d ≤ a) : ∀ i, i ∈ F → i ∉ G := fun i hi hg => by
  have h1 := h i hi; have h2 := k i hg; omega
theorem Own.lies {α : Type} [Flat α] {w : World} {base : Nat} {E : TypeId} {v : Value} {xs : List α} (h : Own w base E v xs) : Lies v.ownBlock.toList base w.heap.size := fun k hk => h.lt k (by simpa using hk)
theorem Own.only {α : Type} [Flat α] {w w' : World} {base : Nat} {E : TypeId} {v : Value} {xs : List α} {F : List Nat} (h : Own w base E v xs) (hf : OnlyF F w w') (ha : ∀ k, k ∈ v.ownBlock.toList → k ∉ F) : Own w' base E v xs := by
  refine ⟨h.1, ?_⟩
  rcases h.2 with h2 | ⟨g, cap, cur, rfl, hb, hg, r⟩
  · exact .inl h2
  · refine .inr ⟨g, cap, cur, rfl, hb, ?_, r⟩
    rw [hf.block g (Array.getElem?_eq_some_iff.1 hg).1 (ha g (by simp [Value.ownBlock]))]
    exact hg
theorem below_only {F : List Nat} {w a b : World} {lo hi : Nat} (h : Below w.heap.size w a) (hf : OnlyF F a b) (hl : Lies F lo hi) (hle : w.heap.size ≤ lo) : Below w.heap.size w b :=
  h.trans ⟨hf.os, hf.tape, hf.output, hf.size, fun k hk => hf.block k (Nat.lt_of_lt_of_le hk h.size) (fun hm => by have := hl k hm; omega)⟩
theorem sameB_refl {α : Type} [DecidableEq α] (x : α) : sameB x x = true := sameB_iff.2 rfl
end Go.Proofs.YtfglmghcgoembaaGreatDoor

namespace Go.Proofs.YtfglmghcgoembaaGreatDoor
open Go.RowKit
section
variable {P : Program} (w : World)
theorem run_append_of_nil (base : Nat) (t ty e : TypeId) (i : TypeInfo) (size : Nat) (ht : P.underlying t = some (.slice e)) (hi : P.info? e = some i)
    (v : Value) (n : Nat) (xs : List Value) (hown : w.ownsRow base e size v n xs) (c : Nat) : (Builtin.append_ #[t, t] ty #[v, .slice none 0 c]).run P w = .ok v w := by
  rcases hown.2 with ⟨rfl, rfl⟩ | ⟨g, cap, cur, rfl, _, _, hnc, _⟩
  · simp [Builtin.append_, run_underlying ht, sizeOf, typeInfo, hi, Builtin.lenOf, Builtin.firstCells]
  · simp [Builtin.append_, run_underlying ht, sizeOf, typeInfo, hi, Builtin.lenOf, Builtin.firstCells, hnc, storeCells]
end
theorem Sl.none_len {α : Type} [Deep α] {w : World} {n : Nat} {xs : List α} (h : Sl w none n xs) : n = 0 ∧ xs = [] := by
  cases xs with
  | nil => exact ⟨h.1.symm, rfl⟩
  | cons x xs => obtain ⟨b, o, cs, hA, _⟩ := h.2 0 x rfl; cases hA
theorem Sl.zero {α : Type} [Deep α] {w w' : World} {A B : Option Addr} {xs : List α} (h : Sl w A 0 xs) : Sl w' B 0 xs := by
  have hx : xs = [] := List.eq_nil_of_length_eq_zero h.1
  subst hx; exact Sl.nil _ _
/-- what a slice reads as, cell by cell -/
theorem Sl.cells {α : Type} [Flat α] {w : World} {b o n : Nat} {xs : List α} (h : Sl w (some ⟨b, o, none⟩) n xs) : ∀ j v, (cellsOf xs)[j]? = some v → w.cell? ⟨b, o + j, none⟩ = some v := by
  intro j v hv
  have hp := Flat.pos (α := α)
  have hj : j < (cellsOf xs).length := (List.getElem?_eq_some_iff.1 hv).1
  rw [cellsOf_length] at hj
  have hq : j / Flat.sz α < xs.length := (Nat.div_lt_iff_lt_mul hp).2 hj
  have e : j / Flat.sz α * Flat.sz α + j % Flat.sz α = j := by rw [Nat.mul_comm]; exact Nat.div_add_mod j _
  have hx : xs[j / Flat.sz α]? = some (xs[j / Flat.sz α]) := List.getElem?_eq_getElem hq
  obtain ⟨b', o', cs, hA, hr, hc⟩ := h.2 _ _ hx
  injection hA with hA; injection hA with h1 h2; subst h1; subst h2
  have hr' : cs = Flat.enc (xs[j / Flat.sz α]) := hr
  subst hr'
  have hl := Flat.len (xs[j / Flat.sz α])
  have hm : j % Flat.sz α < (Flat.enc (xs[j / Flat.sz α])).length := by rw [hl]; exact Nat.mod_lt _ hp
  have h3 := cellsOf_get hx (List.getElem?_eq_getElem hm)
  rw [e, hv] at h3
  have h4 := hc _ _ (List.getElem?_eq_getElem hm)
  have h5 : o + j / Flat.sz α * Deep.sz α + j % Flat.sz α = o + j := by
    have : Deep.sz α = Flat.sz α := rfl
    rw [this, Nat.add_assoc, e]
  rw [h5] at h4
  rw [h4, ← h3]
/-- append(xs, ys...) onto a slice of the call's own. -/
theorem wpList_appN {α : Type} [Flat α] {P : Program} {ops : Array Oper} {rest : List Oper} {o : Oper} {a : Act} {Q : Exit → Act → World → Prop} (hgd : o.guard = none) (s x : Operand) (t e : TypeId)
    (ho : o.op = .call { callee := .builtin .append, args := #[s, x], argTypes := #[t, t] }) (he : Elem P t e (Flat.sz α)) {w0 w : World} {A B : Option Addr} {n c m d : Nat} {xs ys : List α} (hs : a.eval s = .slice A n c)
    (hown : Own w w0.heap.size e (.slice A n c) xs) (hb : Below w0.heap.size w0 w) (hx : a.eval x = .slice B m d) (hy : Sl w B m ys) (hlim : n + m ≤ 274877906944)
    (h : ∀ A' c' w', Own w' w0.heap.size e (.slice A' (n + m) c') (xs ++ ys) → Below w0.heap.size w0 w' → w.grownBy w' (Value.ownBlock (.slice A n c)) → wpList P ops Q rest (a.put o.dst (.slice A' (n + m) c')) w') :
    wpList P ops Q (o :: rest) a w := by
  obtain ⟨i, z, h1, h2, h3, h4, h5, h6⟩ := he
  have hn := hown.sl.1
  have hm := hy.1
  have ho1 : w.ownsRow w0.heap.size e (Flat.sz α) (.slice A n c) n (cellsOf xs) := by
    have := hown
    unfold Own at this
    rwa [hn] at this
  cases B with
  | none =>
    obtain ⟨rfl, rfl⟩ := hy.none_len
    have hrun := run_append_of_nil (P := P) w w0.heap.size t o.type e i (Flat.sz α) h1 h2 _ n (cellsOf xs) ho1 d
    have := h A c w (by simpa using hown) hb (gb_refl _ _)
    refine wpList_plain hgd fun _ hK => ?_
    unfold Oper.wp execOp
    simp only [ho, resolve, invoke, builtin, Sem.run_bind, Sem.run_pure, Result.andThen_ok, List.map_toArray, List.map_cons, List.map_nil, hs, hx, hrun]
    exact hK _ _ (by simpa using this)
  | some ad =>
    by_cases hm0 : m = 0
    · subst hm0
      have hys : ys = [] := List.eq_nil_of_length_eq_zero hm
      subst hys
      refine wpList_append_own _ hgd s x t ho w0.heap.size e i z (Flat.sz α) i.bytes h1 h2 h3 h4 rfl h6 Flat.pos _ n (cellsOf xs) hs ho1 ad 0 d [] hx (by simp) (by intro j u hu; simp at hu) (by intro u hu; simp at hu) ?_ ?_ ?_ ?_
      · unfold maxLen; omega
      · have : (n + 0) * i.bytes ≤ (n + 0) * 256 := Nat.mul_le_mul_left _ h5
        omega
      · exact hb.size
      · intro v' w' hown' hg _
        have hO : Own w' w0.heap.size e v' (xs ++ []) := by unfold Own; rw [List.append_nil, hn]; simpa using hown'
        obtain ⟨A', c', rfl⟩ := hO.slice
        have hnx : (xs ++ ([] : List α)).length = n + 0 := by simp [hn]
        rw [hnx] at hO ⊢
        exact h A' c' w' hO (hb.grown hg hb.size (fun k hk => (hown.lt k hk).1)) hg
    · have hspot : ∃ b o, ad = ⟨b, o, none⟩ := by
        obtain ⟨b, o, cs, hA, _⟩ := hy.2 0 _ (List.getElem?_eq_getElem (by omega))
        injection hA with hA
        exact ⟨b, o, hA⟩
      obtain ⟨b, off, rfl⟩ := hspot
      refine wpList_append_own _ hgd s x t ho w0.heap.size e i z (Flat.sz α) i.bytes h1 h2 h3 h4 rfl h6 Flat.pos _ n (cellsOf xs) hs ho1 ⟨b, off, none⟩ m d (cellsOf ys) hx (by rw [cellsOf_length, hm]) ?_ (cellsOf_oneCell ys) ?_ ?_ ?_ ?_
      · intro j u hu
        rw [addr_add]
        exact hy.cells j u hu
      · unfold maxLen; omega
      · have : (n + m) * i.bytes ≤ (n + m) * 256 := Nat.mul_le_mul_left _ h5
        omega
      · exact hb.size
      · intro v' w' hown' hg _
        have hnx : (xs ++ ys).length = n + m := by simp [hn, hm]
        have hO : Own w' w0.heap.size e v' (xs ++ ys) := by unfold Own; rw [hnx, cellsOf_append]; exact hown'
        obtain ⟨A', c', rfl⟩ := hO.slice
        rw [hnx] at hO ⊢
        exact h A' c' w' hO (hb.grown hg hb.size (fun k hk => (hown.lt k hk).1)) hg
/-- an empty slice, just built -/
theorem Own.built {α : Type} [Flat α] (w : World) (E : TypeId) {base : Nat} (hb : base ≤ w.heap.size) : Own (w.alloc (.cells #[] E)) base E (.slice (some ⟨w.heap.size, 0, none⟩) 0 0) ([] : List α) := by
  have h := World.ownsRow_lit (base := base) (e := E) (size := Flat.sz α) w #[] 0 hb (by simp [maxLen]) (by simp)
  simpa [Own, cellsOf] using h
/-- The index of the first that p takes, or -1. -/
def indexF {α : Type} (p : α → Bool) (xs : List α) : Int := match xs.findIdx? p with | some i => (i : Int) | none => -1
theorem indexF_hit {α : Type} [Inhabited α] {p : α → Bool} {xs : List α} {k : Nat} (hk : k < xs.length) (h : p (nth xs k) = true) (hj : ∀ j, j < k → p (nth xs j) = false) : indexF p xs = k := by
  have e : xs.findIdx? p = some k := by
    rw [List.findIdx?_eq_some_iff_getElem]
    refine ⟨hk, ?_, ?_⟩
    · rw [← nth_get (List.getElem?_eq_getElem hk)]; exact h
    · intro j hjk
      have := hj j hjk
      rw [nth_get (List.getElem?_eq_getElem (by omega : j < xs.length))] at this
      simp [this]
  simp [indexF, e]
theorem indexF_none {α : Type} [Inhabited α] {p : α → Bool} {xs : List α} (hj : ∀ j, j < xs.length → p (nth xs j) = false) : indexF p xs = -1 := by
  have e : xs.findIdx? p = none := by
    rw [List.findIdx?_eq_none_iff]
    intro x hx
    obtain ⟨j, hj', rfl⟩ := List.getElem_of_mem hx
    have := hj j hj'
    rwa [nth_get (List.getElem?_eq_getElem hj')] at this
  simp [indexF, e]
theorem indexF_range {α : Type} (p : α → Bool) (xs : List α) : -1 ≤ indexF p xs ∧ indexF p xs < xs.length := by
  unfold indexF
  cases h : xs.findIdx? p with
  | none => simp only []; omega
  | some i => rw [List.findIdx?_eq_some_iff_getElem] at h; obtain ⟨hi, _⟩ := h; simp only []; omega
theorem indexF_at {α : Type} [Inhabited α] {p : α → Bool} {xs : List α} {k : Nat} (h : indexF p xs = (k : Int)) : k < xs.length ∧ p (nth xs k) = true := by
  unfold indexF at h
  cases h' : xs.findIdx? p with
  | none => rw [h'] at h; simp at h
  | some i =>
    rw [h'] at h
    have h2 : (i : Int) = k := h
    have hik : i = k := by omega
    subst hik
    rw [List.findIdx?_eq_some_iff_getElem] at h'
    obtain ⟨hi, hp, _⟩ := h'
    exact ⟨hi, by rw [nth_get (List.getElem?_eq_getElem hi)]; exact hp⟩
/-- A function with a body: a call of it enters it. -/
def Enters (P : Program) (g : FuncId) : Prop := ∀ (args : Array Value) (w : World), (callFunc g args).run P w = .ok (.enter g args) w
theorem enters_of {P : Program} {f : FuncId} {fn : Func} (hf : P.funcs[f]? = some fn) (hname : (fn.name == "runtime.NumGoroutine") = false) (hb : fn.body.isNone = false) : Enters P f := fun args w => by
  have h1 : fn.name ≠ "runtime.NumGoroutine" := by simpa using hname
  have h2 : fn.body ≠ none := fun e => by rw [e] at hb; cases hb
  simp [callFunc, hf, h1, h2]
/-- What a function value handed to the library does: it takes the element's value and what it captured, answers p, and leaves what was there; in every world where only the blocks of F have turned. -/
def Pred {α : Type} [Flat α] (P : Program) (w : World) (F : List Nat) (xs : List α) (g : FuncId) (val : α → Value) (caps : Array Value) (p : α → Bool) : Prop :=
  ∀ (W : World) (x : α), x ∈ xs → OnlyF F w W → Calls P g (#[val x] ++ caps) W fun e W' => e = .returned (.bool (p x)) ∧ Below W.heap.size W W'
theorem nth_mem {α : Type} [Inhabited α] {xs : List α} {k : Nat} (h : k < xs.length) : nth xs k ∈ xs := by
  rw [nth_get (List.getElem?_eq_getElem h)]; exact List.getElem_mem h
theorem Sl.take {α : Type} [Deep α] {w : World} {A : Option Addr} {n i : Nat} {xs : List α} (h : Sl w A n xs) (hi : i ≤ n) : Sl w A i (xs.take i) :=
  ⟨by rw [List.length_take, h.1]; omega, fun k x hx => h.2 k x (by
    rw [List.getElem?_take] at hx
    split at hx
    · exact hx
    · cases hx)⟩
theorem any_index {α : Type} (p : α → Bool) (xs : List α) : xs.any p = decide (0 ≤ indexF p xs) := by
  unfold indexF
  cases h : xs.findIdx? p with
  | none =>
    rw [List.findIdx?_eq_none_iff] at h
    rw [List.any_eq_false.2 (fun x hx => by rw [h x hx]; exact Bool.false_ne_true)]
    rfl
  | some i =>
    rw [List.findIdx?_eq_some_iff_getElem] at h
    obtain ⟨hi, hp, _⟩ := h
    rw [List.any_eq_true.2 ⟨_, List.getElem_mem hi, hp⟩]
    simp
theorem OnlyF.nil_below {w W : World} (h : OnlyF [] w W) : Below w.heap.size w W := ⟨h.os, h.tape, h.output, h.size, fun k hk => h.block k hk (by simp)⟩
theorem indexF_before {α : Type} [Inhabited α] {p : α → Bool} {xs : List α} {k : Nat} (h : indexF p xs = (k : Int)) : ∀ j, j < k → p (nth xs j) = false := by
  unfold indexF at h
  cases h' : xs.findIdx? p with
  | none => rw [h'] at h; simp at h
  | some i =>
    rw [h'] at h
    have h2 : (i : Int) = k := h
    have hik : i = k := by omega
    subst hik
    rw [List.findIdx?_eq_some_iff_getElem] at h'
    obtain ⟨hi, hp, hb⟩ := h'
    intro j hj
    have := hb j hj
    rw [nth_get (List.getElem?_eq_getElem (by omega : j < xs.length))]
    simpa using this
theorem indexF_all {α : Type} [Inhabited α] {p : α → Bool} {xs : List α} (h : indexF p xs = -1) : ∀ j, j < xs.length → p (nth xs j) = false := by
  unfold indexF at h
  cases h' : xs.findIdx? p with
  | some i => rw [h'] at h; have h2 : (i : Int) = -1 := h; omega
  | none =>
    rw [List.findIdx?_eq_none_iff] at h'
    intro j hj
    rw [nth_get (List.getElem?_eq_getElem hj)]
    have := h' _ (List.getElem_mem hj)
    simpa using this
theorem take_all_false {α : Type} [Inhabited α] {p : α → Bool} {xs : List α} {k : Nat} (hk : k ≤ xs.length) (h : ∀ j, j < k → p (nth xs j) = false) : (xs.take k).filter (fun x => !p x) = xs.take k := by
  rw [List.filter_eq_self]
  intro x hx
  obtain ⟨j, hj, rfl⟩ := List.getElem_of_mem hx
  have hj2 : j < k := by rw [List.length_take] at hj; omega
  have := h j hj2
  rw [nth_get (List.getElem?_eq_getElem (by omega : j < xs.length))] at this
  simp [this]
theorem indexF_none_filter {α : Type} [Inhabited α] {p : α → Bool} {xs : List α} (h : indexF p xs = -1) : xs.filter (fun x => !p x) = xs := by
  have := take_all_false (p := p) (Nat.le_refl xs.length) (indexF_all h)
  rwa [List.take_length] at this
theorem filt_start {α : Type} [Inhabited α] {p : α → Bool} {xs : List α} {k : Nat} (h : indexF p xs = (k : Int)) : xs.take k = (xs.take (k + 1)).filter (fun x => !p x) := by
  obtain ⟨hk, hp⟩ := indexF_at h
  rw [take_succ hk, List.filter_append, take_all_false (by omega) (indexF_before h)]
  simp [hp]
theorem filt_keep {α : Type} [Inhabited α] {p : α → Bool} {xs L : List α} {i j n : Nat} (hx : xs.length = n) (hL : L.length = n) (hij : i < j) (hj : j < n) (h : L.take i = (xs.take j).filter (fun x => !p x)) (hp : p (nth xs j) = false) :
    (L.set i (nth xs j)).take (i + 1) = (xs.take (j + 1)).filter (fun x => !p x) := by
  rw [take_succ (by omega : j < xs.length), List.filter_append, ← h]
  rw [List.take_add_one, List.take_set_of_le (Nat.le_refl _), List.getElem?_set]
  simp [hp, hL]
  omega
theorem filt_drop {α : Type} [Inhabited α] {p : α → Bool} {xs : List α} {j n : Nat} (hx : xs.length = n) (hj : j < n) (hp : p (nth xs j) = true) : (xs.take (j + 1)).filter (fun x => !p x) = (xs.take j).filter (fun x => !p x) := by
  rw [take_succ (by omega : j < xs.length), List.filter_append]
  simp [hp]
theorem drop_set_lt {α : Type} {L : List α} {i j : Nat} (h : i < j) (x : α) : (L.set i x).drop j = L.drop j := by
  rw [List.drop_set]; rw [if_pos h]
theorem drop_more {α : Type} {xs L : List α} {j : Nat} (h : L.drop j = xs.drop j) : L.drop (j + 1) = xs.drop (j + 1) := by
  rw [← List.drop_drop, ← List.drop_drop, h]
theorem nth_of_drop {α : Type} [Inhabited α] {xs L : List α} {j n : Nat} (hx : xs.length = n) (hL : L.length = n) (hj : j < n) (h : L.drop j = xs.drop j) : nth L j = nth xs j := by
  rw [drop_nth (by omega : j < L.length), drop_nth (by omega : j < xs.length)] at h
  injection h
end Go.Proofs.YtfglmghcgoembaaGreatDoor
