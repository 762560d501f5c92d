/-
  A region of two results that draws its order: what holds behind each operation. No conditions.
-/
import Derived.Test.YtokcgjjnljflaaaMvZ
import Derived.Test.YtokcgjjnljflaaaMvB
import Derived.Test.YtokcgjjnljflaaaLoadZ
namespace Go.Proofs.Ytokcgjjnljflaaa
open Go.RowKit

theorem getD_up {L : Array Bool} {i : Nat} (hi : i < L.size) (k : Nat) : (L.setIfInBounds i true).getD k false = if k = i then true else L.getD k false := by
  by_cases h : k = i
  · subst h; simp [hi]
  · rw [if_neg h]; exact getD_set_ne false (fun e => h e.symm)
/-- which operations each one waits for -/
def depsOf (md : Region.Mode) (ops : Array Oper) : List (List Nat) := ops.toList.map fun o => (o.after.toList.filter (Region.binds md)).map (·.on)
theorem ready_deps {md : Region.Mode} {ops : Array Oper} {T : List (List Nat)} (hT : depsOf md ops = T) {listed : Array Bool} {i : Nat} (h : i ∈ Region.ready md ops listed) :
    i < T.length ∧ listed.getD i true = false ∧ ∀ k, k ∈ T.getD i [] → listed.getD k false = true := by
  subst hT
  obtain ⟨h0, o, ho, ha⟩ := mem_ready.1 h
  have hlt : i < ops.size := (Array.getElem?_eq_some_iff.1 ho).1
  refine ⟨by simp [depsOf, hlt], h0, fun k hk => ?_⟩
  have e : (depsOf md ops).getD i [] = (o.after.toList.filter (Region.binds md)).map (·.on) := by
    unfold depsOf
    rw [List.getD_eq_getElem?_getD, List.getElem?_map, Array.getElem?_toList, ho]
    rfl
  rw [e] at hk
  obtain ⟨x, hx, rfl⟩ := List.mem_map.1 hk
  obtain ⟨h1, h2⟩ := List.mem_filter.1 hx
  exact ha x (by simpa using h1) h2
theorem ready_none {md : Region.Mode} {ops : Array Oper} {T : List (List Nat)} (hT : depsOf md ops = T) (hlt : ∀ i, i < T.length → ∀ k, k ∈ T.getD i [] → k < i) {listed : Array Bool} (hs : listed.size = T.length)
    (h : Region.ready md ops listed = []) : ∀ i, i < T.length → listed.getD i false = true := by
  intro i
  induction i using Nat.strongRecOn with
  | _ i ih =>
    intro hi
    cases hb : listed.getD i false with
    | true => rfl
    | false =>
      exfalso
      have hlen : T.length = ops.size := by rw [← hT]; simp [depsOf]
      have hio : i < ops.size := by omega
      have hm : i ∈ Region.ready md ops listed := by
        refine mem_ready.2 ⟨?_, ops[i], Array.getElem?_eq_getElem hio, fun e he hbd => ?_⟩
        · have h' : i < listed.size := by omega
          rw [Array.getD_eq_getD_getElem?] at hb ⊢
          rw [Array.getElem?_eq_getElem h'] at hb ⊢
          simpa using hb
        · have hk : e.on ∈ T.getD i [] := by
            rw [← hT]
            unfold depsOf
            rw [List.getD_eq_getElem?_getD, List.getElem?_map, Array.getElem?_toList, Array.getElem?_eq_getElem hio]
            exact List.mem_map.2 ⟨e, List.mem_filter.2 ⟨by simpa using he, hbd⟩, rfl⟩
          have hl := hlt i hi _ hk
          exact ih _ hl (by omega)
      rw [h] at hm
      cases hm
theorem wpOp_at {P : Program} {ops : Array Oper} {Q : Exit → Act → World → Prop} {K : Act → World → Prop} {i : Nat} {o : Oper} {a : Act} {w : World} (ho : ops[i]? = some o) (hg : o.guard = none)
    (h : ∀ K' : Act → World → Prop, (∀ a w, K a w → K' a w) → o.wp P a w K' Q) : wpOp P ops Q i K a w := by
  unfold wpOp
  rw [ho]
  have hw : Region.wanted o (yielded ops a.tmps) = true := by unfold Region.wanted; rw [hg]
  simp only [hw, if_true]
  exact .inl (h K fun _ _ x => x)
def rd (a : Act) (t : Nat) : Value := a.tmps.getD t undef
theorem rd_eval (a : Act) (t : Nat) : a.eval (.tmp t) = rd a t := rfl
theorem rd_put {a : Act} {d : Nat} {v : Value} (h : d < a.tmps.size) : rd (a.put (some d) v) d = v := by simp [rd, Act.put, h]
theorem rd_put_ne {a : Act} {d t : Nat} {v : Value} (h : t ≠ d) : rd (a.put (some d) v) t = rd a t := by simp [rd, Act.put, Array.getElem?_setIfInBounds_ne (Ne.symm h)]
theorem put_size (a : Act) (d : Nat) (v : Value) : (a.put (some d) v).tmps.size = a.tmps.size := by simp [Act.put]
/-- a frame that differs from another in given slots -/
def fr (a : Act) (f : Nat → Value) : List Nat → Act
  | [] => a
  | d :: l => (fr a f l).put (some d) (f d)
theorem fr_size (a : Act) (f : Nat → Value) : ∀ l, (fr a f l).tmps.size = a.tmps.size
  | [] => rfl
  | d :: l => by rw [fr, put_size]; exact fr_size a f l
theorem fr_defers (a : Act) (f : Nat → Value) : ∀ l, (fr a f l).defers = a.defers
  | [] => rfl
  | _ :: l => fr_defers a f l
theorem fr_rd (a : Act) (f : Nat → Value) : ∀ (l : List Nat) (t : Nat), t < a.tmps.size → rd (fr a f l) t = if t ∈ l then f t else rd a t
  | [], t, _ => by simp [fr]
  | d :: l, t, ht => by
    rw [fr]
    by_cases h : t = d
    · subst h; rw [rd_put (by rw [fr_size]; exact ht)]; simp
    · rw [rd_put_ne h, fr_rd a f l t ht]; simp [h]
theorem fr_eq {a a' : Act} (l : List Nat) (hs : a'.tmps.size = a.tmps.size) (hd : a'.defers = a.defers) (ho : ∀ t, t ∉ l → rd a' t = rd a t) : a' = fr a (rd a') l := by
  obtain ⟨t', d'⟩ := a'
  have e : fr a (rd ⟨t', d'⟩) l = ⟨(fr a (rd ⟨t', d'⟩) l).tmps, (fr a (rd ⟨t', d'⟩) l).defers⟩ := rfl
  rw [e, fr_defers]
  have hd : d' = a.defers := hd
  subst hd
  congr 1
  refine Array.ext (by rw [fr_size]; exact hs) (fun i h1 h2 => ?_)
  have h3 : i < a.tmps.size := by rw [← hs]; exact h1
  have h := fr_rd a (rd ⟨t', a.defers⟩) l i h3
  have h4 : rd ⟨t', a.defers⟩ i = t'[i] := by unfold rd; simp [h1]
  have h5 : rd (fr a (rd ⟨t', a.defers⟩) l) i = (fr a (rd ⟨t', a.defers⟩) l).tmps[i] := by show (fr a (rd ⟨t', a.defers⟩) l).tmps.getD i undef = _; rw [Array.getD, dif_pos h2]; rfl
  rw [← h4, ← h5, h]
  split
  · rfl
  · rename_i hn; exact ho i hn
theorem op_move {P : Program} {Q : Exit → Act → World → Prop} {K : Act → World → Prop} {o : Oper} {a : Act} {w : World} {x : Operand} (hop : o.op = .move x ∨ o.op = .assign x) (h : K (a.put o.dst (a.eval x)) w) : o.wp P a w K Q := by
  unfold Oper.wp
  have e : (execOp a.eval o).run P w = .ok (Next.value (a.eval x)) w := by unfold execOp; rcases hop with h | h <;> rw [h] <;> rfl
  rw [e]
  exact h
theorem op_load {P : Program} {Q : Exit → Act → World → Prop} {K : Act → World → Prop} {o : Oper} {a : Act} {w : World} {x : Operand} {t : TypeId} {v : Value} (hop : o.op = .load t x) (hl : (Instr.loadAt t (a.eval x)).run P w = .ok v w) (h : K (a.put o.dst v) w) : o.wp P a w K Q := by
  unfold Oper.wp
  have e : (execOp a.eval o).run P w = .ok (Next.value v) w := by unfold execOp; simp [hop, hl]
  rw [e]
  exact h
theorem op_alloc {P : Program} {Q : Exit → Act → World → Prop} {K : Act → World → Prop} {o : Oper} {a : Act} {w : World} {t : TypeId} {v : Value} {w' : World} (hop : o.op = .alloc t) (hl : (Instr.alloc t true (.tuple #[])).run P w = .ok v w') (h : K (a.put o.dst v) w') : o.wp P a w K Q := by
  unfold Oper.wp
  have e : (execOp a.eval o).run P w = .ok (Next.value v) w' := by unfold execOp; simp [hop, hl]
  rw [e]
  exact h
theorem op_store {P : Program} {Q : Exit → Act → World → Prop} {K : Act → World → Prop} {o : Oper} {a : Act} {w : World} {t : TypeId} {x y : Operand} {w' : World} (hop : o.op = .store t x y) (hl : (Instr.storeAt t (a.eval x) (a.eval y)).run P w = .ok () w') (h : K (a.put o.dst undef) w') : o.wp P a w K Q := by
  unfold Oper.wp
  have e : (execOp a.eval o).run P w = .ok Next.skip w' := by unfold execOp; simp [hop, hl]
  rw [e]
  exact h
theorem op_extract {P : Program} {Q : Exit → Act → World → Prop} {K : Act → World → Prop} {o : Oper} {a : Act} {w : World} {x : Operand} {k : Nat} {v : Value} (hop : o.op = .extract x k) (hl : (Instr.extract (a.eval x) k).run P w = .ok v w) (h : K (a.put o.dst v) w) : o.wp P a w K Q := by
  unfold Oper.wp
  have e : (execOp a.eval o).run P w = .ok (Next.value v) w := by unfold execOp; simp [hop, hl]
  rw [e]
  exact h
theorem op_call {P : Program} {Q : Exit → Act → World → Prop} {K : Act → World → Prop} {o : Oper} {a : Act} {w : World} {f : FuncId} {fn : Func} {xs : Array Operand} {ts : Array TypeId} (hop : o.op = .call { callee := .value (.func f), args := xs, argTypes := ts }) (hf : P.funcs[f]? = some fn) (hb : fn.body.isNone = false) (hn : (fn.name == "runtime.NumGoroutine") = false)
    {R : Ending → World → Prop} (hc : Calls P f (xs.map a.eval) w R) (h : ∀ e w', R e w' → ∃ v, e = .returned v ∧ K (a.put o.dst v) w') : o.wp P a w K Q := by
  unfold Oper.wp
  have e1 : execOp a.eval o = callFunc f (xs.map a.eval) := by
    have ef : a.eval (.func f) = .func (.func f) #[] #[] := rfl
    unfold execOp
    simp [hop, resolve, Deferred.ofValue, invoke, ef]
  have e : (execOp a.eval o).run P w = .ok (Next.enter f (xs.map a.eval)) w := by
    rw [e1]
    unfold callFunc
    have hn' : ¬ fn.name = "runtime.NumGoroutine" := by simpa using hn
    have hb' : ¬ fn.body = none := by intro h; rw [h] at hb; cases hb
    simp [hf, hb', hn']
  rw [e]
  refine Calls.mono hc fun e w' hr => ?_
  obtain ⟨v, rfl, hk⟩ := h e w' hr
  exact hk
/-- what the call hands back -/
def RV (r : Load × Load × Bool) (C1 : Option Addr) (e1 : Nat) (D1 : Option Addr) (h1 : Nat) : Value := .tuple #[.agg #[.string r.1.Appliance, .slice C1 r.1.Things.length e1], .agg #[.string r.2.1.Appliance, .slice D1 r.2.1.Things.length h1], .bool r.2.2]
/-- where the region of two results stands: what each operation that has come up has left -/
structure DI (V0 : World) (E : TypeId) (s u nm : ByteArray) (q : Int) (A B : Option Addr) (n c m d : Nat) (xs ys : List Thing) (r : Load × Load × Bool) (L : Nat → Bool) (f : Nat → Value) (w : World) (A1 : Option Addr) (c1 : Nat) (B1 : Option Addr) (d1 : Nat) (C1 : Option Addr) (e1 : Nat) (D1 : Option Addr) (h1 : Nat) (g1 g2 : Nat) : Prop where
  bl : Below V0.heap.size V0 w
  f0 : L 0 = true → f 0 = .agg #[.string s, .slice A n c]
  f1 : L 1 = true → f 1 = .agg #[.string s, .slice A1 xs.length c1]
  o1 : L 1 = true → L 6 = false → Own w V0.heap.size E (.slice A1 xs.length c1) xs
  f2 : L 2 = true → f 2 = .agg #[.string u, .slice B m d]
  f3 : L 3 = true → f 3 = .agg #[.string u, .slice B1 ys.length d1]
  o3 : L 3 = true → L 6 = false → Own w V0.heap.size E (.slice B1 ys.length d1) ys
  f4 : L 4 = true → f 4 = .string nm
  f5 : L 5 = true → f 5 = .int .i64 q
  f6 : L 6 = true → f 6 = RV r C1 e1 D1 h1
  f7 : L 7 = true → f 7 = RV r C1 e1 D1 h1
  o6 : L 6 = true → Own w V0.heap.size E (.slice C1 r.1.Things.length e1) r.1.Things
  p6 : L 6 = true → Own w V0.heap.size E (.slice D1 r.2.1.Things.length h1) r.2.1.Things
  ap : L 6 = true → ∀ k, Value.ownBlock (.slice C1 r.1.Things.length e1) = some k → Value.ownBlock (.slice D1 r.2.1.Things.length h1) ≠ some k
  f8 : L 8 = true → f 8 = .agg #[.string r.1.Appliance, .slice C1 r.1.Things.length e1]
  f9 : L 9 = true → f 9 = .agg #[.string r.2.1.Appliance, .slice D1 r.2.1.Things.length h1]
  f10 : L 10 = true → f 10 = .bool r.2.2
  f11 : L 11 = true → f 11 = .pointer (some ⟨g1, 0, none⟩)
  f12 : L 12 = true → f 12 = .pointer (some ⟨g2, 0, none⟩)
  l1 : L 11 = true → V0.heap.size ≤ g1 ∧ g1 < w.heap.size
  l2 : L 12 = true → V0.heap.size ≤ g2 ∧ g2 < w.heap.size
  ne : L 11 = true → L 12 = true → g1 ≠ g2
  n1 : L 6 = true → L 11 = true → ∀ k, (Value.ownBlock (.slice C1 r.1.Things.length e1) = some k ∨ Value.ownBlock (.slice D1 r.2.1.Things.length h1) = some k) → k ≠ g1
  n2 : L 6 = true → L 12 = true → ∀ k, (Value.ownBlock (.slice C1 r.1.Things.length e1) = some k ∨ Value.ownBlock (.slice D1 r.2.1.Things.length h1) = some k) → k ≠ g2
  z1 : L 11 = true → L 13 = false → BoxL w g1 ⟨#[]⟩ none 0 0
  z2 : L 12 = true → L 14 = false → BoxL w g2 ⟨#[]⟩ none 0 0
  b1 : L 13 = true → BoxL w g1 r.1.Appliance C1 r.1.Things.length e1
  b2 : L 14 = true → BoxL w g2 r.2.1.Appliance D1 r.2.1.Things.length h1
  f15 : L 15 = true → f 15 = .bool r.2.2
def upL (L : Nat → Bool) (i : Nat) : Nat → Bool := fun k => if k = i then true else L k
def upF (f : Nat → Value) (i : Nat) (v : Value) : Nat → Value := fun k => if k = i then v else f k
section
variable {V0 : World} {E : TypeId} {s u nm : ByteArray} {q : Int} {A B : Option Addr} {n c m d : Nat} {xs ys : List Thing} {r : Load × Load × Bool} {L : Nat → Bool} {f : Nat → Value} {w : World} {A1 : Option Addr} {c1 : Nat} {B1 : Option Addr} {d1 : Nat} {C1 : Option Addr} {e1 : Nat} {D1 : Option Addr} {h1 : Nat} {g1 g2 : Nat}
theorem DI.congr {f' : Nat → Value} (I : DI V0 E s u nm q A B n c m d xs ys r L f w A1 c1 B1 d1 C1 e1 D1 h1 g1 g2) (h : ∀ k, k < 16 → f' k = f k) : DI V0 E s u nm q A B n c m d xs ys r L f' w A1 c1 B1 d1 C1 e1 D1 h1 g1 g2 :=
  { I with
    f0 := fun h1 => (h 0 (by decide)).trans (I.f0 h1)
    f1 := fun h1 => (h 1 (by decide)).trans (I.f1 h1)
    f2 := fun h1 => (h 2 (by decide)).trans (I.f2 h1)
    f3 := fun h1 => (h 3 (by decide)).trans (I.f3 h1)
    f4 := fun h1 => (h 4 (by decide)).trans (I.f4 h1)
    f5 := fun h1 => (h 5 (by decide)).trans (I.f5 h1)
    f6 := fun h1 => (h 6 (by decide)).trans (I.f6 h1)
    f7 := fun h1 => (h 7 (by decide)).trans (I.f7 h1)
    f8 := fun h1 => (h 8 (by decide)).trans (I.f8 h1)
    f9 := fun h1 => (h 9 (by decide)).trans (I.f9 h1)
    f10 := fun h1 => (h 10 (by decide)).trans (I.f10 h1)
    f11 := fun h1 => (h 11 (by decide)).trans (I.f11 h1)
    f12 := fun h1 => (h 12 (by decide)).trans (I.f12 h1)
    f15 := fun h1 => (h 15 (by decide)).trans (I.f15 h1) }
theorem DI.step0 (I : DI V0 E s u nm q A B n c m d xs ys r L f w A1 c1 B1 d1 C1 e1 D1 h1 g1 g2)  : DI V0 E s u nm q A B n c m d xs ys r (upL L 0) (upF f 0 (.agg #[.string s, .slice A n c])) w A1 c1 B1 d1 C1 e1 D1 h1 g1 g2 :=
  { bl := I.bl
    f0 := fun _ => rfl
    f1 := fun h0 => I.f1 h0
    o1 := fun h0 h1 => I.o1 h0 h1
    f2 := fun h0 => I.f2 h0
    f3 := fun h0 => I.f3 h0
    o3 := fun h0 h1 => I.o3 h0 h1
    f4 := fun h0 => I.f4 h0
    f5 := fun h0 => I.f5 h0
    f6 := fun h0 => I.f6 h0
    f7 := fun h0 => I.f7 h0
    o6 := fun h0 => I.o6 h0
    p6 := fun h0 => I.p6 h0
    ap := fun h0 => I.ap h0
    f8 := fun h0 => I.f8 h0
    f9 := fun h0 => I.f9 h0
    f10 := fun h0 => I.f10 h0
    f11 := fun h0 => I.f11 h0
    f12 := fun h0 => I.f12 h0
    l1 := fun h0 => I.l1 h0
    l2 := fun h0 => I.l2 h0
    ne := fun h0 h1 => I.ne h0 h1
    n1 := fun h0 h1 => I.n1 h0 h1
    n2 := fun h0 h1 => I.n2 h0 h1
    z1 := fun h0 h1 => I.z1 h0 h1
    z2 := fun h0 h1 => I.z2 h0 h1
    b1 := fun h0 => I.b1 h0
    b2 := fun h0 => I.b2 h0
    f15 := fun h0 => I.f15 h0 }
theorem DI.step2 (I : DI V0 E s u nm q A B n c m d xs ys r L f w A1 c1 B1 d1 C1 e1 D1 h1 g1 g2)  : DI V0 E s u nm q A B n c m d xs ys r (upL L 2) (upF f 2 (.agg #[.string u, .slice B m d])) w A1 c1 B1 d1 C1 e1 D1 h1 g1 g2 :=
  { bl := I.bl
    f0 := fun h0 => I.f0 h0
    f1 := fun h0 => I.f1 h0
    o1 := fun h0 h1 => I.o1 h0 h1
    f2 := fun _ => rfl
    f3 := fun h0 => I.f3 h0
    o3 := fun h0 h1 => I.o3 h0 h1
    f4 := fun h0 => I.f4 h0
    f5 := fun h0 => I.f5 h0
    f6 := fun h0 => I.f6 h0
    f7 := fun h0 => I.f7 h0
    o6 := fun h0 => I.o6 h0
    p6 := fun h0 => I.p6 h0
    ap := fun h0 => I.ap h0
    f8 := fun h0 => I.f8 h0
    f9 := fun h0 => I.f9 h0
    f10 := fun h0 => I.f10 h0
    f11 := fun h0 => I.f11 h0
    f12 := fun h0 => I.f12 h0
    l1 := fun h0 => I.l1 h0
    l2 := fun h0 => I.l2 h0
    ne := fun h0 h1 => I.ne h0 h1
    n1 := fun h0 h1 => I.n1 h0 h1
    n2 := fun h0 h1 => I.n2 h0 h1
    z1 := fun h0 h1 => I.z1 h0 h1
    z2 := fun h0 h1 => I.z2 h0 h1
    b1 := fun h0 => I.b1 h0
    b2 := fun h0 => I.b2 h0
    f15 := fun h0 => I.f15 h0 }
theorem DI.step4 (I : DI V0 E s u nm q A B n c m d xs ys r L f w A1 c1 B1 d1 C1 e1 D1 h1 g1 g2)  : DI V0 E s u nm q A B n c m d xs ys r (upL L 4) (upF f 4 (.string nm)) w A1 c1 B1 d1 C1 e1 D1 h1 g1 g2 :=
  { bl := I.bl
    f0 := fun h0 => I.f0 h0
    f1 := fun h0 => I.f1 h0
    o1 := fun h0 h1 => I.o1 h0 h1
    f2 := fun h0 => I.f2 h0
    f3 := fun h0 => I.f3 h0
    o3 := fun h0 h1 => I.o3 h0 h1
    f4 := fun _ => rfl
    f5 := fun h0 => I.f5 h0
    f6 := fun h0 => I.f6 h0
    f7 := fun h0 => I.f7 h0
    o6 := fun h0 => I.o6 h0
    p6 := fun h0 => I.p6 h0
    ap := fun h0 => I.ap h0
    f8 := fun h0 => I.f8 h0
    f9 := fun h0 => I.f9 h0
    f10 := fun h0 => I.f10 h0
    f11 := fun h0 => I.f11 h0
    f12 := fun h0 => I.f12 h0
    l1 := fun h0 => I.l1 h0
    l2 := fun h0 => I.l2 h0
    ne := fun h0 h1 => I.ne h0 h1
    n1 := fun h0 h1 => I.n1 h0 h1
    n2 := fun h0 h1 => I.n2 h0 h1
    z1 := fun h0 h1 => I.z1 h0 h1
    z2 := fun h0 h1 => I.z2 h0 h1
    b1 := fun h0 => I.b1 h0
    b2 := fun h0 => I.b2 h0
    f15 := fun h0 => I.f15 h0 }
theorem DI.step5 (I : DI V0 E s u nm q A B n c m d xs ys r L f w A1 c1 B1 d1 C1 e1 D1 h1 g1 g2)  : DI V0 E s u nm q A B n c m d xs ys r (upL L 5) (upF f 5 (.int .i64 q)) w A1 c1 B1 d1 C1 e1 D1 h1 g1 g2 :=
  { bl := I.bl
    f0 := fun h0 => I.f0 h0
    f1 := fun h0 => I.f1 h0
    o1 := fun h0 h1 => I.o1 h0 h1
    f2 := fun h0 => I.f2 h0
    f3 := fun h0 => I.f3 h0
    o3 := fun h0 h1 => I.o3 h0 h1
    f4 := fun h0 => I.f4 h0
    f5 := fun _ => rfl
    f6 := fun h0 => I.f6 h0
    f7 := fun h0 => I.f7 h0
    o6 := fun h0 => I.o6 h0
    p6 := fun h0 => I.p6 h0
    ap := fun h0 => I.ap h0
    f8 := fun h0 => I.f8 h0
    f9 := fun h0 => I.f9 h0
    f10 := fun h0 => I.f10 h0
    f11 := fun h0 => I.f11 h0
    f12 := fun h0 => I.f12 h0
    l1 := fun h0 => I.l1 h0
    l2 := fun h0 => I.l2 h0
    ne := fun h0 h1 => I.ne h0 h1
    n1 := fun h0 h1 => I.n1 h0 h1
    n2 := fun h0 h1 => I.n2 h0 h1
    z1 := fun h0 h1 => I.z1 h0 h1
    z2 := fun h0 h1 => I.z2 h0 h1
    b1 := fun h0 => I.b1 h0
    b2 := fun h0 => I.b2 h0
    f15 := fun h0 => I.f15 h0 }
theorem DI.step7 (I : DI V0 E s u nm q A B n c m d xs ys r L f w A1 c1 B1 d1 C1 e1 D1 h1 g1 g2)  : DI V0 E s u nm q A B n c m d xs ys r (upL L 7) (upF f 7 (RV r C1 e1 D1 h1)) w A1 c1 B1 d1 C1 e1 D1 h1 g1 g2 :=
  { bl := I.bl
    f0 := fun h0 => I.f0 h0
    f1 := fun h0 => I.f1 h0
    o1 := fun h0 h1 => I.o1 h0 h1
    f2 := fun h0 => I.f2 h0
    f3 := fun h0 => I.f3 h0
    o3 := fun h0 h1 => I.o3 h0 h1
    f4 := fun h0 => I.f4 h0
    f5 := fun h0 => I.f5 h0
    f6 := fun h0 => I.f6 h0
    f7 := fun _ => rfl
    o6 := fun h0 => I.o6 h0
    p6 := fun h0 => I.p6 h0
    ap := fun h0 => I.ap h0
    f8 := fun h0 => I.f8 h0
    f9 := fun h0 => I.f9 h0
    f10 := fun h0 => I.f10 h0
    f11 := fun h0 => I.f11 h0
    f12 := fun h0 => I.f12 h0
    l1 := fun h0 => I.l1 h0
    l2 := fun h0 => I.l2 h0
    ne := fun h0 h1 => I.ne h0 h1
    n1 := fun h0 h1 => I.n1 h0 h1
    n2 := fun h0 h1 => I.n2 h0 h1
    z1 := fun h0 h1 => I.z1 h0 h1
    z2 := fun h0 h1 => I.z2 h0 h1
    b1 := fun h0 => I.b1 h0
    b2 := fun h0 => I.b2 h0
    f15 := fun h0 => I.f15 h0 }
theorem DI.step8 (I : DI V0 E s u nm q A B n c m d xs ys r L f w A1 c1 B1 d1 C1 e1 D1 h1 g1 g2)  : DI V0 E s u nm q A B n c m d xs ys r (upL L 8) (upF f 8 (.agg #[.string r.1.Appliance, .slice C1 r.1.Things.length e1])) w A1 c1 B1 d1 C1 e1 D1 h1 g1 g2 :=
  { bl := I.bl
    f0 := fun h0 => I.f0 h0
    f1 := fun h0 => I.f1 h0
    o1 := fun h0 h1 => I.o1 h0 h1
    f2 := fun h0 => I.f2 h0
    f3 := fun h0 => I.f3 h0
    o3 := fun h0 h1 => I.o3 h0 h1
    f4 := fun h0 => I.f4 h0
    f5 := fun h0 => I.f5 h0
    f6 := fun h0 => I.f6 h0
    f7 := fun h0 => I.f7 h0
    o6 := fun h0 => I.o6 h0
    p6 := fun h0 => I.p6 h0
    ap := fun h0 => I.ap h0
    f8 := fun _ => rfl
    f9 := fun h0 => I.f9 h0
    f10 := fun h0 => I.f10 h0
    f11 := fun h0 => I.f11 h0
    f12 := fun h0 => I.f12 h0
    l1 := fun h0 => I.l1 h0
    l2 := fun h0 => I.l2 h0
    ne := fun h0 h1 => I.ne h0 h1
    n1 := fun h0 h1 => I.n1 h0 h1
    n2 := fun h0 h1 => I.n2 h0 h1
    z1 := fun h0 h1 => I.z1 h0 h1
    z2 := fun h0 h1 => I.z2 h0 h1
    b1 := fun h0 => I.b1 h0
    b2 := fun h0 => I.b2 h0
    f15 := fun h0 => I.f15 h0 }
theorem DI.step9 (I : DI V0 E s u nm q A B n c m d xs ys r L f w A1 c1 B1 d1 C1 e1 D1 h1 g1 g2)  : DI V0 E s u nm q A B n c m d xs ys r (upL L 9) (upF f 9 (.agg #[.string r.2.1.Appliance, .slice D1 r.2.1.Things.length h1])) w A1 c1 B1 d1 C1 e1 D1 h1 g1 g2 :=
  { bl := I.bl
    f0 := fun h0 => I.f0 h0
    f1 := fun h0 => I.f1 h0
    o1 := fun h0 h1 => I.o1 h0 h1
    f2 := fun h0 => I.f2 h0
    f3 := fun h0 => I.f3 h0
    o3 := fun h0 h1 => I.o3 h0 h1
    f4 := fun h0 => I.f4 h0
    f5 := fun h0 => I.f5 h0
    f6 := fun h0 => I.f6 h0
    f7 := fun h0 => I.f7 h0
    o6 := fun h0 => I.o6 h0
    p6 := fun h0 => I.p6 h0
    ap := fun h0 => I.ap h0
    f8 := fun h0 => I.f8 h0
    f9 := fun _ => rfl
    f10 := fun h0 => I.f10 h0
    f11 := fun h0 => I.f11 h0
    f12 := fun h0 => I.f12 h0
    l1 := fun h0 => I.l1 h0
    l2 := fun h0 => I.l2 h0
    ne := fun h0 h1 => I.ne h0 h1
    n1 := fun h0 h1 => I.n1 h0 h1
    n2 := fun h0 h1 => I.n2 h0 h1
    z1 := fun h0 h1 => I.z1 h0 h1
    z2 := fun h0 h1 => I.z2 h0 h1
    b1 := fun h0 => I.b1 h0
    b2 := fun h0 => I.b2 h0
    f15 := fun h0 => I.f15 h0 }
theorem DI.step10 (I : DI V0 E s u nm q A B n c m d xs ys r L f w A1 c1 B1 d1 C1 e1 D1 h1 g1 g2)  : DI V0 E s u nm q A B n c m d xs ys r (upL L 10) (upF f 10 (.bool r.2.2)) w A1 c1 B1 d1 C1 e1 D1 h1 g1 g2 :=
  { bl := I.bl
    f0 := fun h0 => I.f0 h0
    f1 := fun h0 => I.f1 h0
    o1 := fun h0 h1 => I.o1 h0 h1
    f2 := fun h0 => I.f2 h0
    f3 := fun h0 => I.f3 h0
    o3 := fun h0 h1 => I.o3 h0 h1
    f4 := fun h0 => I.f4 h0
    f5 := fun h0 => I.f5 h0
    f6 := fun h0 => I.f6 h0
    f7 := fun h0 => I.f7 h0
    o6 := fun h0 => I.o6 h0
    p6 := fun h0 => I.p6 h0
    ap := fun h0 => I.ap h0
    f8 := fun h0 => I.f8 h0
    f9 := fun h0 => I.f9 h0
    f10 := fun _ => rfl
    f11 := fun h0 => I.f11 h0
    f12 := fun h0 => I.f12 h0
    l1 := fun h0 => I.l1 h0
    l2 := fun h0 => I.l2 h0
    ne := fun h0 h1 => I.ne h0 h1
    n1 := fun h0 h1 => I.n1 h0 h1
    n2 := fun h0 h1 => I.n2 h0 h1
    z1 := fun h0 h1 => I.z1 h0 h1
    z2 := fun h0 h1 => I.z2 h0 h1
    b1 := fun h0 => I.b1 h0
    b2 := fun h0 => I.b2 h0
    f15 := fun h0 => I.f15 h0 }
theorem DI.step15 (I : DI V0 E s u nm q A B n c m d xs ys r L f w A1 c1 B1 d1 C1 e1 D1 h1 g1 g2)  : DI V0 E s u nm q A B n c m d xs ys r (upL L 15) (upF f 15 (.bool r.2.2)) w A1 c1 B1 d1 C1 e1 D1 h1 g1 g2 :=
  { bl := I.bl
    f0 := fun h0 => I.f0 h0
    f1 := fun h0 => I.f1 h0
    o1 := fun h0 h1 => I.o1 h0 h1
    f2 := fun h0 => I.f2 h0
    f3 := fun h0 => I.f3 h0
    o3 := fun h0 h1 => I.o3 h0 h1
    f4 := fun h0 => I.f4 h0
    f5 := fun h0 => I.f5 h0
    f6 := fun h0 => I.f6 h0
    f7 := fun h0 => I.f7 h0
    o6 := fun h0 => I.o6 h0
    p6 := fun h0 => I.p6 h0
    ap := fun h0 => I.ap h0
    f8 := fun h0 => I.f8 h0
    f9 := fun h0 => I.f9 h0
    f10 := fun h0 => I.f10 h0
    f11 := fun h0 => I.f11 h0
    f12 := fun h0 => I.f12 h0
    l1 := fun h0 => I.l1 h0
    l2 := fun h0 => I.l2 h0
    ne := fun h0 h1 => I.ne h0 h1
    n1 := fun h0 h1 => I.n1 h0 h1
    n2 := fun h0 h1 => I.n2 h0 h1
    z1 := fun h0 h1 => I.z1 h0 h1
    z2 := fun h0 h1 => I.z2 h0 h1
    b1 := fun h0 => I.b1 h0
    b2 := fun h0 => I.b2 h0
    f15 := fun _ => rfl }
theorem DI.step1 (I : DI V0 E s u nm q A B n c m d xs ys r L f w A1 c1 B1 d1 C1 e1 D1 h1 g1 g2) {w' : World} (hb : Below w.heap.size w w') {A' : Option Addr} {c' : Nat} (ho : Own w' w.heap.size E (.slice A' xs.length c') xs)  : DI V0 E s u nm q A B n c m d xs ys r (upL L 1) (upF f 1 (.agg #[.string s, .slice A' xs.length c'])) w' A' c' B1 d1 C1 e1 D1 h1 g1 g2 :=
  { bl := bl_trans I.bl hb
    f0 := fun h0 => I.f0 h0
    f1 := fun _ => rfl
    o1 := fun _ _ => ho.mono I.bl.size
    f2 := fun h0 => I.f2 h0
    f3 := fun h0 => I.f3 h0
    o3 := fun h0 h1 => (I.o3 h0 h1).below hb
    f4 := fun h0 => I.f4 h0
    f5 := fun h0 => I.f5 h0
    f6 := fun h0 => I.f6 h0
    f7 := fun h0 => I.f7 h0
    o6 := fun h0 => (I.o6 h0).below hb
    p6 := fun h0 => (I.p6 h0).below hb
    ap := fun h0 => I.ap h0
    f8 := fun h0 => I.f8 h0
    f9 := fun h0 => I.f9 h0
    f10 := fun h0 => I.f10 h0
    f11 := fun h0 => I.f11 h0
    f12 := fun h0 => I.f12 h0
    l1 := fun h0 => ⟨(I.l1 h0).1, Nat.lt_of_lt_of_le (I.l1 h0).2 hb.size⟩
    l2 := fun h0 => ⟨(I.l2 h0).1, Nat.lt_of_lt_of_le (I.l2 h0).2 hb.size⟩
    ne := fun h0 h1 => I.ne h0 h1
    n1 := fun h0 h1 => I.n1 h0 h1
    n2 := fun h0 h1 => I.n2 h0 h1
    z1 := fun h0 h1 => (I.z1 h0 h1).below hb
    z2 := fun h0 h1 => (I.z2 h0 h1).below hb
    b1 := fun h0 => (I.b1 h0).below hb
    b2 := fun h0 => (I.b2 h0).below hb
    f15 := fun h0 => I.f15 h0 }
theorem DI.step3 (I : DI V0 E s u nm q A B n c m d xs ys r L f w A1 c1 B1 d1 C1 e1 D1 h1 g1 g2) {w' : World} (hb : Below w.heap.size w w') {B' : Option Addr} {d' : Nat} (ho : Own w' w.heap.size E (.slice B' ys.length d') ys)  : DI V0 E s u nm q A B n c m d xs ys r (upL L 3) (upF f 3 (.agg #[.string u, .slice B' ys.length d'])) w' A1 c1 B' d' C1 e1 D1 h1 g1 g2 :=
  { bl := bl_trans I.bl hb
    f0 := fun h0 => I.f0 h0
    f1 := fun h0 => I.f1 h0
    o1 := fun h0 h1 => (I.o1 h0 h1).below hb
    f2 := fun h0 => I.f2 h0
    f3 := fun _ => rfl
    o3 := fun _ _ => ho.mono I.bl.size
    f4 := fun h0 => I.f4 h0
    f5 := fun h0 => I.f5 h0
    f6 := fun h0 => I.f6 h0
    f7 := fun h0 => I.f7 h0
    o6 := fun h0 => (I.o6 h0).below hb
    p6 := fun h0 => (I.p6 h0).below hb
    ap := fun h0 => I.ap h0
    f8 := fun h0 => I.f8 h0
    f9 := fun h0 => I.f9 h0
    f10 := fun h0 => I.f10 h0
    f11 := fun h0 => I.f11 h0
    f12 := fun h0 => I.f12 h0
    l1 := fun h0 => ⟨(I.l1 h0).1, Nat.lt_of_lt_of_le (I.l1 h0).2 hb.size⟩
    l2 := fun h0 => ⟨(I.l2 h0).1, Nat.lt_of_lt_of_le (I.l2 h0).2 hb.size⟩
    ne := fun h0 h1 => I.ne h0 h1
    n1 := fun h0 h1 => I.n1 h0 h1
    n2 := fun h0 h1 => I.n2 h0 h1
    z1 := fun h0 h1 => (I.z1 h0 h1).below hb
    z2 := fun h0 h1 => (I.z2 h0 h1).below hb
    b1 := fun h0 => (I.b1 h0).below hb
    b2 := fun h0 => (I.b2 h0).below hb
    f15 := fun h0 => I.f15 h0 }
theorem DI.step6 (I : DI V0 E s u nm q A B n c m d xs ys r L f w A1 c1 B1 d1 C1 e1 D1 h1 g1 g2) {w' : World} (hb : Below w.heap.size w w') {C' D' : Option Addr} {e' h' : Nat} (ho : Own w' w.heap.size E (.slice C' r.1.Things.length e') r.1.Things) (hp : Own w' w.heap.size E (.slice D' r.2.1.Things.length h') r.2.1.Things) (hap : ∀ k, Value.ownBlock (.slice C' r.1.Things.length e') = some k → Value.ownBlock (.slice D' r.2.1.Things.length h') ≠ some k) (hn7 : L 7 = false) (hn8 : L 8 = false) (hn9 : L 9 = false) (hn13 : L 13 = false) (hn14 : L 14 = false) : DI V0 E s u nm q A B n c m d xs ys r (upL L 6) (upF f 6 (RV r C' e' D' h')) w' A1 c1 B1 d1 C' e' D' h' g1 g2 :=
  { bl := bl_trans I.bl hb
    f0 := fun h0 => I.f0 h0
    f1 := fun h0 => I.f1 h0
    o1 := fun _ h1 => (by cases h1)
    f2 := fun h0 => I.f2 h0
    f3 := fun h0 => I.f3 h0
    o3 := fun _ h1 => (by cases h1)
    f4 := fun h0 => I.f4 h0
    f5 := fun h0 => I.f5 h0
    f6 := fun _ => rfl
    f7 := fun h0 => absurd (show L 7 = true from h0) (by rw [hn7]; exact Bool.false_ne_true)
    o6 := fun _ => ho.mono I.bl.size
    p6 := fun _ => hp.mono I.bl.size
    ap := fun _ => hap
    f8 := fun h0 => absurd (show L 8 = true from h0) (by rw [hn8]; exact Bool.false_ne_true)
    f9 := fun h0 => absurd (show L 9 = true from h0) (by rw [hn9]; exact Bool.false_ne_true)
    f10 := fun h0 => I.f10 h0
    f11 := fun h0 => I.f11 h0
    f12 := fun h0 => I.f12 h0
    l1 := fun h0 => ⟨(I.l1 h0).1, Nat.lt_of_lt_of_le (I.l1 h0).2 hb.size⟩
    l2 := fun h0 => ⟨(I.l2 h0).1, Nat.lt_of_lt_of_le (I.l2 h0).2 hb.size⟩
    ne := fun h0 h1 => I.ne h0 h1
    n1 := fun _ h1 => fun k hk e => hk.elim (fun hk => by have := (ho.lt k hk).1; have := (I.l1 h1).2; omega) (fun hk => by have := (hp.lt k hk).1; have := (I.l1 h1).2; omega)
    n2 := fun _ h1 => fun k hk e => hk.elim (fun hk => by have := (ho.lt k hk).1; have := (I.l2 h1).2; omega) (fun hk => by have := (hp.lt k hk).1; have := (I.l2 h1).2; omega)
    z1 := fun h0 h1 => (I.z1 h0 h1).below hb
    z2 := fun h0 h1 => (I.z2 h0 h1).below hb
    b1 := fun h0 => absurd (show L 13 = true from h0) (by rw [hn13]; exact Bool.false_ne_true)
    b2 := fun h0 => absurd (show L 14 = true from h0) (by rw [hn14]; exact Bool.false_ne_true)
    f15 := fun h0 => I.f15 h0 }
theorem DI.step11 (I : DI V0 E s u nm q A B n c m d xs ys r L f w A1 c1 B1 d1 C1 e1 D1 h1 g1 g2) {w' : World} (hb : Below w.heap.size w w') (hg : w.heap.size < w'.heap.size) (hz : BoxL w' w.heap.size ⟨#[]⟩ none 0 0) (hn : L 13 = false) : DI V0 E s u nm q A B n c m d xs ys r (upL L 11) (upF f 11 (.pointer (some ⟨w.heap.size, 0, none⟩))) w' A1 c1 B1 d1 C1 e1 D1 h1 w.heap.size g2 :=
  { bl := bl_trans I.bl hb
    f0 := fun h0 => I.f0 h0
    f1 := fun h0 => I.f1 h0
    o1 := fun h0 h1 => (I.o1 h0 h1).below hb
    f2 := fun h0 => I.f2 h0
    f3 := fun h0 => I.f3 h0
    o3 := fun h0 h1 => (I.o3 h0 h1).below hb
    f4 := fun h0 => I.f4 h0
    f5 := fun h0 => I.f5 h0
    f6 := fun h0 => I.f6 h0
    f7 := fun h0 => I.f7 h0
    o6 := fun h0 => (I.o6 h0).below hb
    p6 := fun h0 => (I.p6 h0).below hb
    ap := fun h0 => I.ap h0
    f8 := fun h0 => I.f8 h0
    f9 := fun h0 => I.f9 h0
    f10 := fun h0 => I.f10 h0
    f11 := fun _ => rfl
    f12 := fun h0 => I.f12 h0
    l1 := fun _ => ⟨I.bl.size, hg⟩
    l2 := fun h0 => ⟨(I.l2 h0).1, Nat.lt_of_lt_of_le (I.l2 h0).2 hb.size⟩
    ne := fun _ h1 => fun e => by have := (I.l2 h1).2; omega
    n1 := fun h0 _ => fun k hk e => hk.elim (fun hk => by have := ((I.o6 h0).lt k hk).2; omega) (fun hk => by have := ((I.p6 h0).lt k hk).2; omega)
    n2 := fun h0 h1 => I.n2 h0 h1
    z1 := fun _ _ => hz
    z2 := fun h0 h1 => (I.z2 h0 h1).below hb
    b1 := fun h0 => absurd (show L 13 = true from h0) (by rw [hn]; exact Bool.false_ne_true)
    b2 := fun h0 => (I.b2 h0).below hb
    f15 := fun h0 => I.f15 h0 }
theorem DI.step12 (I : DI V0 E s u nm q A B n c m d xs ys r L f w A1 c1 B1 d1 C1 e1 D1 h1 g1 g2) {w' : World} (hb : Below w.heap.size w w') (hg : w.heap.size < w'.heap.size) (hz : BoxL w' w.heap.size ⟨#[]⟩ none 0 0) (hn : L 14 = false) : DI V0 E s u nm q A B n c m d xs ys r (upL L 12) (upF f 12 (.pointer (some ⟨w.heap.size, 0, none⟩))) w' A1 c1 B1 d1 C1 e1 D1 h1 g1 w.heap.size :=
  { bl := bl_trans I.bl hb
    f0 := fun h0 => I.f0 h0
    f1 := fun h0 => I.f1 h0
    o1 := fun h0 h1 => (I.o1 h0 h1).below hb
    f2 := fun h0 => I.f2 h0
    f3 := fun h0 => I.f3 h0
    o3 := fun h0 h1 => (I.o3 h0 h1).below hb
    f4 := fun h0 => I.f4 h0
    f5 := fun h0 => I.f5 h0
    f6 := fun h0 => I.f6 h0
    f7 := fun h0 => I.f7 h0
    o6 := fun h0 => (I.o6 h0).below hb
    p6 := fun h0 => (I.p6 h0).below hb
    ap := fun h0 => I.ap h0
    f8 := fun h0 => I.f8 h0
    f9 := fun h0 => I.f9 h0
    f10 := fun h0 => I.f10 h0
    f11 := fun h0 => I.f11 h0
    f12 := fun _ => rfl
    l1 := fun h0 => ⟨(I.l1 h0).1, Nat.lt_of_lt_of_le (I.l1 h0).2 hb.size⟩
    l2 := fun _ => ⟨I.bl.size, hg⟩
    ne := fun h0 _ => fun e => by have := (I.l1 h0).2; omega
    n1 := fun h0 h1 => I.n1 h0 h1
    n2 := fun h0 _ => fun k hk e => hk.elim (fun hk => by have := ((I.o6 h0).lt k hk).2; omega) (fun hk => by have := ((I.p6 h0).lt k hk).2; omega)
    z1 := fun h0 h1 => (I.z1 h0 h1).below hb
    z2 := fun _ _ => hz
    b1 := fun h0 => (I.b1 h0).below hb
    b2 := fun h0 => absurd (show L 14 = true from h0) (by rw [hn]; exact Bool.false_ne_true)
    f15 := fun h0 => I.f15 h0 }
theorem DI.step13 (I : DI V0 E s u nm q A B n c m d xs ys r L f w A1 c1 B1 d1 C1 e1 D1 h1 g1 g2) (hn6 : L 6 = true) (hn11 : L 11 = true) (hn12 : L 12 = true) (hn : L 13 = false) : DI V0 E s u nm q A B n c m d xs ys r (upL L 13) f ((w.setCell ⟨g1, 0, none⟩ (.string r.1.Appliance)).setCell ⟨g1, 1, none⟩ (.slice C1 r.1.Things.length e1)) A1 c1 B1 d1 C1 e1 D1 h1 g1 g2 :=
  { bl := bl_set (bl_set I.bl (I.l1 hn11).1 _) (I.l1 hn11).1 _
    f0 := fun h0 => I.f0 h0
    f1 := fun h0 => I.f1 h0
    o1 := fun _ h1 => absurd (show L 6 = false from h1) (by rw [hn6]; exact fun e => Bool.noConfusion e)
    f2 := fun h0 => I.f2 h0
    f3 := fun h0 => I.f3 h0
    o3 := fun _ h1 => absurd (show L 6 = false from h1) (by rw [hn6]; exact fun e => Bool.noConfusion e)
    f4 := fun h0 => I.f4 h0
    f5 := fun h0 => I.f5 h0
    f6 := fun h0 => I.f6 h0
    f7 := fun h0 => I.f7 h0
    o6 := fun h0 => ((I.o6 h0).set_ne (fun e => (I.n1 hn6 hn11) _ (.inl e) rfl) _ _).set_ne (fun e => (I.n1 hn6 hn11) _ (.inl e) rfl) _ _
    p6 := fun h0 => ((I.p6 h0).set_ne (fun e => (I.n1 hn6 hn11) _ (.inr e) rfl) _ _).set_ne (fun e => (I.n1 hn6 hn11) _ (.inr e) rfl) _ _
    ap := fun h0 => I.ap h0
    f8 := fun h0 => I.f8 h0
    f9 := fun h0 => I.f9 h0
    f10 := fun h0 => I.f10 h0
    f11 := fun h0 => I.f11 h0
    f12 := fun h0 => I.f12 h0
    l1 := fun h0 => (by have := I.l1 h0; simp only [World.size_setCell]; exact this)
    l2 := fun h0 => (by have := I.l2 h0; simp only [World.size_setCell]; exact this)
    ne := fun h0 h1 => I.ne h0 h1
    n1 := fun h0 h1 => I.n1 h0 h1
    n2 := fun h0 h1 => I.n2 h0 h1
    z1 := fun _ h1 => (by cases h1)
    z2 := fun h0 h1 => ((I.z2 h0 h1).set_ne (fun e => I.ne hn11 hn12 e) _ _).set_ne (fun e => I.ne hn11 hn12 e) _ _
    b1 := fun _ => (I.z1 hn11 hn).put _ _ _ _
    b2 := fun h0 => ((I.b2 h0).set_ne (fun e => I.ne hn11 hn12 e) _ _).set_ne (fun e => I.ne hn11 hn12 e) _ _
    f15 := fun h0 => I.f15 h0 }
theorem DI.step14 (I : DI V0 E s u nm q A B n c m d xs ys r L f w A1 c1 B1 d1 C1 e1 D1 h1 g1 g2) (hn6 : L 6 = true) (hn11 : L 11 = true) (hn12 : L 12 = true) (hn : L 14 = false) : DI V0 E s u nm q A B n c m d xs ys r (upL L 14) f ((w.setCell ⟨g2, 0, none⟩ (.string r.2.1.Appliance)).setCell ⟨g2, 1, none⟩ (.slice D1 r.2.1.Things.length h1)) A1 c1 B1 d1 C1 e1 D1 h1 g1 g2 :=
  { bl := bl_set (bl_set I.bl (I.l2 hn12).1 _) (I.l2 hn12).1 _
    f0 := fun h0 => I.f0 h0
    f1 := fun h0 => I.f1 h0
    o1 := fun _ h1 => absurd (show L 6 = false from h1) (by rw [hn6]; exact fun e => Bool.noConfusion e)
    f2 := fun h0 => I.f2 h0
    f3 := fun h0 => I.f3 h0
    o3 := fun _ h1 => absurd (show L 6 = false from h1) (by rw [hn6]; exact fun e => Bool.noConfusion e)
    f4 := fun h0 => I.f4 h0
    f5 := fun h0 => I.f5 h0
    f6 := fun h0 => I.f6 h0
    f7 := fun h0 => I.f7 h0
    o6 := fun h0 => ((I.o6 h0).set_ne (fun e => (I.n2 hn6 hn12) _ (.inl e) rfl) _ _).set_ne (fun e => (I.n2 hn6 hn12) _ (.inl e) rfl) _ _
    p6 := fun h0 => ((I.p6 h0).set_ne (fun e => (I.n2 hn6 hn12) _ (.inr e) rfl) _ _).set_ne (fun e => (I.n2 hn6 hn12) _ (.inr e) rfl) _ _
    ap := fun h0 => I.ap h0
    f8 := fun h0 => I.f8 h0
    f9 := fun h0 => I.f9 h0
    f10 := fun h0 => I.f10 h0
    f11 := fun h0 => I.f11 h0
    f12 := fun h0 => I.f12 h0
    l1 := fun h0 => (by have := I.l1 h0; simp only [World.size_setCell]; exact this)
    l2 := fun h0 => (by have := I.l2 h0; simp only [World.size_setCell]; exact this)
    ne := fun h0 h1 => I.ne h0 h1
    n1 := fun h0 h1 => I.n1 h0 h1
    n2 := fun h0 h1 => I.n2 h0 h1
    z1 := fun h0 h1 => ((I.z1 h0 h1).set_ne (fun e => I.ne hn11 hn12 e.symm) _ _).set_ne (fun e => I.ne hn11 hn12 e.symm) _ _
    z2 := fun _ h1 => (by cases h1)
    b1 := fun h0 => ((I.b1 h0).set_ne (fun e => I.ne hn11 hn12 e.symm) _ _).set_ne (fun e => I.ne hn11 hn12 e.symm) _ _
    b2 := fun _ => (I.z2 hn12 hn).put _ _ _ _
    f15 := fun h0 => I.f15 h0 }
end
theorem DI.start {L : Nat → Bool} {f : Nat → Value} {w : World} {V0 : World} {E : TypeId} {s u nm : ByteArray} {q : Int} {A B : Option Addr} {n c m d : Nat} {xs ys : List Thing} {r : Load × Load × Bool} (hno : ∀ k, L k = true → False) (hb : Below V0.heap.size V0 w) : DI V0 E s u nm q A B n c m d xs ys r L f w none 0 none 0 none 0 none 0 0 0 :=
  { bl := hb
    f0 := fun h => (hno _ h).elim
    f1 := fun h => (hno _ h).elim
    o1 := fun h _ => (hno _ h).elim
    f2 := fun h => (hno _ h).elim
    f3 := fun h => (hno _ h).elim
    o3 := fun h _ => (hno _ h).elim
    f4 := fun h => (hno _ h).elim
    f5 := fun h => (hno _ h).elim
    f6 := fun h => (hno _ h).elim
    f7 := fun h => (hno _ h).elim
    o6 := fun h => (hno _ h).elim
    p6 := fun h => (hno _ h).elim
    ap := fun h => (hno _ h).elim
    f8 := fun h => (hno _ h).elim
    f9 := fun h => (hno _ h).elim
    f10 := fun h => (hno _ h).elim
    f11 := fun h => (hno _ h).elim
    f12 := fun h => (hno _ h).elim
    l1 := fun h => (hno _ h).elim
    l2 := fun h => (hno _ h).elim
    ne := fun h _ => (hno _ h).elim
    n1 := fun h _ => (hno _ h).elim
    n2 := fun h _ => (hno _ h).elim
    z1 := fun h _ => (hno _ h).elim
    z2 := fun h _ => (hno _ h).elim
    b1 := fun h => (hno _ h).elim
    b2 := fun h => (hno _ h).elim
    f15 := fun h => (hno _ h).elim }
end Go.Proofs.Ytokcgjjnljflaaa
