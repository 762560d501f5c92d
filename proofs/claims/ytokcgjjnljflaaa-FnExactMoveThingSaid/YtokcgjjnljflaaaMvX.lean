/-
  A region of two results that draws its order, whole. No conditions.
-/
import Derived.Test.YtokcgjjnljflaaaMvY
namespace Go.Proofs.Ytokcgjjnljflaaa
open Go.RowKit

/-- a call of a function by name -/
def callOp (f : FuncId) (xs : Array Operand) (ts : Array TypeId) : Op := .call { callee := .value (.func f), args := xs, argTypes := ts }
def twoT : List (List Nat) := [[], [0], [], [2, 1], [], [], [1, 3, 4, 5, 3], [6], [7], [7], [7], [], [], [11, 8, 6, 0, 1, 2, 3, 4, 5, 6, 7, 8, 11, 12], [12, 9, 13, 0, 1, 2, 3, 4, 5, 6, 7, 8, 9, 11, 12, 13], [10, 14, 0, 1, 2, 3, 4, 5, 6, 7, 8, 9, 10, 11, 12, 13, 14]]
/-- the invariant: the frame beside the region's slots is as it was -/
def Inv (σ : Nat → Nat) (a0 : Act) (V0 : World) (E : TypeId) (s u nm : ByteArray) (q : Int) (A B : Option Addr) (n c m d : Nat) (xs ys : List Thing) (r : Load × Load × Bool) (listed : Array Bool) (a : Act) (w : World) : Prop :=
  listed.size = 16 ∧ a.tmps.size = a0.tmps.size ∧ a.defers = a0.defers ∧ (∀ t, (∀ k, k < 16 → t ≠ σ k) → rd a t = rd a0 t) ∧
    (∀ k, listed.getD k false = true → ∀ e, e ∈ twoT.getD k [] → listed.getD e false = true) ∧
    ∃ A1 c1 B1 d1 C1 e1 D1 h1 g1 g2, DI V0 E s u nm q A B n c m d xs ys r (fun k => listed.getD k false) (fun k => rd a (σ k)) w A1 c1 B1 d1 C1 e1 D1 h1 g1 g2
section
variable {σ : Nat → Nat} {a0 : Act} {V0 : World} {E : TypeId} {s u nm : ByteArray} {q : Int} {A B : Option Addr} {n c m d : Nat} {xs ys : List Thing} {r : Load × Load × Bool} {listed : Array Bool} {a : Act} {w : World}
theorem upL_eq {i : Nat} (hs : listed.size = 16) (hi : i < 16) : (fun k => (listed.setIfInBounds i true).getD k false) = upL (fun k => listed.getD k false) i := by
  funext k
  exact getD_up (by omega) k
theorem cl_up (hs : listed.size = 16) {i : Nat} (hi : i < 16) (hcl : ∀ k, listed.getD k false = true → ∀ e, e ∈ twoT.getD k [] → listed.getD e false = true) (hdep : ∀ k, k ∈ twoT.getD i [] → listed.getD k false = true) :
    ∀ k, (listed.setIfInBounds i true).getD k false = true → ∀ e, e ∈ twoT.getD k [] → (listed.setIfInBounds i true).getD e false = true := by
  intro k hk e he
  rw [getD_up (by omega)] at hk ⊢
  by_cases h : e = i
  · rw [if_pos h]
  · rw [if_neg h]
    by_cases h2 : k = i
    · subst h2; exact hdep e he
    · rw [if_neg h2] at hk; exact hcl k hk e he
theorem Inv.put (hls : listed.size = 16) (ha : a.tmps.size = a0.tmps.size) (hd : a.defers = a0.defers) (ho : ∀ t, (∀ k, k < 16 → t ≠ σ k) → rd a t = rd a0 t) (hcl : ∀ k, listed.getD k false = true → ∀ e, e ∈ twoT.getD k [] → listed.getD e false = true)
    (hinj : ∀ i, i < 16 → ∀ k, k < 16 → σ i = σ k → i = k) {i : Nat} (hi : i < 16) (hdep : ∀ k, k ∈ twoT.getD i [] → listed.getD k false = true) (hlt : σ i < a0.tmps.size) {v : Value} {w' : World} {A1 : Option Addr} {c1 : Nat} {B1 : Option Addr} {d1 : Nat} {C1 : Option Addr} {e1 : Nat} {D1 : Option Addr} {h1 : Nat} {g1 g2 : Nat}
    (I : DI V0 E s u nm q A B n c m d xs ys r (upL (fun k => listed.getD k false) i) (upF (fun k => rd a (σ k)) i v) w' A1 c1 B1 d1 C1 e1 D1 h1 g1 g2) : Inv σ a0 V0 E s u nm q A B n c m d xs ys r (listed.setIfInBounds i true) (a.put (some (σ i)) v) w' := by
  refine ⟨by simp [hls], by rw [put_size]; exact ha, hd, fun t ht => by rw [rd_put_ne (ht i hi)]; exact ho t ht, cl_up hls hi hcl hdep, A1, c1, B1, d1, C1, e1, D1, h1, g1, g2, ?_⟩
  rw [upL_eq hls hi]
  refine I.congr fun k hk => ?_
  show rd (a.put (some (σ i)) v) (σ k) = if k = i then v else rd a (σ k)
  by_cases h : k = i
  · subst h; rw [if_pos rfl]; exact rd_put (by omega)
  · rw [if_neg h]; exact rd_put_ne (fun e => h (hinj k hk i hi e))
theorem Inv.nop (hls : listed.size = 16) (ha : a.tmps.size = a0.tmps.size) (hd : a.defers = a0.defers) (ho : ∀ t, (∀ k, k < 16 → t ≠ σ k) → rd a t = rd a0 t) (hcl : ∀ k, listed.getD k false = true → ∀ e, e ∈ twoT.getD k [] → listed.getD e false = true)
    {i : Nat} (hi : i < 16) (hdep : ∀ k, k ∈ twoT.getD i [] → listed.getD k false = true) {w' : World} {A1 : Option Addr} {c1 : Nat} {B1 : Option Addr} {d1 : Nat} {C1 : Option Addr} {e1 : Nat} {D1 : Option Addr} {h1 : Nat} {g1 g2 : Nat}
    (I : DI V0 E s u nm q A B n c m d xs ys r (upL (fun k => listed.getD k false) i) (fun k => rd a (σ k)) w' A1 c1 B1 d1 C1 e1 D1 h1 g1 g2) : Inv σ a0 V0 E s u nm q A B n c m d xs ys r (listed.setIfInBounds i true) a w' := by
  refine ⟨by simp [hls], ha, hd, ho, cl_up hls hi hcl hdep, A1, c1, B1, d1, C1, e1, D1, h1, g1, g2, ?_⟩
  rw [upL_eq hls hi]
  exact I
end
theorem two_any {ops : Array Oper} {Q : Exit → Act → World → Prop} {a0 : Act} {V0 : World} (σ : Nat → Nat) {p0 p1 p2 p3 : Nat} {F : FuncId} {fn : Func} {s u nm : ByteArray} {q : Int} {A B : Option Addr} {n c m d : Nat} {xs ys : List Thing} {r : Load × Load × Bool} {b0 b1 o0 o1 : Nat}
    (hT : depsOf .any ops = twoT) (hF : Try.prog.funcs[F]? = some fn) (hF1 : fn.body.isNone = false) (hF2 : (fn.name == "runtime.NumGoroutine") = false)
    (q0 : ∃ o : Oper, ops[0]? = some o ∧ o.guard = none ∧ o.dst = some (σ 0) ∧ o.op = .load 24 (.tmp p0))
    (q1 : ∃ (o : Oper) (ts : Array TypeId), ops[1]? = some o ∧ o.guard = none ∧ o.dst = some (σ 1) ∧ o.op = callOp 8 #[.tmp (σ 0)] ts)
    (q2 : ∃ o : Oper, ops[2]? = some o ∧ o.guard = none ∧ o.dst = some (σ 2) ∧ o.op = .load 24 (.tmp p1))
    (q3 : ∃ (o : Oper) (ts : Array TypeId), ops[3]? = some o ∧ o.guard = none ∧ o.dst = some (σ 3) ∧ o.op = callOp 8 #[.tmp (σ 2)] ts)
    (q4 : ∃ o : Oper, ops[4]? = some o ∧ o.guard = none ∧ o.dst = some (σ 4) ∧ o.op = .move (.tmp p2))
    (q5 : ∃ o : Oper, ops[5]? = some o ∧ o.guard = none ∧ o.dst = some (σ 5) ∧ o.op = .move (.tmp p3))
    (q6 : ∃ (o : Oper) (ts : Array TypeId), ops[6]? = some o ∧ o.guard = none ∧ o.dst = some (σ 6) ∧ o.op = callOp F #[.tmp (σ 1), .tmp (σ 3), .tmp (σ 4), .tmp (σ 5)] ts)
    (q7 : ∃ o : Oper, ops[7]? = some o ∧ o.guard = none ∧ o.dst = some (σ 7) ∧ o.op = .move (.tmp (σ 6)))
    (q8 : ∃ o : Oper, ops[8]? = some o ∧ o.guard = none ∧ o.dst = some (σ 8) ∧ o.op = .extract (.tmp (σ 7)) 0)
    (q9 : ∃ o : Oper, ops[9]? = some o ∧ o.guard = none ∧ o.dst = some (σ 9) ∧ o.op = .extract (.tmp (σ 7)) 1)
    (q10 : ∃ o : Oper, ops[10]? = some o ∧ o.guard = none ∧ o.dst = some (σ 10) ∧ o.op = .extract (.tmp (σ 7)) 2)
    (q11 : ∃ o : Oper, ops[11]? = some o ∧ o.guard = none ∧ o.dst = some (σ 11) ∧ o.op = .alloc 28)
    (q12 : ∃ o : Oper, ops[12]? = some o ∧ o.guard = none ∧ o.dst = some (σ 12) ∧ o.op = .alloc 28)
    (q13 : ∃ o : Oper, ops[13]? = some o ∧ o.guard = none ∧ o.dst = none ∧ o.op = .store 28 (.tmp (σ 11)) (.tmp (σ 8)))
    (q14 : ∃ o : Oper, ops[14]? = some o ∧ o.guard = none ∧ o.dst = none ∧ o.op = .store 28 (.tmp (σ 12)) (.tmp (σ 9)))
    (q15 : ∃ o : Oper, ops[15]? = some o ∧ o.guard = none ∧ o.dst = some (σ 15) ∧ o.op = .assign (.tmp (σ 10)))
    (hinj : ∀ i, i < 16 → ∀ k, k < 16 → σ i = σ k → i = k) {N : Nat} (hN : a0.tmps.size = N) (hlt : ∀ i, i < 16 → i ≠ 13 → i ≠ 14 → σ i < N) (hp : ∀ k, k < 16 → p0 ≠ σ k ∧ p1 ≠ σ k ∧ p2 ≠ σ k ∧ p3 ≠ σ k)
    (r0 : rd a0 p0 = .pointer (some ⟨b0, o0, none⟩)) (r1 : rd a0 p1 = .pointer (some ⟨b1, o1, none⟩)) (r2 : rd a0 p2 = .string nm) (r3 : rd a0 p3 = .int .i64 q)
    (c00 : V0.cell? ⟨b0, o0, none⟩ = some (.string s)) (c01 : V0.cell? ⟨b0, o0 + 1, none⟩ = some (.slice A n c)) (c10 : V0.cell? ⟨b1, o1, none⟩ = some (.string u)) (c11 : V0.cell? ⟨b1, o1 + 1, none⟩ = some (.slice B m d))
    (hs : Sl V0 A n xs) (ht : Sl V0 B m ys) (hn : n ≤ 1048576) (hm : m ≤ 1048576)
    (hcall : ∀ (A1 B1 : Option Addr) (c1 d1 : Nat) (w : World), Own w V0.heap.size 59 (.slice A1 xs.length c1) xs → Own w V0.heap.size 59 (.slice B1 ys.length d1) ys →
      Calls Try.prog F #[.agg #[.string s, .slice A1 xs.length c1], .agg #[.string u, .slice B1 ys.length d1], .string nm, .int .i64 q] w (RetLoad3 w 59 r))
    (hQ : ∀ a w, a.tmps.size = a0.tmps.size → a.defers = a0.defers → (∀ t, (∀ k, k < 16 → t ≠ σ k) → rd a t = rd a0 t) → rd a (σ 15) = .bool r.2.2 →
      TwoP V0 59 r.1.Appliance r.2.1.Appliance r.1.Things r.2.1.Things (rd a (σ 11)) (rd a (σ 12)) w → Q .normal a w) :
    wpAny Try.prog .any ops Q 16 (Array.replicate 16 false) a0 { V0 with drawn := V0.drawn + 1 } := by
  refine wpAny_inv (Inv σ a0 V0 59 s u nm q A B n c m d xs ys r) ?_ ?_ 16 _ a0 _ (by decide) ?_
  · intro listed a w i ⟨hls, has, had, hout, hcl, A1, c1, B1, d1, C1, e1, D1, h1, g1, g2, I⟩ hi
    obtain ⟨hi16, hu, hdep⟩ := ready_deps hT hi
    have hi16 : i < 16 := hi16
    have hun : listed.getD i false = false := by
      have h' : i < listed.size := by omega
      rw [Array.getD, dif_pos h'] at hu ⊢
      exact hu
    -- what waits for i has not come up
    have hcases : i = 0 ∨ i = 1 ∨ i = 2 ∨ i = 3 ∨ i = 4 ∨ i = 5 ∨ i = 6 ∨ i = 7 ∨ i = 8 ∨ i = 9 ∨ i = 10 ∨ i = 11 ∨ i = 12 ∨ i = 13 ∨ i = 14 ∨ i = 15 := by omega
    rcases hcases with rfl | rfl | rfl | rfl | rfl | rfl | rfl | rfl | rfl | rfl | rfl | rfl | rfl | rfl | rfl | rfl
    · obtain ⟨o, ho, hg, hd_, hop⟩ := q0
      refine wpOp_at ho hg fun K hK => ?_
      have hev : a.eval (.tmp p0) = .pointer (some ⟨b0, o0, none⟩) := (hout p0 (fun k hk => (hp k hk).1)).trans r0
      have k0 := cell_later I.bl c00
      have k1 := cell_later I.bl c01
      refine op_load hop (v := .agg #[.string s, .slice A n c]) (by rw [hev]; go_simp) ?_
      rw [hd_]
      exact hK _ _ (Inv.put hls has had hout hcl hinj (by decide) hdep (by rw [hN]; exact hlt _ (by decide) (by decide) (by decide)) I.step0)
    · obtain ⟨o, ts, ho, hg, hd_, hop⟩ := q1
      refine wpOp_at ho hg fun K hK => ?_
      refine op_call hop (fn := Try.f8) Try.func8 rfl (by decide) (R := RetLoad w 59 ⟨s, xs⟩) ?_ ?_
      · have e : #[Operand.tmp (σ 0)].map a.eval = #[Value.agg #[.string s, .slice A n c]] := by simp only [List.map_toArray, List.map_cons, List.map_nil, rd_eval]; rw [I.f0 (hdep 0 (by decide))]
        rw [e]
        exact toLoad_any s A n c xs w hn (hs.below I.bl)
      · rintro e w' ⟨A', c', rfl, ho', hb⟩
        refine ⟨_, rfl, ?_⟩
        rw [hd_]
        exact hK _ _ (Inv.put hls has had hout hcl hinj (by decide) hdep (by rw [hN]; exact hlt _ (by decide) (by decide) (by decide)) (I.step1 hb ho'))
    · obtain ⟨o, ho, hg, hd_, hop⟩ := q2
      refine wpOp_at ho hg fun K hK => ?_
      have hev : a.eval (.tmp p1) = .pointer (some ⟨b1, o1, none⟩) := (hout p1 (fun k hk => (hp k hk).2.1)).trans r1
      have k0 := cell_later I.bl c10
      have k1 := cell_later I.bl c11
      refine op_load hop (v := .agg #[.string u, .slice B m d]) (by rw [hev]; go_simp) ?_
      rw [hd_]
      exact hK _ _ (Inv.put hls has had hout hcl hinj (by decide) hdep (by rw [hN]; exact hlt _ (by decide) (by decide) (by decide)) I.step2)
    · obtain ⟨o, ts, ho, hg, hd_, hop⟩ := q3
      refine wpOp_at ho hg fun K hK => ?_
      refine op_call hop (fn := Try.f8) Try.func8 rfl (by decide) (R := RetLoad w 59 ⟨u, ys⟩) ?_ ?_
      · have e : #[Operand.tmp (σ 2)].map a.eval = #[Value.agg #[.string u, .slice B m d]] := by simp only [List.map_toArray, List.map_cons, List.map_nil, rd_eval]; rw [I.f2 (hdep 2 (by decide))]
        rw [e]
        exact toLoad_any u B m d ys w hm (ht.below I.bl)
      · rintro e w' ⟨A', c', rfl, ho', hb⟩
        refine ⟨_, rfl, ?_⟩
        rw [hd_]
        exact hK _ _ (Inv.put hls has had hout hcl hinj (by decide) hdep (by rw [hN]; exact hlt _ (by decide) (by decide) (by decide)) (I.step3 hb ho'))
    · obtain ⟨o, ho, hg, hd_, hop⟩ := q4
      refine wpOp_at ho hg fun K hK => ?_
      refine op_move (.inl hop) ?_
      rw [hd_, show a.eval (.tmp p2) = _ from (hout p2 (fun k hk => (hp k hk).2.2.1)).trans r2]
      exact hK _ _ (Inv.put hls has had hout hcl hinj (by decide) hdep (by rw [hN]; exact hlt _ (by decide) (by decide) (by decide)) I.step4)
    · obtain ⟨o, ho, hg, hd_, hop⟩ := q5
      refine wpOp_at ho hg fun K hK => ?_
      refine op_move (.inl hop) ?_
      rw [hd_, show a.eval (.tmp p3) = _ from (hout p3 (fun k hk => (hp k hk).2.2.2)).trans r3]
      exact hK _ _ (Inv.put hls has had hout hcl hinj (by decide) hdep (by rw [hN]; exact hlt _ (by decide) (by decide) (by decide)) I.step5)
    · obtain ⟨o, ts, ho, hg, hd_, hop⟩ := q6
      refine wpOp_at ho hg fun K hK => ?_
      have n7 : listed.getD 7 false = false := by cases h : listed.getD 7 false with | false => rfl | true => have h2 := hcl 7 h 6 (by decide); rw [hun] at h2; cases h2
      have n8 : listed.getD 8 false = false := by cases h : listed.getD 8 false with | false => rfl | true => have h2 := hcl 8 h 7 (by decide); rw [n7] at h2; cases h2
      have n9 : listed.getD 9 false = false := by cases h : listed.getD 9 false with | false => rfl | true => have h2 := hcl 9 h 7 (by decide); rw [n7] at h2; cases h2
      have n13 : listed.getD 13 false = false := by cases h : listed.getD 13 false with | false => rfl | true => have h2 := hcl 13 h 6 (by decide); rw [hun] at h2; cases h2
      have n14 : listed.getD 14 false = false := by cases h : listed.getD 14 false with | false => rfl | true => have h2 := hcl 14 h 6 (by decide); rw [hun] at h2; cases h2

      refine op_call hop hF hF1 hF2 (R := RetLoad3 w 59 r) ?_ ?_
      · have e : #[Operand.tmp (σ 1), .tmp (σ 3), .tmp (σ 4), .tmp (σ 5)].map a.eval = #[.agg #[.string s, .slice A1 xs.length c1], .agg #[.string u, .slice B1 ys.length d1], .string nm, .int .i64 q] := by simp only [List.map_toArray, List.map_cons, List.map_nil, rd_eval]; rw [I.f1 (hdep 1 (by decide)), I.f3 (hdep 3 (by decide)), I.f4 (hdep 4 (by decide)), I.f5 (hdep 5 (by decide))]
        rw [e]
        exact hcall _ _ _ _ _ (I.o1 (hdep 1 (by decide)) hun) (I.o3 (hdep 3 (by decide)) hun)
      · rintro e w' ⟨C', e', D', h', rfl, ho', hp', hap, hb⟩
        refine ⟨_, rfl, ?_⟩
        rw [hd_]
        exact hK _ _ (Inv.put hls has had hout hcl hinj (by decide) hdep (by rw [hN]; exact hlt _ (by decide) (by decide) (by decide)) (I.step6 hb ho' hp' hap n7 n8 n9 n13 n14))
    · obtain ⟨o, ho, hg, hd_, hop⟩ := q7
      refine wpOp_at ho hg fun K hK => ?_
      refine op_move (.inl hop) ?_
      rw [hd_, show a.eval (.tmp (σ 6)) = _ from I.f6 (hdep 6 (by decide))]
      exact hK _ _ (Inv.put hls has had hout hcl hinj (by decide) hdep (by rw [hN]; exact hlt _ (by decide) (by decide) (by decide)) I.step7)
    · obtain ⟨o, ho, hg, hd_, hop⟩ := q8
      refine wpOp_at ho hg fun K hK => ?_
      refine op_extract hop (v := .agg #[.string r.1.Appliance, .slice C1 r.1.Things.length e1]) (by rw [show a.eval (.tmp (σ 7)) = _ from I.f7 (hdep 7 (by decide))]; rfl) ?_
      rw [hd_]
      exact hK _ _ (Inv.put hls has had hout hcl hinj (by decide) hdep (by rw [hN]; exact hlt _ (by decide) (by decide) (by decide)) I.step8)
    · obtain ⟨o, ho, hg, hd_, hop⟩ := q9
      refine wpOp_at ho hg fun K hK => ?_
      refine op_extract hop (v := .agg #[.string r.2.1.Appliance, .slice D1 r.2.1.Things.length h1]) (by rw [show a.eval (.tmp (σ 7)) = _ from I.f7 (hdep 7 (by decide))]; rfl) ?_
      rw [hd_]
      exact hK _ _ (Inv.put hls has had hout hcl hinj (by decide) hdep (by rw [hN]; exact hlt _ (by decide) (by decide) (by decide)) I.step9)
    · obtain ⟨o, ho, hg, hd_, hop⟩ := q10
      refine wpOp_at ho hg fun K hK => ?_
      refine op_extract hop (v := .bool r.2.2) (by rw [show a.eval (.tmp (σ 7)) = _ from I.f7 (hdep 7 (by decide))]; rfl) ?_
      rw [hd_]
      exact hK _ _ (Inv.put hls has had hout hcl hinj (by decide) hdep (by rw [hN]; exact hlt _ (by decide) (by decide) (by decide)) I.step10)
    · obtain ⟨o, ho, hg, hd_, hop⟩ := q11
      refine wpOp_at ho hg fun K hK => ?_
      have n13 : listed.getD 13 false = false := by cases h : listed.getD 13 false with | false => rfl | true => have h2 := hcl 13 h 11 (by decide); rw [hun] at h2; cases h2
      refine op_alloc hop (v := .pointer (some ⟨w.heap.size, 0, none⟩)) (w' := w.alloc (.cells #[.string ⟨#[]⟩, .slice none 0 0] 28)) (by go_simp) ?_
      rw [hd_]
      exact hK _ _ (Inv.put hls has had hout hcl hinj (by decide) hdep (by rw [hN]; exact hlt _ (by decide) (by decide) (by decide)) (I.step11 (bl_alloc (bl_refl _) _) (by simp) (BoxL.new' rfl) n13))
    · obtain ⟨o, ho, hg, hd_, hop⟩ := q12
      refine wpOp_at ho hg fun K hK => ?_
      have n14 : listed.getD 14 false = false := by cases h : listed.getD 14 false with | false => rfl | true => have h2 := hcl 14 h 12 (by decide); rw [hun] at h2; cases h2
      refine op_alloc hop (v := .pointer (some ⟨w.heap.size, 0, none⟩)) (w' := w.alloc (.cells #[.string ⟨#[]⟩, .slice none 0 0] 28)) (by go_simp) ?_
      rw [hd_]
      exact hK _ _ (Inv.put hls has had hout hcl hinj (by decide) hdep (by rw [hN]; exact hlt _ (by decide) (by decide) (by decide)) (I.step12 (bl_alloc (bl_refl _) _) (by simp) (BoxL.new' rfl) n14))
    · obtain ⟨o, ho, hg, hd_, hop⟩ := q13
      refine wpOp_at ho hg fun K hK => ?_
      have hz := I.z1 (hdep 11 (by decide)) hun
      have k0 := hz.c0
      have k1 := hz.c1
      have k2 := hz.f0
      have k3 := hz.f1
      have k4 := hz.lt
      refine op_store hop (w' := (w.setCell ⟨g1, 0, none⟩ (.string r.1.Appliance)).setCell ⟨g1, 1, none⟩ (.slice C1 r.1.Things.length e1)) (by rw [show a.eval (.tmp (σ 11)) = _ from I.f11 (hdep 11 (by decide)), show a.eval (.tmp (σ 8)) = _ from I.f8 (hdep 8 (by decide))]; go_simp) ?_
      rw [hd_]
      exact hK _ _ (Inv.nop hls has had hout hcl (by decide) hdep (I.step13 (hdep 6 (by decide)) (hdep 11 (by decide)) (hdep 12 (by decide)) hun))
    · obtain ⟨o, ho, hg, hd_, hop⟩ := q14
      refine wpOp_at ho hg fun K hK => ?_
      have hz := I.z2 (hdep 12 (by decide)) hun
      have k0 := hz.c0
      have k1 := hz.c1
      have k2 := hz.f0
      have k3 := hz.f1
      have k4 := hz.lt
      refine op_store hop (w' := (w.setCell ⟨g2, 0, none⟩ (.string r.2.1.Appliance)).setCell ⟨g2, 1, none⟩ (.slice D1 r.2.1.Things.length h1)) (by rw [show a.eval (.tmp (σ 12)) = _ from I.f12 (hdep 12 (by decide)), show a.eval (.tmp (σ 9)) = _ from I.f9 (hdep 9 (by decide))]; go_simp) ?_
      rw [hd_]
      exact hK _ _ (Inv.nop hls has had hout hcl (by decide) hdep (I.step14 (hdep 6 (by decide)) (hdep 11 (by decide)) (hdep 12 (by decide)) hun))
    · obtain ⟨o, ho, hg, hd_, hop⟩ := q15
      refine wpOp_at ho hg fun K hK => ?_
      refine op_move (.inr hop) ?_
      rw [hd_, show a.eval (.tmp (σ 10)) = _ from I.f10 (hdep 10 (by decide))]
      exact hK _ _ (Inv.put hls has had hout hcl hinj (by decide) hdep (by rw [hN]; exact hlt _ (by decide) (by decide) (by decide)) I.step15)
  · intro listed a w ⟨hls, has, had, hout, hcl, A1, c1, B1, d1, C1, e1, D1, h1, g1, g2, I⟩ hr
    have hall := ready_none hT (by decide) hls hr
    have hL : ∀ k, k < 16 → listed.getD k false = true := hall
    refine hQ a w has had hout (I.f15 (hL _ (by decide))) ?_
    rw [show rd a (σ 11) = _ from I.f11 (hL 11 (by decide)), show rd a (σ 12) = _ from I.f12 (hL 12 (by decide))]
    refine twoP_mk (A1 := C1) (c1 := e1) (B1 := D1) (d1 := h1) ⟨(I.l1 (hL 11 (by decide))).1, (I.l2 (hL 12 (by decide))).1, I.ne (hL 11 (by decide)) (hL 12 (by decide)), I.bl, I.b1 (hL 13 (by decide)), I.b2 (hL 14 (by decide)), I.o6 (hL 6 (by decide)), I.p6 (hL 6 (by decide)), fun k hk => ⟨I.n1 (hL 6 (by decide)) (hL 11 (by decide)) k (.inl hk), I.n2 (hL 6 (by decide)) (hL 12 (by decide)) k (.inl hk), I.ap (hL 6 (by decide)) k hk⟩, fun k hk => ⟨I.n1 (hL 6 (by decide)) (hL 11 (by decide)) k (.inr hk), I.n2 (hL 6 (by decide)) (hL 12 (by decide)) k (.inr hk)⟩⟩
  · have hno : ∀ k, (Array.replicate 16 false).getD k false = true → False := fun k h => by
      rw [Array.getD] at h
      split at h <;> simp at h
    exact ⟨by simp, rfl, rfl, fun _ _ => rfl, fun k h => (hno k h).elim, none, 0, none, 0, none, 0, none, 0, 0, 0, DI.start hno (bl_drew (bl_refl V0))⟩
end Go.Proofs.Ytokcgjjnljflaaa
