/-
  Several texts in one. No conditions.
-/
import Derived.Test.YtgjnjfaohpmhkaaSsX
import Derived.Test.YtgjnjfaohpmhkaaSsL
import Derived.Test.YtgjnjfaohpmhkaaIss
import Derived.Test.YtgjnjfaohpmhkaaMem7
import Derived.Test.YtgjnjfaohpmhkaaLibS
import Derived.Deep.CutBlock
namespace Go.Proofs.Ytgjnjfaohpmhkaa
open Go.RowKit

theorem symMerge_ok (base g n c : Nat) (fg : FuncId) (caps : Array Value) (cf : Int → Int → Int) (key : Int → Int) (D : Int → Prop) (w0 : World) (hen : Enters Try.prog fg) (hc : CmpI g fg caps cf D w0) (hk : ∀ x y, cf x y < 0 ↔ key x < key y) (hn : n ≤ 1000) : ∀ N, SymOk base g n c fg caps key D w0 N
  | 0 => fun P A B Q L0 a m b w hN ha hm hb hA hB => absurd hN (by omega)
  | N + 1 => fun P A B Q L0 a m b w hN ha hm hb hA hB hL hD hs1 hs2 hX hw ho => by
    by_cases h1 : A.length = 1
    · obtain ⟨x, rfl⟩ : ∃ x, A = [x] := by
        cases A with
        | nil => simp at h1
        | cons x A => cases A with
          | nil => exact ⟨x, rfl⟩
          | cons y A => simp at h1
      exact symL_any base g n c P B Q L0 x a m b fg caps cf key D w0 w hen hc hk ha (by simpa using hm) hb hn hL (hD x (by simp)) (fun y hy => hD y (by simp [hy])) hs2 (fun y hy e => hX x (by simp) y hy e) hw ho
    · by_cases h2 : B.length = 1
      · obtain ⟨x, rfl⟩ : ∃ x, B = [x] := by
          cases B with
          | nil => simp at h2
          | cons x A => cases A with
            | nil => exact ⟨x, rfl⟩
            | cons y A => simp at h2
        exact symR_any base g n c P A Q L0 x a m b fg caps cf key D w0 w hen hc hk ha (by omega) hm (by simpa using hb) hn hL (hD x (by simp)) (fun y hy => hD y (by simp [hy])) hs1 (fun y hy e => hX y hy x (by simp) e) hw ho
      · exact sym_step base g n c P A B Q L0 a m b N fg caps cf key D w0 w (symMerge_ok base g n c fg caps cf key D w0 hen hc hk hn N) hen hc hk hN ha hm hb (by omega) (by omega) hn hL hD hs1 hs2 hX hw ho
/-- what the sort leaves -/
def RetSort (w : World) (base g n c : Nat) (key : Int → Int) (L : List Int) (e : Ending) (w' : World) : Prop :=
  e = .returned (.tuple #[]) ∧ (∃ M, M.Perm L ∧ SrtK key M ∧ Own w' base 3 (.slice (some ⟨g, 0, none⟩) n c) M) ∧ OnlyF [g] w w'
/-- insertion sort at any range -/
theorem insertion_all (base g n c : Nat) (P A Q L0 : List Int) (a b : Nat) (fg : FuncId) (caps : Array Value) (cf : Int → Int → Int) (key : Int → Int) (D : Int → Prop) (w0 w : World) (hen : Enters Try.prog fg) (hc : CmpI g fg caps cf D w0) (hk : ∀ x y, cf x y < 0 ↔ key x < key y)
    (ha : P.length = a) (hb : P.length + A.length = b) (hn : n ≤ 1000) (hL : L0 = P ++ (A ++ Q)) (hD : ∀ x, x ∈ A → D x) (hX : A.Pairwise (fun u v => key u = key v → u < v)) (hw : OnlyF [g] w0 w) (ho : Own w base 3 (.slice (some ⟨g, 0, none⟩) n c) L0) :
    Calls Try.prog 89 #[.slice (some ⟨g, 0, none⟩) n c, .int .i64 (a : Int), .int .i64 (b : Int), .func (.func fg) #[] caps] w fun e w' => e = .returned (.tuple #[]) ∧ (∃ M, M.Perm A ∧ SrtK key M ∧ Own w' base 3 (.slice (some ⟨g, 0, none⟩) n c) (P ++ (M ++ Q))) ∧ OnlyF [g] w w' := by
  by_cases h : 0 < A.length
  · exact insertion_any base g n c P A Q L0 a b fg caps cf key D w0 w hen hc hk ha hb h hn hL hD hX hw ho
  · obtain rfl : A = [] := List.eq_nil_of_length_eq_zero (by omega)
    have hl := ho.sl.1
    rw [hL] at hl
    simp only [List.length_append, List.length_nil] at hl hb
    refine (insertion_small _ _ a b w (by omega) (by omega)).mono ?_
    rintro e V ⟨rfl, rfl⟩
    exact ⟨rfl, ⟨[], List.Perm.refl _, List.Pairwise.nil, by rw [← hL]; exact ho⟩, OnlyF.refl _ _⟩
set_option maxRecDepth 100000 in
set_option maxHeartbeats 8000000 in
theorem stable_lt (base g n c : Nat) (L : List Int) (fg : FuncId) (caps : Array Value) (cf : Int → Int → Int) (key : Int → Int) (D : Int → Prop) (w : World) (hen : Enters Try.prog fg) (hc : CmpI g fg caps cf D w) (hk : ∀ x y, cf x y < 0 ↔ key x < key y)
    (hn : n < 20) (hD : ∀ x, x ∈ L → D x) (hX : L.Pairwise (fun u v => key u = key v → u < v)) (ho : Own w base 3 (.slice (some ⟨g, 0, none⟩) n c) L) :
    Calls Try.prog 75 #[.slice (some ⟨g, 0, none⟩) n c, .int .i64 (n : Int), .func (.func fg) #[] caps] w (RetSort w base g n c key L) := by
  have hi := Lib.hid (fun W (hW : w = W) => by
    have h := insertion_all base g n c [] L [] L 0 n fg caps cf key D w W hen hc hk rfl (by have := ho.sl.1; simp; omega) (by omega) (by simp) hD hX (by rw [hW]; exact OnlyF.refl _ _) (by rw [← hW]; exact ho)
    exact h)
  have hd1 : decide (20 ≤ n) = false := decide_eq_false (by omega)
  have hd2 : decide (20 < n) = false := decide_eq_false (by omega)
  clear hc hk hD hX hen
  go_enter Try.func75, Try.ntmps75
  go_wp2
  go_loopw [7, 8] (fun av bv wr => av = .int .i64 0 ∧ bv = .int .i64 20 ∧ w = wr) (fun _ _ _ => 0)
  case atStart => exact ⟨rfl, rfl, rfl⟩
  case round =>
    obtain ⟨rfl, rfl, rfl⟩ := hrel
    go_wp2_with fail
    refine (hi.out _ rfl).mono ?_
    rintro e V1 ⟨rfl, ⟨M, p1, p2, ho1⟩, hf1⟩
    have HF : Hid (RetSort w base g n c key L (.returned (.tuple #[])) V1) := ⟨rfl, ⟨M, p1, p2, by simpa using ho1⟩, hf1⟩
    clear p1 p2 ho1 ho hi
    go_wp2
    go_loopw [6] (fun sv wr => sv = .int .i64 20 ∧ V1 = wr) (fun _ _ => 0)
    case atStart => exact ⟨rfl, rfl⟩
    case round =>
      obtain ⟨rfl, rfl⟩ := hrel
      go_wp2
      go_end0
      exact HF.out
set_option maxRecDepth 100000 in
set_option maxHeartbeats 8000000 in
theorem stable_ge (base g n c : Nat) (L : List Int) (fg : FuncId) (caps : Array Value) (cf : Int → Int → Int) (key : Int → Int) (D : Int → Prop) (w : World) (hen : Enters Try.prog fg) (hc : CmpI g fg caps cf D w) (hk : ∀ x y, cf x y < 0 ↔ key x < key y)
    (hn1 : 20 ≤ n) (hn : n ≤ 24) (hD : ∀ x, x ∈ L → D x) (hX : L.Pairwise (fun u v => key u = key v → u < v)) (ho : Own w base 3 (.slice (some ⟨g, 0, none⟩) n c) L) :
    Calls Try.prog 75 #[.slice (some ⟨g, 0, none⟩) n c, .int .i64 (n : Int), .func (.func fg) #[] caps] w (RetSort w base g n c key L) := by
  have hl := ho.sl.1
  obtain ⟨A, B, hAB, hA⟩ := split_at (Y := L) (k := 20) (by omega)
  have hB : 20 + B.length = n := by rw [hAB, List.length_append] at hl; omega
  have hX2 := hX
  rw [hAB] at hX2
  obtain ⟨xA, xB, xC⟩ := List.pairwise_append.1 hX2
  have dA : ∀ x, x ∈ A → D x := fun x hx => hD x (by rw [hAB]; simp [hx])
  have dB : ∀ x, x ∈ B → D x := fun x hx => hD x (by rw [hAB]; simp [hx])
  have h1 := Lib.hid (insertion_all base g n c [] A B L 0 20 fg caps cf key D w w hen hc hk rfl (by simp; omega) (by omega) hAB dA xA (OnlyF.refl _ _) ho)
  have h2 : Hid (∀ M1 W, M1.Perm A → SrtK key M1 → OnlyF [g] w W → Own W base 3 (.slice (some ⟨g, 0, none⟩) n c) ([] ++ (M1 ++ B)) → Calls Try.prog 89 #[.slice (some ⟨g, 0, none⟩) n c, .int .i64 20, .int .i64 (n : Int), .func (.func fg) #[] caps] W fun e w' => e = .returned (.tuple #[]) ∧ (∃ M, M.Perm B ∧ SrtK key M ∧ Own w' base 3 (.slice (some ⟨g, 0, none⟩) n c) (M1 ++ (M ++ []))) ∧ OnlyF [g] W w') := by
    intro M1 W p s f o
    have hm := p.length_eq
    exact insertion_all base g n c M1 B [] _ 20 n fg caps cf key D w W hen hc hk (by omega) (by omega) (by omega) (by simp) dB xB f o
  have h3 : Hid (∀ M1 M2 W, 20 < n → M1.Perm A → SrtK key M1 → M2.Perm B → SrtK key M2 → OnlyF [g] w W → Own W base 3 (.slice (some ⟨g, 0, none⟩) n c) (M1 ++ (M2 ++ [])) → Calls Try.prog 90 #[.slice (some ⟨g, 0, none⟩) n c, .int .i64 0, .int .i64 20, .int .i64 (n : Int), .func (.func fg) #[] caps] W (RetMerge W base g n c key [] (M1 ++ M2) [])) := by
    intro M1 M2 W hn2 p s q t f o
    have hm := p.length_eq
    have hm2 := q.length_eq
    exact symMerge_ok base g n c fg caps cf key D w hen hc hk (by omega) _ [] M1 M2 [] _ 0 20 n W (Nat.le_refl _) rfl (by omega) (by omega) (by omega) (by omega) rfl (fun x hx => by
      rcases List.mem_append.1 hx with hx | hx
      · exact dA x (p.mem_iff.1 hx)
      · exact dB x (q.mem_iff.1 hx)) s t (fun x hx y hy e => xC x (p.mem_iff.1 hx) y (q.mem_iff.1 hy) e) f (by simpa using o)
  have hlt : 20 < n ∨ n = 20 := by omega
  have HAB := Lib.hid hAB
  have HB := Lib.hid hB
  have hd1 : decide (20 ≤ n) = true := decide_eq_true hn1
  have hd2 : decide (40 ≤ n) = false := decide_eq_false (by omega)
  have hd3 : decide (40 < n) = false := decide_eq_false (by omega)
  clear hc hk hD hX hen hAB hX2 xA xB xC dA dB hl hA hB
  go_enter Try.func75, Try.ntmps75
  go_wp2
  go_loopw [7, 8] (fun av bv wr => ∃ a : Nat, av = .int .i64 a ∧ bv = .int .i64 ((a + 20 : Nat) : Int) ∧ (a = 0 ∨ a = 20) ∧ Hid ((a = 0 → w = wr) ∧ (a = 20 → OnlyF [g] w wr ∧ ∃ M1, M1.Perm A ∧ SrtK key M1 ∧ Own wr base 3 (.slice (some ⟨g, 0, none⟩) n c) ([] ++ (M1 ++ B))))) (fun av _ _ => 20 - (intOf av).toNat)
  case atStart => exact ⟨0, rfl, rfl, .inl rfl, ⟨fun _ => rfl, fun h => by omega⟩⟩
  case round =>
    obtain ⟨a, rfl, rfl, ha, HH⟩ := hrel
    rcases ha with rfl | rfl
    · obtain rfl := HH.out.1 rfl
      clear HH
      go_wp2_with fail
      refine h1.out.mono ?_
      rintro e V1 ⟨rfl, ⟨M1, p1, p2, ho1⟩, hf1⟩
      have HP : Hid (OnlyF [g] w V1 ∧ ∃ M1, M1.Perm A ∧ SrtK key M1 ∧ Own V1 base 3 (.slice (some ⟨g, 0, none⟩) n c) ([] ++ (M1 ++ B))) := ⟨hf1, M1, p1, p2, ho1⟩
      clear p1 p2 ho1 hf1
      go_wp2
      go_roundw
      case rel => exact ⟨20, rfl, rfl, .inr rfl, ⟨fun h => by omega, fun _ => HP.out⟩⟩
      case measure => simp [intOf]
    · obtain ⟨hf1, M1, p1, p2, ho1⟩ := HH.out.2 rfl
      have HP1 := Lib.hid p1
      clear HH p1
      go_wp2_with fail
      refine (h2.out M1 _ HP1.out p2 hf1 ho1).mono ?_
      rintro e V1 ⟨rfl, ⟨M2, q1, q2, ho2⟩, hf2⟩
      have HP2 := Lib.hid q1
      have HF2 := Lib.hid (hf1.trans hf2)
      clear q1 hf1 hf2 ho1
      obtain ⟨wo, hwo⟩ : ∃ wo, wo = V1 := ⟨_, rfl⟩
      subst hwo
      have hfin : ∀ M W, M.Perm (M1 ++ M2) → SrtK key M → Own W base 3 (.slice (some ⟨g, 0, none⟩) n c) ([] ++ (M ++ [])) → OnlyF [g] w W → RetSort w base g n c key L (.returned (.tuple #[])) W := by
        intro M W q s o f
        exact ⟨rfl, ⟨M, by rw [HAB.out]; exact q.trans (HP1.out.append HP2.out), s, by simpa using o⟩, f⟩
      have HFin := Lib.hid hfin
      clear hfin
      go_wp2
      rcases hlt with hlt | rfl
      · go_loopw [6] (fun sv wr => (sv = .int .i64 20 ∧ wo = wr) ∨ (sv = .int .i64 40 ∧ RetSort w base g n c key L (.returned (.tuple #[])) wr)) (fun sv _ => 40 - (intOf sv).toNat)
        case atStart => exact .inl ⟨rfl, rfl⟩
        case round =>
          rcases hrel with ⟨rfl, rfl⟩ | ⟨rfl, hre⟩
          · have hd4 : decide (20 < n) = true := decide_eq_true hlt
            go_wp2
            go_loopw [7, 8] (fun av bv wr => av = .int .i64 0 ∧ bv = .int .i64 40 ∧ wo = wr) (fun _ _ _ => 0)
            case atStart => exact ⟨rfl, rfl, rfl⟩
            case round =>
              obtain ⟨rfl, rfl, rfl⟩ := hrel
              go_wp2_with fail
              refine (h3.out M1 M2 _ hlt HP1.out p2 HP2.out q2 HF2.out ho2).mono ?_
              rintro e V2 ⟨rfl, ⟨M, r1, r2, ho3⟩, hf3⟩
              have HX := Lib.hid (HFin.out M V2 r1 r2 ho3 (HF2.out.trans hf3))
              clear r1 r2 ho3 hf3
              go_wp2
              go_roundw
              case rel => exact .inr ⟨by go_num, HX.out⟩
              case measure => simp [intOf]
          · have HR := Lib.hid hre
            clear hre
            go_wp2
            go_end0
            exact HR.out
      · have hB0 : M2 = [] := List.eq_nil_of_length_eq_zero (by have := HP2.out.length_eq; have := HB.out; omega)
        have HX := Lib.hid (HFin.out M1 wo (by rw [hB0, List.append_nil]) p2 (by rw [hB0] at ho2; simpa using ho2) HF2.out)
        clear hB0 ho2
        go_loopw [6] (fun sv wr => sv = .int .i64 20 ∧ wo = wr) (fun _ _ => 0)
        case atStart => exact ⟨rfl, rfl⟩
        case round =>
          obtain ⟨rfl, rfl⟩ := hrel
          go_wp2
          go_end0
          exact HX.out
end Go.Proofs.Ytgjnjfaohpmhkaa

namespace Go.Proofs.Ytgjnjfaohpmhkaa
open Go.RowKit

theorem Sl.onlyG {α : Type} [Flat α] {w w' : World} {A : Option Addr} {n : Nat} {xs : List α} (h : Sl w A n xs) {F : List Nat} (hf : OnlyF F w w') (hne : ∀ b o, A = some ⟨b, o, none⟩ → 0 < n → b ∉ F) : Sl w' A n xs := by
  refine ⟨h.1, fun k x hx => ?_⟩
  obtain ⟨b, o, cs, hA, hr, hc⟩ := h.2 k x hx
  have hk : k < n := by rw [← h.1]; exact (List.getElem?_eq_some_iff.1 hx).1
  exact ⟨b, o, cs, hA, hr, fun j v hv => hf.keeps (hc j v hv) (hne b o hA (by omega))⟩
/-- append of one new element, with what it did to memory -/
theorem wpList_app1r {α : Type} [Flat α] {P : Program} {ops : Array Oper} {rest : List Oper} {o : Oper} {a : Act} {Q : Exit → Act → World → Prop} (hgd : o.guard = none) (s x : Operand) (t e : TypeId)
    (ho : o.op = .call { callee := .builtin .append, args := #[s, x], argTypes := #[t, t] }) (he : Elem P t e (Flat.sz α)) {base : Nat} {w : World} {A : Option Addr} {n c g : Nat} {xs : List α} (y : α) (hs : a.eval s = .slice A n c)
    (hown : Own w base e (.slice A n c) xs) (hb : base ≤ w.heap.size) (hx : a.eval x = .slice (some ⟨g, 0, none⟩) 1 1) (hgw : w.heap.size = g) (hlim : n ≤ 274877906944)
    (h : ∀ A' c' w', Own w' base e (.slice A' (n + 1) c') (xs ++ [y]) → OnlyF (Value.ownBlock (.slice A n c)).toList w w' → wpList P ops Q rest (a.put o.dst (.slice A' (n + 1) c')) w') :
    wpList P ops Q (o :: rest) a (w.alloc (.cells (Flat.enc y).toArray e)) := by
  subst hgw
  obtain ⟨i, z, h1, h2, h3, h4, h5, h6⟩ := he
  have hn := hown.sl.1
  have ho1 : (w.alloc (.cells (Flat.enc y).toArray e)).ownsRow base e (Flat.sz α) (.slice A n c) n (cellsOf xs) := by
    have := World.ownsRow.alloc hown (.cells (Flat.enc y).toArray e)
    rwa [hn] at this
  refine wpList_append_own _ hgd s x t ho base e i z (Flat.sz α) i.bytes h1 h2 h3 h4 rfl h6 Flat.pos _ n (cellsOf xs) hs ho1 ⟨w.heap.size, 0, none⟩ 1 1 (Flat.enc y) hx (by rw [Flat.len, Nat.one_mul]) ?_ (Flat.one y) ?_ ?_ ?_ ?_
  · intro j u hu
    rw [addr_add, Nat.zero_add, World.cell?_alloc_new]
    simpa using hu
  · unfold maxLen; omega
  · have : (n + 1) * i.bytes ≤ (n + 1) * 256 := Nat.mul_le_mul_left _ h5
    omega
  · simp only [World.size_alloc]; omega
  · intro v' w' hown' hg _
    have hnx : (xs ++ [y]).length = n + 1 := by simp [hn]
    have hO : Own w' base e v' (xs ++ [y]) := by unfold Own; rw [hnx, cellsOf_append, cellsOf_one]; exact hown'
    obtain ⟨A', c', rfl⟩ := hO.slice
    rw [hnx] at hO ⊢
    exact h A' c' w' hO ((OnlyF.below (bl_alloc (bl_refl _) _)).trans (OnlyF.of_gb hg))
theorem el_ints : Elem Try.prog 24 38 (Flat.sz IntsR) := elem_mk Try.underlying24 (by kernel_rfl)
/-- SortStableFunc over ints, at most 24 of them -/
def RetSortV (w : World) (base : Nat) (v : Value) (key : Int → Int) (L : List Int) (e : Ending) (w' : World) : Prop :=
  e = .returned (.tuple #[]) ∧ (∃ M, M.Perm L ∧ SrtK key M ∧ Own w' base 3 v M) ∧ OnlyF v.ownBlock.toList w w'
set_option maxRecDepth 100000 in
set_option maxHeartbeats 8000000 in
theorem stable_zero (v cv : Value) (w : World) :
    Calls Try.prog 75 #[v, .int .i64 0, cv] w fun e w' => e = .returned (.tuple #[]) ∧ w' = w := by
  go_enter Try.func75, Try.ntmps75
  go_wp2
  go_loopw [7, 8] (fun av bv wr => av = .int .i64 0 ∧ bv = .int .i64 20 ∧ w = wr) (fun _ _ _ => 0)
  case atStart => exact ⟨rfl, rfl, rfl⟩
  case round =>
    obtain ⟨rfl, rfl, rfl⟩ := hrel
    go_wp2_with fail
    refine (insertion_small v cv 0 0 w (by omega) (by omega)).mono ?_
    rintro e V1 ⟨rfl, rfl⟩
    go_wp2
    go_loopw [6] (fun sv wr => sv = .int .i64 20 ∧ V1 = wr) (fun _ _ => 0)
    case atStart => exact ⟨rfl, rfl⟩
    case round =>
      obtain ⟨rfl, rfl⟩ := hrel
      go_wp2
      go_end0
      exact ⟨rfl, rfl⟩
set_option maxRecDepth 100000 in
set_option maxHeartbeats 8000000 in
theorem sortStable_any (A : Option Addr) (base n c : Nat) (L : List Int) (fg : FuncId) (caps : Array Value) (cf : Int → Int → Int) (key : Int → Int) (D : Int → Prop) (w : World) (hen : Enters Try.prog fg) (hc : ∀ g, A = some ⟨g, 0, none⟩ → CmpI g fg caps cf D w) (hk : ∀ x y, cf x y < 0 ↔ key x < key y)
    (hn : n ≤ 24) (hD : ∀ x, x ∈ L → D x) (hX : L.Pairwise (fun u v => key u = key v → u < v)) (ho : Own w base 3 (.slice A n c) L) :
    Calls Try.prog 43 #[.slice A n c, .func (.func fg) #[] caps] w (RetSortV w base (.slice A n c) key L) := by
  have hs : Hid (Calls Try.prog 75 #[.slice A n c, .int .i64 (n : Int), .func (.func fg) #[] caps] w (RetSortV w base (.slice A n c) key L)) := by
    by_cases h0 : n = 0
    · subst h0
      refine (stable_zero _ _ w).mono ?_
      rintro e V ⟨rfl, rfl⟩
      have hl : L = [] := List.eq_nil_of_length_eq_zero ho.sl.1
      exact ⟨rfl, ⟨L, List.Perm.refl _, by rw [hl]; exact List.Pairwise.nil, ho⟩, OnlyF.refl _ _⟩
    · obtain ⟨g, rfl⟩ := ho.form (by omega)
      by_cases h1 : n < 20
      · exact stable_lt base g n c L fg caps cf key D w hen (hc g rfl) hk h1 hD hX ho
      · exact stable_ge base g n c L fg caps cf key D w hen (hc g rfl) hk (by omega) hn hD hX ho
  clear hc hk hD hX ho hen
  go_enter Try.func43, Try.ntmps43
  go_wp2_with fail
  refine hs.out.mono ?_
  rintro e V ⟨rfl, h2⟩
  have H2 := Lib.hid h2
  clear h2
  go_wp2
  go_end0
  exact ⟨rfl, H2.out⟩
theorem enters_ses : Enters Try.prog 44 := enters_of Try.func44 (by kernel_rfl) (by kernel_rfl)
set_option maxHeartbeats 2000000 in
theorem sesCmp_any (xs : List Skill) (A : Option Addr) (n c bl : Nat) (x y : Nat) (W : World) (hx : x < n) (hy : y < n) (hbox : W.cell? ⟨bl, 0, none⟩ = some (.slice A n c)) (hs : Sl W A n xs) :
    Calls Try.prog 44 #[.int .i64 (x : Int), .int .i64 (y : Int), .pointer (some ⟨bl, 0, none⟩)] W fun e V => e = .returned (.int .i64 (cmpI (nth xs x).Until (nth xs y).Until)) ∧ Below W.heap.size W V := by
  obtain ⟨b, o, rfl, hbz, c0, c1, c2⟩ := hs.skill hx
  obtain ⟨b', o', he, hbz', d0, d1, d2⟩ := hs.skill hy
  injection he with he
  injection he with e1 e2
  subst e1 e2
  clear hs c0 c1 d0 d1
  go_enter Try.func44, Try.ntmps44
  go_wp2_with fail
  refine wp_region_grow (by kernel_rfl) (by kernel_rfl) (fun X hX => ?_)
  have r0 := Gw.cell (by rw [hX]; exact hbox : X.cell? _ = _)
  have r1 := Gw.cell (by rw [hX]; exact c2 : X.cell? _ = _)
  have r2 := Gw.cell (by rw [hX]; exact d2 : X.cell? _ = _)
  have HX := Lib.hid hX
  clear hX hbox c2 d2
  repeat (go_big_quiet_step ((go_at_call 45; exact Calls.grow_same (cmpI_any _ _ _))))
  refine wpGrow_nil (fun V hV => ?_)
  have hbV : Below W.heap.size W V := by rw [← HX.out]; exact hV
  clear hV r0 r1 r2
  go_wp2
  go_ret
  exact ⟨rfl, hbV⟩
theorem cmpI_key (a b : Int) : cmpI a b < 0 ↔ a < b := by
  unfold cmpI; split
  · rename_i h; exact ⟨fun _ => h, fun _ => by decide⟩
  · rename_i h
    split
    · exact ⟨fun h2 => absurd h2 (by decide), fun h2 => absurd h2 h⟩
    · exact ⟨fun h2 => absurd h2 (by decide), fun h2 => absurd h2 h⟩
theorem ses_cmp (xs : List Skill) (A : Option Addr) (n c bl g : Nat) (w : World) (hbox : w.cell? ⟨bl, 0, none⟩ = some (.slice A n c)) (hs : Sl w A n xs) (hgl : bl ≠ g) (hg : ∀ b o, A = some ⟨b, o, none⟩ → 0 < n → b ≠ g) :
    CmpI g 44 #[.pointer (some ⟨bl, 0, none⟩)] (fun a b => cmpI (keyU xs a) (keyU xs b)) (fun i => ∃ j : Nat, j < n ∧ (j : Int) = i) w := by
  rintro _ _ ⟨x, hx, rfl⟩ ⟨y, hy, rfl⟩ W hW
  have h := sesCmp_any xs A n c bl x y W hx hy (hW.keeps hbox (fun h => hgl (List.mem_singleton.1 h))) (hs.onlyG hW (fun b o hA h0 hm => hg b o hA h0 (List.mem_singleton.1 hm)))
  have e1 : keyU xs (x : Int) = (nth xs x).Until := by unfold keyU; rw [Int.toNat_natCast]
  have e2 : keyU xs (y : Int) = (nth xs y).Until := by unfold keyU; rw [Int.toNat_natCast]
  simp only [e1, e2]
  exact h
end Go.Proofs.Ytgjnjfaohpmhkaa

namespace Go.Proofs.Ytgjnjfaohpmhkaa
open Go.RowKit

theorem ssB_parts {xs : List Skill} {day ahead seats : Int} (h1 : askB xs day ahead = true) (h2 : inB seats 1 10 = true) : ssB xs day ahead seats = true := by unfold ssB; rw [h1, h2]; rfl
/-- what a round over the due ones keeps: the full sessions, and the one that is being filled -/
def Fill (xs : List Skill) (day ahead : Int) (m k j : Nat) (full : List (List Int)) (ses : List Int) : Prop :=
  (∀ c, c ∈ full → c.length = m) ∧ ses.length < m ∧ ((dueS xs day ahead).take j).filter (kindK xs (k : Int)) = full.flatten ++ ses
theorem Fill.start (xs : List Skill) (day ahead : Int) {m k : Nat} (hm : 0 < m) : Fill xs day ahead m k 0 [] [] := ⟨(fun c h => by cases h), hm, by simp⟩
theorem take_filter {p : Int → Bool} {l : List Int} {j : Nat} (hj : j < l.length) : (l.take (j + 1)).filter p = (l.take j).filter p ++ (if p (nth l j) then [nth l j] else []) := by
  rw [take_succ hj, List.filter_append]
  congr 1
  by_cases h : p (nth l j) = true
  · rw [if_pos h]; simp [h]
  · rw [if_neg h]; simp [h]
theorem Fill.no {xs : List Skill} {day ahead : Int} {m k j : Nat} {full : List (List Int)} {ses : List Int} (h : Fill xs day ahead m k j full ses) (hj : j < (dueS xs day ahead).length) (hp : kindK xs (k : Int) (nth (dueS xs day ahead) j) = false) : Fill xs day ahead m k (j + 1) full ses :=
  ⟨h.1, h.2.1, by rw [take_filter hj, hp, h.2.2]; simp⟩
theorem Fill.more {xs : List Skill} {day ahead : Int} {m k j : Nat} {full : List (List Int)} {ses : List Int} (h : Fill xs day ahead m k j full ses) (hj : j < (dueS xs day ahead).length) (hp : kindK xs (k : Int) (nth (dueS xs day ahead) j) = true) (hl : ¬ ses.length + 1 = m) : Fill xs day ahead m k (j + 1) full (ses ++ [nth (dueS xs day ahead) j]) :=
  ⟨h.1, by have := h.2.1; rw [List.length_append]; simp; omega, by rw [take_filter hj, hp, h.2.2]; simp⟩
theorem Fill.next {xs : List Skill} {day ahead : Int} {m k j : Nat} {full : List (List Int)} {ses : List Int} (h : Fill xs day ahead m k j full ses) (hj : j < (dueS xs day ahead).length) (hp : kindK xs (k : Int) (nth (dueS xs day ahead) j) = true) (hl : ses.length + 1 = m) : Fill xs day ahead m k (j + 1) (full ++ [ses ++ [nth (dueS xs day ahead) j]]) [] :=
  ⟨fun c hc => by
    rcases List.mem_append.1 hc with hc | hc
    · exact h.1 c hc
    · rw [List.mem_singleton.1 hc, List.length_append]; simp; omega, by show (0 : Nat) < m; omega, by rw [take_filter hj, hp, h.2.2]; simp⟩
theorem Fill.done {xs : List Skill} {day ahead : Int} {m k : Nat} {full : List (List Int)} {ses : List Int} (h : Fill xs day ahead m k (dueS xs day ahead).length full ses) : ssU xs day ahead m (k + 1) = ssU xs day ahead m k ++ full ++ (if ses.length = 0 then [] else [ses]) := by
  have h2 := h.2.2
  rw [List.take_length] at h2
  have hm : 0 < m := Nat.lt_of_le_of_lt (Nat.zero_le _) h.2.1
  rw [ssU_succ, h2, chunk_full hm full ses h.1 h.2.1, List.append_assoc]
/-- the blocks of the sessions lie below -/
def Low (v : Value) (ps : List (IntsR × List Int)) (B : Nat) : Prop := ∀ x, x ∈ intsN.foot v ps → x < B
theorem Low.of {w : World} {base : Nat} {E E' : TypeId} {v : Value} {ps : List (IntsR × List Int)} (h : OwnP intsN w base E E' v ps) : Low v ps w.heap.size := fun x hx => (h.lies x hx).2
/-- one session more in the list of sessions -/
theorem out_snoc {w w' : World} {base sb : Nat} {A A' A2 : Option Addr} {n c m c' q2 c2 : Nat} {ps : List (IntsR × List Int)} {l : List Int} (h : OwnP intsN w base 38 3 (.slice A n c) ps) (hs : Own w sb 3 (.slice A2 q2 c2) l) (hsb : base ≤ sb) (hlow : Low (.slice A n c) ps sb)
    (ho : Own w' base 38 (.slice A' m c') (ps.map Prod.fst ++ [(⟨A2, q2, c2⟩ : IntsR)])) (hf : OnlyF (Value.ownBlock (.slice A n c)).toList w w') : OwnP intsN w' base 38 3 (.slice A' m c') (ps ++ [((⟨A2, q2, c2⟩ : IntsR), l)]) := by
  refine h.snoc ho (hi := Own.only (hs.mono hsb) hf (fun y hy hm => ?_)) hf (fun x hx j q hq hx' => ?_)
  · have hy' : (Value.slice A2 q2 c2).ownBlock = some y := by simpa using (show y ∈ (Value.slice A2 q2 c2).ownBlock.toList from hy)
    have hm' : (Value.slice A n c).ownBlock = some y := by simpa using hm
    obtain ⟨c1, e1⟩ := h.out.ty hm'
    obtain ⟨c2', e2⟩ := hs.ty hy'
    rw [e1] at e2
    injection e2 with e2
    injection e2 with _ e3
    exact absurd e3 (by decide)
  · have h1 := (hs.lt x hx).1
    have h2 := hlow x (Nest.mem_foot _ |>.2 (.inr ⟨j, q, hq, hx'⟩))
    omega
set_option maxRecDepth 100000 in
set_option maxHeartbeats 16000000 in
theorem implSessionsFor_any (xs : List Skill) (day ahead seats : Int) (A : Option Addr) (n c : Nat) (w : World) (hn : (n : Int) ≤ 9223372036854775807) (hs : Sl w A n xs) (hv : ∀ x, x ∈ xs → x.Person.size ≤ maxLen) :
    Calls Try.prog 8 #[.slice A n c, .int .i64 day, .int .i64 ahead, .int .i64 seats] w (RetOwnX2 intsN w 38 3 (ssF xs day ahead seats)) := by
  have HV := Lib.hid hv
  have HL := Lib.hid hs.1
  have hne : 38 ≠ 3 := by decide
  have HNE := Lib.hid hne
  clear hv hne
  go_enter Try.func8, Try.ntmps8
  go_wp2_with fail
  refine (areSkills_any xs _ _ _ _ hn (hs.below (bl_alloc (bl_refl _) _)) HV.out).mono ?_
  rintro e V1 ⟨rfl, hb1⟩
  have hk1 := bl_trans (bl_alloc (bl_refl w) (.cells #[.slice A n c] 27)) hb1
  have e1 : V1.cell? ⟨w.heap.size, 0, none⟩ = some (.slice A n c) := cell_later hb1 (by go_simp)
  have hbz : w.heap.size < V1.heap.size := World.block_lt_of_cell? _ _ e1
  clear hb1
  cases h0 : skillsB xs
  · have Hz := Lib.hid (ssF_no (xs := xs) (day := day) (ahead := ahead) (seats := seats) (by rw [ssB, askB, h0]; rfl))
    clear h0
    go_wp2
    go_ret2
    exact retOwnX2_nil HNE.out Hz.out hk1
  have H0 := Lib.hid h0
  clear h0
  go_wp2_with fail
  refine (isDay_any day _).mono ?_
  rintro _ V1 ⟨rfl, rfl⟩
  cases h1 : inB day 0 20000
  · have Hz := Lib.hid (ssF_no (xs := xs) (day := day) (ahead := ahead) (seats := seats) (by rw [ssB, askB, h1]; simp))
    clear h1
    go_wp2
    go_ret2
    exact retOwnX2_nil HNE.out Hz.out hk1
  have H1 := Lib.hid h1
  clear h1
  go_wp2_with fail
  refine (inside_any ahead 0 1000 _).mono ?_
  rintro _ V1 ⟨rfl, rfl⟩
  cases h2 : inB ahead 0 1000
  · have Hz := Lib.hid (ssF_no (xs := xs) (day := day) (ahead := ahead) (seats := seats) (by rw [ssB, askB, h2]; simp))
    clear h2
    go_wp2
    go_ret2
    exact retOwnX2_nil HNE.out Hz.out hk1
  have H2 := Lib.hid h2
  clear h2
  go_wp2_with fail
  refine (inside_any seats 1 10 _).mono ?_
  rintro _ V1 ⟨rfl, rfl⟩
  cases h3 : inB seats 1 10
  · have Hz := Lib.hid (ssF_no (xs := xs) (day := day) (ahead := ahead) (seats := seats) (by rw [ssB, h3]; simp))
    clear h3
    go_wp2
    go_ret2
    exact retOwnX2_nil HNE.out Hz.out hk1
  have HK : Hid (askB xs day ahead = true) := by rw [Hid, askB, H0.out, H1.out, H2.out]; rfl
  have Hz := Lib.hid (ssF_yes (ssB_parts HK.out h3))
  obtain ⟨s0, s1⟩ := inB_iff.1 h3
  obtain ⟨hl, hd, ha⟩ := askB_parts HK.out
  have hn2 : n ≤ 24 := by have := HL.out; omega
  obtain ⟨m, hm⟩ : ∃ m : Nat, (m : Int) = seats := ⟨seats.toNat, by omega⟩
  subst hm
  rw [Int.toNat_natCast] at Hz
  have hm1 : 0 < m := by omega
  have hm2 : m ≤ 10 := by omega
  clear h3 hl H0 H1 H2 s0 s1
  go_wp2_with fail
  refine (dueSkills_any xs day ahead _ _ _ _ (by omega) hd.1 hd.2 ha.1 ha.2 (hs.below hk1)).mono ?_
  rintro e V2 ⟨A_r, c_r, rfl, ho_r, hb2⟩
  have hk2 := bl_trans hk1 hb2
  have e2 : V2.cell? ⟨w.heap.size, 0, none⟩ = some (.slice A n c) := cell_later hb2 e1
  have E2 := Lib.hid e2
  have hq : (dueU xs day ahead n).length ≤ n := dueU_len xs day ahead n
  obtain ⟨nd, hnd⟩ : ∃ nd, (dueU xs day ahead n).length = nd := ⟨_, rfl⟩
  rw [hnd] at ho_r hq ⊢
  have hdl : ∀ g, A_r = some ⟨g, 0, none⟩ → V1.heap.size ≤ g := fun g hg => (ho_r.lt g (by rw [hg]; rfl)).1
  have hal : ∀ b o, A = some ⟨b, o, none⟩ → 0 < n → b < w.heap.size := fun b o hA h0 => by
    subst hA; exact hs.lt h0
  have hup : (dueU xs day ahead n).Pairwise (fun u v => keyU xs u = keyU xs v → u < v) := List.Pairwise.imp (R := fun a b : Int => a < b) (S := fun u v => keyU xs u = keyU xs v → u < v) (fun h _ => h) (dueU_up xs day ahead n)
  have hsort := Lib.hid (sortStable_any A_r V1.heap.size nd c_r (dueU xs day ahead n) 44 #[.pointer (some ⟨w.heap.size, 0, none⟩)] _ (keyU xs) _ V2 enters_ses (fun g hg => ses_cmp xs A n c w.heap.size g V2 e2 (hs.below hk2) (by have := hdl g hg; omega) (fun b o hA h0 => by have := hdl g hg; have := hal b o hA h0; omega)) (fun x y => cmpI_key _ _) (by omega) (fun x hx => by
      obtain ⟨j, hj, -, e⟩ := dueU_mem.1 hx
      exact ⟨j, hj, e⟩) hup ho_r)
  have HD := Lib.hid hnd
  clear hal ho_r e2 hnd hup
  go_wp2_with fail
  refine hsort.out.mono ?_
  rintro e V3 ⟨rfl, ⟨M, p1, p2, ho3⟩, hf3⟩
  have hM : M = dueS xs day ahead := by rw [← show xs.length = n from HL.out] at p1; exact sortK_is (dueU_nodup _ _ _ _) p2 p1
  rw [hM] at ho3
  have hfb : Below V1.heap.size V2 V3 := ⟨hf3.os, hf3.tape, hf3.output, hf3.size, fun k hk => hf3.block k (by have := hb2.size; omega) (fun hm => by
      have hg : (Value.slice A_r nd c_r).ownBlock = some k := by simpa using hm
      cases A_r with
      | none => cases hg
      | some a =>
        obtain ⟨ab, ao, an⟩ := a
        rcases ho3.2 with ⟨hv, _⟩ | ⟨g, cap, cur, hv, _⟩
        · cases hv
        · injection hv with hv
          injection hv with hv
          injection hv with v1 v2 v3
          subst v1 v2 v3
          injection hg with hg
          have h5 : V1.heap.size ≤ ab := hdl ab rfl
          have hg2 : ab = k := hg
          omega)⟩
  have hb3 : Below V1.heap.size V1 V3 := hb2.trans hfb
  have hk3 : Below w.heap.size w V3 := bl_trans hk1 hb3
  have e3 : V3.cell? ⟨w.heap.size, 0, none⟩ = some (.slice A n c) := cell_later hb3 e1
  have hsd := ho3.sl
  have hsl := hs.below hk3
  have hdl2 : (dueS xs day ahead).length = nd := ho3.sl.1
  have HDL := Lib.hid hdl2
  have HS := Lib.hid hs
  have hmem : Hid (∀ j, j < nd → ∃ i : Nat, i < n ∧ (i : Int) = nth (dueS xs day ahead) j) := by
    intro j hj
    have h1 : nth (dueS xs day ahead) j ∈ dueS xs day ahead := nth_mem (by rw [hdl2]; exact hj)
    obtain ⟨i, hi, -, e⟩ := dueU_mem.1 (dueS_mem.1 h1)
    exact ⟨i, by have := HL.out; omega, e⟩
  have hbz3 : w.heap.size < V3.heap.size := World.block_lt_of_cell? _ _ e3
  clear hk1 hk2 hb2 hfb hb3 e1 E2 ho3 p1 p2 hM hf3 hdl hdl2 hs HD hsort hbz HK hd ha
  go_wp2
  go_loopw [11, 41] (fun ov iv wr => ∃ (k q c' : Nat) (A' : Option Addr) (ps : List (IntsR × List Int)), k ≤ 6 ∧ iv = .int .i64 k ∧ ov = .slice A' q c' ∧ q ≤ k * 24 ∧ OwnP intsN wr V3.heap.size 38 3 (.slice A' q c') ps ∧ Hid (intsN.plain ps = ssU xs day ahead m k) ∧ Below V3.heap.size V3 wr) (fun _ iv _ => 6 - (intOf iv).toNat)
  case atStart => exact ⟨0, 0, 0, none, [], by omega, rfl, rfl, by omega, OwnP.nil intsN _ _ HNE.out, rfl, bl_refl _⟩
  case round =>
    obtain ⟨k, q, c', A', ps, hk, rfl, rfl, hqk, hop, hpl, hb⟩ := hrel
    by_cases hlt : k < 6
    · have hk6 : decide ((k : Int) < 6) = true := decide_eq_true (by omega)
      obtain ⟨wo, hwo⟩ : ∃ wo, wo = wr := ⟨_, rfl⟩
      subst hwo
      go_wp2
      go_loopw [11, 13, 46] (fun ov sv jv wr => ∃ (j q c' q2 c2 sb : Nat) (A' A2 : Option Addr) (ps : List (IntsR × List Int)) (full : List (List Int)) (ses : List Int), j ≤ nd ∧ jv = .int .i64 j ∧ ov = .slice A' q c' ∧ sv = .slice A2 q2 c2 ∧ OwnP intsN wr V3.heap.size 38 3 (.slice A' q c') ps ∧ Own wr sb 3 (.slice A2 q2 c2) ses ∧ V3.heap.size ≤ sb ∧ sb ≤ wr.heap.size ∧ q2 < m ∧ q + q2 ≤ k * 24 + j ∧ Hid (Low (.slice A' q c') ps sb ∧ intsN.plain ps = ssU xs day ahead m k ++ full ∧ Fill xs day ahead m k j full ses) ∧ Below V3.heap.size V3 wr) (fun _ _ jv _ => nd - (intOf jv).toNat)
      case atStart => exact ⟨0, q, c', 0, 0, wo.heap.size, A', none, ps, [], [], Nat.zero_le _, rfl, rfl, rfl, hop, Own.nil _ _ _, hb.size, Nat.le_refl _, hm1, by omega, ⟨Low.of hop, by rw [hpl.out, List.append_nil], Fill.start xs day ahead hm1⟩, hb⟩
      case round =>
        clear hop hpl hqk hb
        obtain ⟨j, q, c', q2, c2, sb, A', A2, ps, full, ses, hj, rfl, rfl, rfl, hop, hos, hs1, hs2, hq2, hqq, HH, hb⟩ := hrel
        have hsl2 := Lib.hid hos.sl.1
        by_cases hjn : j < nd
        · obtain ⟨iN, hiN, hie⟩ := hmem.out j hjn
          obtain ⟨b, o, rfl, hbb, d0⟩ := (hsd.below hb).int hjn
          rw [← hie] at d0
          obtain ⟨b', o', rfl, hbb', g0, g1, g2⟩ := (hsl.below hb).skill hiN
          have e4 := cell_later hb e3
          have HIE := Lib.hid hie
          have HJ : Hid (j < (dueS xs day ahead).length) := by rw [Hid, HDL.out]; exact hjn
          obtain ⟨kd, hkd⟩ : ∃ kd, (nth xs iN).Kind = kd := ⟨_, rfl⟩
          rw [hkd] at g1
          have HKD : Hid (kindK xs (k : Int) (nth (dueS xs day ahead) j) = (kd == (k : Int))) := by rw [Hid, kindK, ← hie, Int.toNat_natCast, hkd]
          clear hsd hsl hie g0 g2 hkd e3
          by_cases hkk : kd = (k : Int)
          · have hne : (kd != (k : Int)) = false := by rw [hkk]; simp
            have HKK : Hid (kindK xs (k : Int) (nth (dueS xs day ahead) j) = true) := by rw [Hid, HKD.out, hkk]; simp
            clear hkk HKD
            by_cases hlm : q2 + 1 = m
            · have hm3 : ((q2 : Int) + 1 == (m : Int)) = true := by rw [← hlm]; simp
              have hm4 : decide ((q2 : Int) + 1 = (m : Int)) = true := by simp; omega
              have hm5 : decide (q2 + 1 = m) = true := decide_eq_true hlm
              have HLM := Lib.hid hlm
              clear hlm
              go_wp2_with (first
                | (at_builtin; refine wpList_app1r rfl (.tmp 57) (.tmp 59) _ _ rfl el_int (iN : Int) rfl hos hs2 rfl rfl (by omega) ?_; intro A3 c3 w3 ho3 hf3; have hop3 := hop.only hf3 (fun k hk hm => by have h1 := HH.out.1 k hk; have h2 := (hos.lt k (by simpa using hm)).1; omega); have hb3 := below_only hb hf3 hos.lies hs1; have hsz3 := hf3.size)
                | (at_builtin; refine wpList_app1r rfl (.tmp 65) (.tmp 67) _ _ rfl el_ints (⟨A3, q2 + 1, c3⟩ : IntsR) rfl hop3.out hb3.size rfl rfl (by omega) ?_; intro A4 c4 w4 ho4 hf4))
              have hop4 := out_snoc hop3 ho3 hs1 HH.out.1 ho4 hf4
              have hb4 := below_only hb3 hf4 hop3.out.lies (Nat.le_refl _)
              go_roundw
              case rel => exact ⟨j + 1, q + 1, c4, 0, 0, w4.heap.size, A4, none, _, full ++ [ses ++ [(iN : Int)]], [], by omega, by go_num, rfl, rfl, hop4, Own.nil _ _ _, hb4.size, Nat.le_refl _, hm1, by omega, ⟨Low.of hop4, by unfold Nest.plain; rw [List.map_append, ← List.append_assoc]; have := HH.out.2.1; unfold Nest.plain at this; rw [this]; rfl, by rw [HIE.out]; exact HH.out.2.2.next HJ.out HKK.out (by have := hsl2.out; have := HLM.out; omega)⟩, hb4⟩
              case measure => simp [intOf]; omega
            · have hm3 : ((q2 : Int) + 1 == (m : Int)) = false := by simp; omega
              have hm4 : decide ((q2 : Int) + 1 = (m : Int)) = false := by simp; omega
              have hm5 : decide (q2 + 1 = m) = false := decide_eq_false hlm
              have HLM := Lib.hid hlm
              have hq3 : q2 + 1 < m := by omega
              clear hlm
              go_wp2_with ((at_builtin; refine wpList_app1r rfl (.tmp 57) (.tmp 59) _ _ rfl el_int (iN : Int) rfl hos hs2 rfl rfl (by omega) ?_; intro A3 c3 w3 ho3 hf3; have hop3 := hop.only hf3 (fun k hk hm => by have h1 := HH.out.1 k hk; have h2 := (hos.lt k (by simpa using hm)).1; omega); have hb3 := below_only hb hf3 hos.lies hs1; have hsz3 := hf3.size))
              go_roundw
              case rel => exact ⟨j + 1, q, c', q2 + 1, c3, sb, A', A3, ps, full, ses ++ [(iN : Int)], by omega, by go_num, rfl, rfl, hop3, ho3, hs1, by omega, hq3, by omega, ⟨HH.out.1, HH.out.2.1, by rw [HIE.out]; exact HH.out.2.2.more HJ.out HKK.out (by have := hsl2.out; omega)⟩, hb3⟩
              case measure => simp [intOf]; omega
          · have hne : (kd != (k : Int)) = true := by simp [bne, hkk]
            have HKK : Hid (kindK xs (k : Int) (nth (dueS xs day ahead) j) = false) := by rw [Hid, HKD.out]; simpa using hkk
            clear hkk HKD
            go_wp2
            go_roundw
            case rel => exact ⟨j + 1, q, c', q2, c2, sb, A', A2, ps, full, ses, by omega, by go_num, rfl, rfl, hop, hos, hs1, hs2, hq2, by omega, ⟨HH.out.1, HH.out.2.1, HH.out.2.2.no HJ.out HKK.out⟩, hb⟩
            case measure => simp [intOf]; omega
        · obtain rfl : j = nd := by omega
          have hjj : decide (j < j) = false := decide_eq_false (Nat.lt_irrefl _)
          have HF : Hid (ssU xs day ahead m (k + 1) = ssU xs day ahead m k ++ full ++ (if ses.length = 0 then [] else [ses])) := by
            have h := HH.out.2.2
            rw [← HDL.out] at h
            exact h.done
          by_cases hq0 : q2 = 0
          · subst hq0
            have HF2 : Hid (intsN.plain ps = ssU xs day ahead m (k + 1)) := by rw [Hid, HF.out, if_pos hsl2.out, List.append_nil]; exact HH.out.2.1
            clear HF HH
            go_wp2
            go_roundw
            case rel => exact ⟨k + 1, q, c', A', ps, by omega, by go_num, rfl, by omega, hop, HF2.out, hb⟩
            case measure => simp [intOf]; omega
          · have hq1 : 0 < q2 := by omega
            have hq1d : decide (0 < q2) = true := decide_eq_true hq1
            have HF2 : Hid (ssU xs day ahead m (k + 1) = intsN.plain ps ++ [ses]) := by rw [Hid, HF.out, if_neg (by have := hsl2.out; omega), HH.out.2.1]
            clear HF
            go_wp2_with ((at_builtin; refine wpList_app1r rfl (.tmp 73) (.tmp 75) _ _ rfl el_ints (⟨A2, q2, c2⟩ : IntsR) rfl hop.out hb.size rfl rfl (by omega) ?_; intro A4 c4 w4 ho4 hf4))
            have hop4 := out_snoc hop hos hs1 HH.out.1 ho4 hf4
            have hb4 := below_only hb hf4 hop.out.lies (Nat.le_refl _)
            go_roundw
            case rel => exact ⟨k + 1, q + 1, c4, A4, _, by omega, by go_num, rfl, by omega, hop4, by rw [Hid, HF2.out]; unfold Nest.plain; rw [List.map_append]; rfl, hb4⟩
            case measure => simp [intOf]; omega
    · obtain rfl : k = 6 := by omega
      go_wp2
      go_ret2
      exact retOwnX2_mk Hz.out hpl.out (hop.mono hk3.size) (bl_trans hk3 hb)
end Go.Proofs.Ytgjnjfaohpmhkaa

namespace Go.Proofs.Ytgjnjfaohpmhkaa
open Go.RowKit

def leastI (a b : Int) : Int := if a < b then a else b
theorem l1LeastI_any (a b : Int) (w : World) : Calls Try.prog 37 #[.int .i64 a, .int .i64 b] w fun e w' => e = .returned (.int .i64 (leastI a b)) ∧ w' = w := by
  by_cases h : a < b
  · have q : Hid (leastI a b = a) := by rw [Hid, leastI, if_pos h]
    have hd : decide (a < b) = true := decide_eq_true h
    go_enter Try.func37, Try.ntmps37
    go_wp2
    go_ret
    exact ⟨ret_i64 q.out.symm, rfl⟩
  · have q : Hid (leastI a b = b) := by rw [Hid, leastI, if_neg h]
    have hd : decide (a < b) = false := decide_eq_false h
    go_enter Try.func37, Try.ntmps37
    go_wp2
    go_ret
    exact ⟨ret_i64 q.out.symm, rfl⟩
theorem leastI_nat (m q : Nat) : leastI (m : Int) (q : Int) = ((min m q : Nat) : Int) := by
  unfold leastI; split
  · rw [Nat.min_eq_left (by omega)]
  · rw [Nat.min_eq_right (by omega)]
set_option maxHeartbeats 1000000 in
theorem l1Own_any (A : Option Addr) (n c : Nat) (xs : List Int) (w : World) (hn : n ≤ 1048576) (hs : Sl w A n xs) :
    Calls Try.prog 36 #[.slice A n c] w (RetOwn w 3 xs) := by
  have HL := Lib.hid hs.1
  go_enter Try.func36, Try.ntmps36
  go_wp2_with ((at_builtin; refine wpList_appN rfl (.tmp 3) (.tmp 4) _ _ rfl el_int rfl (Own.built w _ (Nat.le_refl _)) (bl_alloc (bl_refl _) _) rfl (hs.below (bl_alloc (bl_refl _) _)) (by omega) ?_; intro A2 c2 w2 ho2 hb2 hg2))
  go_ret
  exact retOwn_mk HL.out (by simpa using ho2) hb2
theorem sl_int1 {w : World} {b o : Nat} {s : Int} (h : w.cell? ⟨b, o, none⟩ = some (.int .i64 s)) : Sl w (some ⟨b, o, none⟩) 1 [s] :=
  ⟨rfl, fun k x hx => by
    have hk : k = 0 := by have := (List.getElem?_eq_some_iff.1 hx).1; simpa using this
    subst hk
    injection hx with hx
    subst hx
    refine ⟨b, o, _, rfl, rfl, fun j v hv => ?_⟩
    have hj : j = 0 := by
      have := (List.getElem?_eq_some_iff.1 hv).1
      have e : (Flat.enc s).length = 1 := rfl
      omega
    subst hj
    injection hv with hv
    subst hv
    simpa using h⟩
/-- the sorted list of a kind, so far -/
def SoFar (xs : List Skill) (day ahead : Int) (n k j : Nat) (L : List Int) : Prop := L.Perm (((dueU xs day ahead n).take j).filter (kindK xs (k : Int))) ∧ SrtK (keyU xs) L
theorem take_filterD {p : Int → Bool} {l : List Int} {j : Nat} (hj : j < l.length) : (l.take (j + 1)).filter p = (l.take j).filter p ++ (if p (nth l j) then [nth l j] else []) := by
  rw [take_succ hj, List.filter_append]
  congr 1
  by_cases h : p (nth l j) = true
  · rw [if_pos h]; simp [h]
  · rw [if_neg h]; simp [h]
theorem SoFar.no {xs : List Skill} {day ahead : Int} {n k j : Nat} {L : List Int} (h : SoFar xs day ahead n k j L) (hj : j < (dueU xs day ahead n).length) (hp : kindK xs (k : Int) (nth (dueU xs day ahead n) j) = false) : SoFar xs day ahead n k (j + 1) L := by
  refine ⟨?_, h.2⟩
  rw [take_filterD hj, hp]
  simpa using h.1
theorem SoFar.ins {xs : List Skill} {day ahead : Int} {n k j : Nat} {L : List Int} (h : SoFar xs day ahead n k j L) (hj : j < (dueU xs day ahead n).length) (hp : kindK xs (k : Int) (nth (dueU xs day ahead n) j) = true) {p : Nat} (hpl : p ≤ L.length)
    (h1 : p = 0 ∨ keyU xs (nth L (p - 1)) ≤ keyU xs (nth (dueU xs day ahead n) j)) (h2 : ∀ q, p ≤ q → q < L.length → keyU xs (nth (dueU xs day ahead n) j) < keyU xs (nth L q)) : SoFar xs day ahead n k (j + 1) (L.take p ++ [nth (dueU xs day ahead n) j] ++ L.drop p) := by
  have hL := (List.take_append_drop p L).symm
  have hs : SrtK (keyU xs) (L.take p ++ L.drop p) := by rw [← hL]; exact h.2
  have hc : Cross (keyU xs) (L.take p ++ L.drop p) [nth (dueU xs day ahead n) j] := by
    rw [← hL]
    intro u hu v hv e
    obtain rfl := List.mem_singleton.1 hv
    have hu2 := (List.mem_filter.1 (h.1.mem_iff.1 hu)).1
    obtain ⟨i, hi, rfl⟩ := mem_nth hu2
    rw [List.length_take] at hi
    rw [nth_take (by omega)]
    have := List.pairwise_iff_getElem.1 (dueU_up xs day ahead n) i j (by omega) hj (by omega)
    rwa [← nth_get (List.getElem?_eq_getElem (by omega : i < (dueU xs day ahead n).length)), ← nth_get (List.getElem?_eq_getElem hj)] at this
  obtain ⟨p1, p2⟩ := put_right hs hc (fun x hx => by
      obtain ⟨i, hi, rfl⟩ := mem_nth hx
      rw [List.length_take] at hi
      rw [nth_take (by omega)]
      rcases h1 with h1 | h1
      · omega
      · have := srt_key h.2 (i := i) (j := p - 1) (by omega) (by omega)
        omega) (fun x hx => by
      obtain ⟨i, hi, rfl⟩ := mem_nth hx
      rw [List.length_drop] at hi
      rw [nth_dropK]
      exact h2 (p + i) (by omega) (by omega))
  rw [List.append_assoc]
  refine ⟨?_, p2⟩
  rw [take_filterD hj, hp, if_pos rfl]
  refine p1.trans ?_
  rw [← hL]
  exact h.1.append_right _
theorem SoFar.done {xs : List Skill} {day ahead : Int} {n k : Nat} {L : List Int} (hn : xs.length = n) (h : SoFar xs day ahead n k (dueU xs day ahead n).length L) : L = (dueS xs day ahead).filter (kindK xs (k : Int)) := by
  subst hn
  have h1 := h.1
  rw [List.take_length] at h1
  rw [dueS, sortK_filter (dueU_nodup _ _ _ _)]
  exact sortK_is ((dueU_nodup _ _ _ _).sublist List.filter_sublist) h.2 h1
theorem SoFar.mem {xs : List Skill} {day ahead : Int} {n k j : Nat} {L : List Int} (h : SoFar xs day ahead n k j L) {p : Nat} (hp : p < L.length) : ∃ i : Nat, i < n ∧ (i : Int) = nth L p := by
  have h1 : nth L p ∈ L := nth_mem hp
  have h2 := List.mem_of_mem_take (List.mem_filter.1 (h.1.mem_iff.1 h1)).1
  obtain ⟨i, hi, -, e⟩ := dueU_mem.1 h2
  exact ⟨i, hi, e⟩
theorem SoFar.len {xs : List Skill} {day ahead : Int} {n k j : Nat} {L : List Int} (h : SoFar xs day ahead n k j L) : L.length ≤ j := by
  rw [h.1.length_eq]
  have h1 := List.length_filter_le (kindK xs (k : Int)) ((dueU xs day ahead n).take j)
  rw [List.length_take] at h1
  omega
end Go.Proofs.Ytgjnjfaohpmhkaa

namespace Go.Proofs.Ytgjnjfaohpmhkaa
open Go.RowKit

/-- a slice's length -/
def lenV : Value → Nat
  | .slice _ n _ => n
  | _ => 0
theorem chunk_step {m : Nat} {L : List Int} {r qr nn : Nat} (hm : 0 < m) (hl : (L.drop r).length = qr) (hq : 0 < qr) (hn : min m qr = nn) : chunk m (L.drop r) = (L.drop r).take nn :: chunk m (L.drop (r + nn)) := by
  rw [chunk_cons hm (by omega), List.drop_drop]
  rcases Nat.le_total m qr with h | h
  · rw [Nat.min_eq_left h] at hn; subst hn; rfl
  · rw [Nat.min_eq_right h] at hn
    subst hn
    have e1 : (L.drop r).take m = L.drop r := List.take_of_length_le (by omega)
    have e2 : (L.drop r).take qr = L.drop r := List.take_of_length_le (by omega)
    rw [e1, e2]
    rw [List.length_drop] at hl
    have e3 : L.drop (r + m) = [] := List.drop_of_length_le (by omega)
    have e4 : L.drop (r + qr) = [] := List.drop_of_length_le (by omega)
    rw [e3, e4]
/-- a list of ints and a list of sessions have no block in common -/
theorem int_apart {w : World} {base sb : Nat} {v v2 : Value} {ps : List (IntsR × List Int)} {l : List Int} (h : OwnP intsN w base 38 3 v ps) (hs : Own w sb 3 v2 l) : ∀ y, y ∈ v2.ownBlock.toList → y ∉ v.ownBlock.toList := fun y hy hm => by
  have hy' : v2.ownBlock = some y := by simpa using hy
  have hm' : v.ownBlock = some y := by simpa using hm
  obtain ⟨c1, e1⟩ := h.out.ty hm'
  obtain ⟨c2', e2⟩ := hs.ty hy'
  rw [e1] at e2
  injection e2 with e2
  injection e2 with _ e3
  exact absurd e3 (by decide)
theorem l1OwnN_any (A : Option Addr) (n c : Nat) (xs : List Int) (w : World) (hn : n ≤ 1048576) (hs : Sl w A n xs) :
    Calls Try.prog 36 #[.slice A n c] w fun e w' => ∃ A' c', e = .returned (.slice A' n c') ∧ Own w' w.heap.size 3 (.slice A' n c') xs ∧ Below w.heap.size w w' := by
  have hl := hs.1
  refine (l1Own_any A n c xs w hn hs).mono ?_
  rintro e V ⟨A', c', rfl, ho, hb⟩
  rw [hl] at ho
  rw [hl]
  exact ⟨A', c', rfl, ho, hb⟩
set_option maxRecDepth 100000 in
set_option maxHeartbeats 16000000 in
theorem specSessionsFor_any (xs : List Skill) (day ahead seats : Int) (A : Option Addr) (n c : Nat) (w : World) (hn : (n : Int) ≤ 9223372036854775807) (hs : Sl w A n xs) (hv : ∀ x, x ∈ xs → x.Person.size ≤ maxLen) :
    Calls Try.prog 6 #[.slice A n c, .int .i64 day, .int .i64 ahead, .int .i64 seats] w (RetOwnX2 intsN w 38 3 (ssF xs day ahead seats)) := by
  have HV := Lib.hid hv
  have HL := Lib.hid hs.1
  have hne : 38 ≠ 3 := by decide
  have HNE := Lib.hid hne
  clear hv hne
  go_enter Try.func6, Try.ntmps6
  go_wp2_with fail
  refine (drAsked_any xs day ahead _ _ _ _ hn hs HV.out).mono ?_
  rintro e V1 ⟨rfl, hk1⟩
  cases h0 : askB xs day ahead
  · have Hz := Lib.hid (ssF_no (xs := xs) (day := day) (ahead := ahead) (seats := seats) (by rw [ssB, h0]; rfl))
    clear h0
    go_wp2
    go_ret2
    exact retOwnX2_nil HNE.out Hz.out hk1
  have HK := Lib.hid h0
  clear h0
  go_wp2_with fail
  refine (l1In_any seats 1 10 _).mono ?_
  rintro _ V1 ⟨rfl, rfl⟩
  cases h3 : inB seats 1 10
  · have Hz := Lib.hid (ssF_no (xs := xs) (day := day) (ahead := ahead) (seats := seats) (by rw [ssB, h3]; simp))
    clear h3
    go_wp2
    go_ret2
    exact retOwnX2_nil HNE.out Hz.out hk1
  have Hz := Lib.hid (ssF_yes (ssB_parts HK.out h3))
  obtain ⟨s0, s1⟩ := inB_iff.1 h3
  obtain ⟨hl, hd, ha⟩ := askB_parts HK.out
  have hn2 : n ≤ 24 := by have := HL.out; omega
  obtain ⟨m, hm⟩ : ∃ m : Nat, (m : Int) = seats := ⟨seats.toNat, by omega⟩
  subst hm
  rw [Int.toNat_natCast] at Hz
  have hm1 : 0 < m := by omega
  have hm2 : m ≤ 10 := by omega
  clear h3 hl s0 s1 HK HV
  go_wp2
  go_loopw [10, 11] (fun ov iv wr => ∃ (k q c' : Nat) (A' : Option Addr) (ps : List (IntsR × List Int)), k ≤ 6 ∧ iv = .int .i64 k ∧ ov = .slice A' q c' ∧ q ≤ k * 24 ∧ OwnP intsN wr w.heap.size 38 3 (.slice A' q c') ps ∧ Hid (intsN.plain ps = ssU xs day ahead m k) ∧ Below w.heap.size w wr) (fun _ iv _ => 6 - (intOf iv).toNat)
  case atStart => exact ⟨0, 0, 0, none, [], by omega, rfl, rfl, by omega, OwnP.nil intsN _ _ HNE.out, rfl, hk1⟩
  case round =>
    obtain ⟨k, q, c', A', ps, hk, rfl, rfl, hqk, hop, hpl, hb⟩ := hrel
    clear hk1
    by_cases hlt : k < 6
    · have hk6 : decide ((k : Int) < 6) = true := decide_eq_true (by omega)
      have hk7 : decide (k < 6) = true := decide_eq_true hlt
      go_wp2_with fail
      refine (drDue_any xs day ahead _ _ _ _ (by omega) hd.1 hd.2 ha.1 ha.2 (hs.below hb)).mono ?_
      rintro e V2 ⟨A_r, c_r, rfl, ho_r, hb2⟩
      have hkb := bl_trans hb hb2
      have hop2 := hop.below hb2
      have hq0 : (dueU xs day ahead n).length ≤ n := dueU_len xs day ahead n
      obtain ⟨nd, hnd⟩ : ∃ nd, (dueU xs day ahead n).length = nd := ⟨_, rfl⟩
      rw [hnd] at ho_r hq0 ⊢
      have hsd := ho_r.sl
      have HDL := Lib.hid hnd
      have hmem : Hid (∀ j, j < nd → ∃ i : Nat, i < n ∧ (i : Int) = nth (dueU xs day ahead n) j) := by
        intro j hj
        obtain ⟨i, hi, -, e⟩ := dueU_mem.1 (nth_mem (by rw [hnd]; exact hj) : nth (dueU xs day ahead n) j ∈ dueU xs day ahead n)
        exact ⟨i, hi, e⟩
      have hsl := hs.below hkb
      have HOP := Lib.hid hop2
      have HKB := Lib.hid hkb
      clear hop hop2 hb hb2 hkb ho_r hnd
      go_wp2
      go_loopw [12, 36] (fun lv jv wr => ∃ (j q2 c2 : Nat) (A2 : Option Addr) (L : List Int), j ≤ nd ∧ jv = .int .i64 j ∧ lv = .slice A2 q2 c2 ∧ Own wr V2.heap.size 3 (.slice A2 q2 c2) L ∧ Hid (SoFar xs day ahead n k j L) ∧ Below V2.heap.size V2 wr) (fun _ jv _ => nd - (intOf jv).toNat)
      case atStart => exact ⟨0, 0, 0, none, [], Nat.zero_le _, rfl, rfl, Own.nil _ _ _, ⟨by simp, List.Pairwise.nil⟩, bl_refl _⟩
      case round =>
        obtain ⟨j, q2, c2, A2, L, hj, rfl, rfl, hoL, HH, hbr⟩ := hrel
        by_cases hjn : j < nd
        · obtain ⟨iN, hiN, hie⟩ := hmem.out j hjn
          obtain ⟨b, o, rfl, hbb, d0⟩ := (hsd.below hbr).int hjn
          rw [← hie] at d0
          obtain ⟨b', o', rfl, hbb', g0, g1, g2⟩ := (hsl.below hbr).skill hiN
          have HIE := Lib.hid hie
          have HJ : Hid (j < (dueU xs day ahead n).length) := by rw [Hid, HDL.out]; exact hjn
          obtain ⟨kd, hkd⟩ : ∃ kd, (nth xs iN).Kind = kd := ⟨_, rfl⟩
          obtain ⟨ux, hux⟩ : ∃ ux, (nth xs iN).Until = ux := ⟨_, rfl⟩
          rw [hkd] at g1
          rw [hux] at g2
          have HKD : Hid (kindK xs (k : Int) (nth (dueU xs day ahead n) j) = (kd == (k : Int))) := by rw [Hid, kindK, ← hie, Int.toNat_natCast, hkd]
          have HUX : Hid (keyU xs (nth (dueU xs day ahead n) j) = ux) := by rw [Hid, keyU, ← hie, Int.toNat_natCast, hux]
          have hql := Lib.hid hoL.sl.1
          clear hie g0 hkd hux
          by_cases hkk : kd = (k : Int)
          · have hne : (kd != (k : Int)) = false := by rw [hkk]; simp
            have HKK : Hid (kindK xs (k : Int) (nth (dueU xs day ahead n) j) = true) := by rw [Hid, HKD.out, hkk]; simp
            have hqj : q2 ≤ j := by have := HH.out.len; have := hql.out; omega
            obtain ⟨hqc, hcm⟩ := hoL.cap
            unfold maxLen at hcm
            clear hkk HKD
            obtain ⟨wo, hwo⟩ : ∃ wo, wo = wr := ⟨_, rfl⟩
            subst hwo
            go_upto_block 4 with fail
            clear d0 g1
            go_cut [15] (fun kv wx => ∃ p : Nat, kv = .int .i64 p ∧ p ≤ q2 ∧ Hid ((p = 0 ∨ keyU xs (nth L (p - 1)) ≤ keyU xs (nth (dueU xs day ahead n) j)) ∧ (∀ q, p ≤ q → q < L.length → keyU xs (nth (dueU xs day ahead n) j) < keyU xs (nth L q))) ∧ Below wo.heap.size wo wx)
            case first =>
              go_wp2_with fail
              go_loopw [15] (fun kv wr => ∃ p : Nat, kv = .int .i64 p ∧ p ≤ q2 ∧ Hid (∀ q, p ≤ q → q < L.length → keyU xs (nth (dueU xs day ahead n) j) < keyU xs (nth L q)) ∧ Below wo.heap.size wo wr) (fun kv _ => (intOf kv).toNat)
              case atStart => exact ⟨q2, rfl, Nat.le_refl _, fun q h1 h2 => absurd h1 (by have := hql.out; omega), bl_refl _⟩
              case round =>
                obtain ⟨p, rfl, hpq, HP, hbp⟩ := hrel
                by_cases hp0 : 0 < p
                · have hpd : decide (0 < p) = true := decide_eq_true hp0
                  obtain ⟨p', hp'⟩ : ∃ p', p = p' + 1 := ⟨p - 1, by omega⟩
                  have wp1 : IntKind.i64.wrap ((p : Int) - 1) = (p' : Int) := by rw [IntWalk.i64_in _ (by omega)]; omega
                  have hpn : p' < q2 := by omega
                  obtain ⟨iP, hiP, hpe⟩ := HH.out.mem (p := p') (by have := hql.out; omega)
                  obtain ⟨b2, o2, rfl, hbb2, e0⟩ := ((hoL.below hbp).sl).int hpn
                  rw [← hpe] at e0
                  obtain ⟨b3, o3, he, hbb3, f0, f1, f2⟩ := (hsl.below (bl_trans hbr hbp)).skill hiP
                  injection he with he
                  injection he with ex ey
                  subst ex ey
                  obtain ⟨up, hup⟩ : ∃ up, (nth xs iP).Until = up := ⟨_, rfl⟩
                  rw [hup] at f2
                  have HUP : Hid (keyU xs (nth L p') = up) := by rw [Hid, keyU, ← hpe, Int.toNat_natCast, hup]
                  have HP1 := Lib.hid hp'
                  have g3 := cell_later hbp g2
                  clear f0 f1 hpe hup hp'
                  by_cases hgt : ux < up
                  · have hgd : decide (ux < up) = true := decide_eq_true hgt
                    go_wp2_with fail
                    refine wp_region_grow (by kernel_rfl) (by kernel_rfl) (fun X hX => ?_)
                    have r0 := Gw.cell (by rw [hX]; exact e0 : X.cell? _ = _)
                    have r1 := Gw.cell (by rw [hX]; exact f2 : X.cell? _ = _)
                    have r2 := Gw.cell (by rw [hX]; exact g3 : X.cell? _ = _)
                    have HX := Lib.hid hX
                    clear hX e0 f2 g3
                    repeat (go_big_quiet_step (fail))
                    refine wpGrow_nil (fun V hV => ?_)
                    have hbV := bl_trans hbp (by rw [← HX.out]; exact hV)
                    clear hV r0 r1 r2
                    go_wp2
                    go_roundw
                    case rel => exact ⟨p', by go_num, by omega, fun q h1 h2 => by
                          by_cases hq : q = p'
                          · rw [hq, HUP.out, HUX.out]; exact hgt
                          · exact HP.out q (by have := HP1.out; omega) h2, hbV⟩
                    case measure => have := HP1.out; simp only [intOf]; omega
                  · have hgd : decide (ux < up) = false := decide_eq_false hgt
                    go_wp2_with fail
                    refine wp_region_grow (by kernel_rfl) (by kernel_rfl) (fun X hX => ?_)
                    have r0 := Gw.cell (by rw [hX]; exact e0 : X.cell? _ = _)
                    have r1 := Gw.cell (by rw [hX]; exact f2 : X.cell? _ = _)
                    have r2 := Gw.cell (by rw [hX]; exact g3 : X.cell? _ = _)
                    have HX := Lib.hid hX
                    clear hX e0 f2 g3
                    repeat (go_big_quiet_step (fail))
                    refine wpGrow_nil (fun V hV => ?_)
                    have hbV := bl_trans hbp (by rw [← HX.out]; exact hV)
                    clear hV r0 r1 r2
                    go_wp2
                    go_meet
                    exact ⟨p, rfl, hpq, ⟨.inr (by have := HP1.out; rw [show p - 1 = p' by omega, HUP.out, HUX.out]; omega), HP.out⟩, hbV⟩
                · obtain rfl : p = 0 := by omega
                  go_wp2_with fail
                  refine wp_region_grow (by kernel_rfl) (by kernel_rfl) (fun X hX => ?_)
                  have HX := Lib.hid hX
                  clear hX
                  repeat (go_big_quiet_step (fail))
                  refine wpGrow_nil (fun V hV => ?_)
                  have hbV := bl_trans hbp (by rw [← HX.out]; exact hV)
                  clear hV
                  go_wp2
                  go_meet
                  exact ⟨0, rfl, hpq, ⟨.inl rfl, HP.out⟩, hbV⟩
            case rest =>
              obtain ⟨p, rfl, hpq, HP, hbx⟩ := hcut
              clear g2
              obtain ⟨V, hV⟩ : ∃ W, W = wc := ⟨_, rfl⟩
              subst hV
              have hoV := hoL.below hbx
              have HO := Lib.hid (HH.out.ins HJ.out HKK.out (p := p) (by have := hql.out; omega) HP.out.1 HP.out.2)
              have hst : Hid (Sl V A2 p (L.take p)) := hoV.sl.take hpq
              have hbrV := bl_trans hbr hbx
              have hpc : (p : Int) ≤ c2 := by omega
              have hpq2 : (p : Int) ≤ q2 := by omega
              have hp0 : (0 : Int) ≤ p := by omega
              rw [← HIE.out] at HO
              have hinl : (L.take p ++ [(iN : Int)] ++ L.drop p).length = q2 + 1 := by simp only [List.length_append, List.length_take, List.length_drop, List.length_singleton]; have := hql.out; omega
              obtain ⟨Y, hY⟩ : ∃ Y, Y = L.take p ++ [(iN : Int)] ++ L.drop p := ⟨_, rfl⟩
              rw [← hY] at HO hinl
              have HY := Lib.hid hY
              have HYL := Lib.hid hinl
              clear hY hinl
              by_cases hplt : p < q2
              · obtain ⟨g, rfl⟩ := hoV.form (by omega)
                have hck : ¬ c2 = p := by omega
                have hsd2 : Hid (Sl V (some ⟨g, p, none⟩) (q2 - p) (L.drop p)) := by
                  have h := hoV.sl.drop hpq
                  have e : Flat.sz Int = 1 := rfl
                  rw [e, Nat.mul_one, Nat.zero_add] at h
                  exact h
                clear hoL hoV hsd hsl hbx
                go_upto_region 15 with fail
                go_region_held3 (fun w' => Below V.heap.size V w') (repeat' (first | assumption | exact bl_refl _ | refine bl_alloc ?_ _ | refine bl_drew ?_))
                  (first
                    | (go_at_call 36; refine (l1OwnN_any _ _ _ (L.take p) _ (by omega) (hst.out.below (by repeat' (first | assumption | exact bl_refl _ | refine bl_alloc ?_ _ | refine bl_drew ?_)))).mono ?_; rintro e V1 ⟨A1, c1, rfl, ho1, hB1r⟩; replace ho1 := ho1.mono (base' := V.heap.size) (by (first | (exact Nat.le_refl _) | (simp; done))); have hB1 : Below V.heap.size V V1 := bl_trans (by repeat' (first | assumption | exact bl_refl _ | refine bl_alloc ?_ _ | refine bl_drew ?_)) hB1r)
                    | (refine step_appB rfl (.tmp 73) (.tmp 75) _ _ rfl el_int (xs := L.take p) (ys := [(iN : Int)]) (w0 := V) rfl rfl ?_ ?_ (sl_int1 ?_) (by omega) ?_; (first | (exact ho1) | (exact ho1.alloc _)); (repeat' (first | assumption | exact bl_refl _ | refine bl_alloc ?_ _ | refine bl_drew ?_)); (first | (focus (go_simp; done)) | (focus (refine cell_later hB1r ?_; go_simp; done))); (intro A2' c2' V2' ho2' hB2' hg2'))
                    | (refine step_appB rfl (.tmp 76) (.tmp 79) _ _ rfl el_int (xs := L.take p ++ [(iN : Int)]) (ys := L.drop p) (w0 := V) rfl rfl ho2' hB2' (hsd2.out.below hB2') (by omega) ?_; (intro A3 c3 V3 ho3 hB3 hg3)))
                all_goals
                  (try simp only [Nat.zero_add] at ho3)
                  (try simp only [Nat.add_zero] at ho3)
                  rw [← HY.out] at ho3
                  go_wp2
                  all_goals (go_roundw; (case rel => exact ⟨j + 1, p + 1 + (q2 - p), c3, A3, Y, by omega, by go_num, rfl, ho3.mono hbrV.size, HO.out, bl_trans hbrV hB3⟩); (case measure => simp [intOf]; omega))
              · obtain rfl : p = q2 := by omega
                have hsd2 : ∀ B, Hid (Sl V B 0 (L.drop p)) := fun B => by
                  have e : L.drop p = [] := by rw [← hql.out]; simp
                  rw [Hid, e]; exact Sl.nil _ _
                clear hoL hoV hsd hsl hbx
                by_cases hck : c2 = p
                · subst hck
                  go_upto_region 15 with fail
                  go_region_held3 (fun w' => Below V.heap.size V w') (repeat' (first | assumption | exact bl_refl _ | refine bl_alloc ?_ _ | refine bl_drew ?_))
                    (first
                      | (go_at_call 36; refine (l1OwnN_any _ _ _ (L.take c2) _ (by omega) (hst.out.below (by repeat' (first | assumption | exact bl_refl _ | refine bl_alloc ?_ _ | refine bl_drew ?_)))).mono ?_; rintro e V1 ⟨A1, c1, rfl, ho1, hB1r⟩; replace ho1 := ho1.mono (base' := V.heap.size) (by (first | (exact Nat.le_refl _) | (simp; done))); have hB1 : Below V.heap.size V V1 := bl_trans (by repeat' (first | assumption | exact bl_refl _ | refine bl_alloc ?_ _ | refine bl_drew ?_)) hB1r)
                      | (refine step_appB rfl (.tmp 73) (.tmp 75) _ _ rfl el_int (xs := L.take c2) (ys := [(iN : Int)]) (w0 := V) rfl rfl ?_ ?_ (sl_int1 ?_) (by omega) ?_; (first | (exact ho1) | (exact ho1.alloc _)); (repeat' (first | assumption | exact bl_refl _ | refine bl_alloc ?_ _ | refine bl_drew ?_)); (first | (focus (go_simp; done)) | (focus (refine cell_later hB1r ?_; go_simp; done))); (intro A2' c2' V2' ho2' hB2' hg2'))
                      | (refine step_appB rfl (.tmp 76) (.tmp 79) _ _ rfl el_int (xs := L.take c2 ++ [(iN : Int)]) (ys := L.drop c2) (w0 := V) rfl rfl ho2' hB2' ((hsd2 _).out.below hB2') (by omega) ?_; (intro A3 c3 V3 ho3 hB3 hg3)))
                  all_goals
                    (try simp only [Nat.zero_add] at ho3)
                    (try simp only [Nat.add_zero] at ho3)
                    rw [← HY.out] at ho3
                    go_wp2
                    all_goals (go_roundw; (case rel => exact ⟨j + 1, c2 + 1, c3, A3, Y, by omega, by go_num, rfl, ho3.mono hbrV.size, HO.out, bl_trans hbrV hB3⟩); (case measure => simp [intOf]; omega))
                · skip
                  go_upto_region 15 with fail
                  go_region_held3 (fun w' => Below V.heap.size V w') (repeat' (first | assumption | exact bl_refl _ | refine bl_alloc ?_ _ | refine bl_drew ?_))
                    (first
                      | (go_at_call 36; refine (l1OwnN_any _ _ _ (L.take p) _ (by omega) (hst.out.below (by repeat' (first | assumption | exact bl_refl _ | refine bl_alloc ?_ _ | refine bl_drew ?_)))).mono ?_; rintro e V1 ⟨A1, c1, rfl, ho1, hB1r⟩; replace ho1 := ho1.mono (base' := V.heap.size) (by (first | (exact Nat.le_refl _) | (simp; done))); have hB1 : Below V.heap.size V V1 := bl_trans (by repeat' (first | assumption | exact bl_refl _ | refine bl_alloc ?_ _ | refine bl_drew ?_)) hB1r)
                      | (refine step_appB rfl (.tmp 73) (.tmp 75) _ _ rfl el_int (xs := L.take p) (ys := [(iN : Int)]) (w0 := V) rfl rfl ?_ ?_ (sl_int1 ?_) (by omega) ?_; (first | (exact ho1) | (exact ho1.alloc _)); (repeat' (first | assumption | exact bl_refl _ | refine bl_alloc ?_ _ | refine bl_drew ?_)); (first | (focus (go_simp; done)) | (focus (refine cell_later hB1r ?_; go_simp; done))); (intro A2' c2' V2' ho2' hB2' hg2'))
                      | (refine step_appB rfl (.tmp 76) (.tmp 79) _ _ rfl el_int (xs := L.take p ++ [(iN : Int)]) (ys := L.drop p) (w0 := V) rfl rfl ho2' hB2' ((hsd2 _).out.below hB2') (by omega) ?_; (intro A3 c3 V3 ho3 hB3 hg3)))
                  all_goals
                    (try simp only [Nat.zero_add] at ho3)
                    (try simp only [Nat.add_zero] at ho3)
                    rw [← HY.out] at ho3
                    go_wp2
                    all_goals (go_roundw; (case rel => exact ⟨j + 1, p + 1, c3, A3, Y, by omega, by go_num, rfl, ho3.mono hbrV.size, HO.out, bl_trans hbrV hB3⟩); (case measure => simp [intOf]; omega))
          · have hne : (kd != (k : Int)) = true := by simp [bne, hkk]
            have HKK : Hid (kindK xs (k : Int) (nth (dueU xs day ahead n) j) = false) := by rw [Hid, HKD.out]; simpa using hkk
            clear hkk HKD
            go_wp2
            go_roundw
            case rel => exact ⟨j + 1, q2, c2, A2, L, by omega, by go_num, rfl, hoL, HH.out.no HJ.out HKK.out, hbr⟩
            case measure => simp [intOf]; omega
        · obtain rfl : j = nd := by omega
          have hjj : decide (j < j) = false := decide_eq_false (Nat.lt_irrefl _)
          have HL1 : Hid (L = (dueS xs day ahead).filter (kindK xs (k : Int))) := by
            have h := HH.out
            rw [← HDL.out] at h
            exact h.done HL.out
          have hql : L.length = q2 := hoL.sl.1
          have hqj : q2 ≤ j := by have := HH.out.len; omega
          obtain ⟨hqc, hcm⟩ := hoL.cap
          have hop3 := HOP.out.below hbr
          have hkb := bl_trans HKB.out hbr
          have HQL := Lib.hid hql
          have HV2 : Hid (V2.heap.size ≤ wr.heap.size) := hbr.size
          have hstart : 0 < q2 → ∃ g : Nat, A2 = some ⟨g, 0, none⟩ ∧ A2 = some ⟨g, 0, none⟩ := fun h => by
            obtain ⟨g, hg⟩ := hoL.form h
            exact ⟨g, hg, hg⟩
          have hcm2 : c2 ≤ 9223372036854775807 := by unfold maxLen at hcm; omega
          have HST := Lib.hid hstart
          clear hcm HOP HKB hsl hsd hmem HDL HH hql hbr hd ha hstart
          obtain ⟨wo, hwo⟩ : ∃ wo, wo = wr := ⟨_, rfl⟩
          subst hwo
          go_wp2
          go_loopw [10, 12] (fun ov lv wr => ∃ (q c' r qr cr : Nat) (A' Ar : Option Addr) (ps : List (IntsR × List Int)), ov = .slice A' q c' ∧ lv = .slice Ar qr cr ∧ r + qr = q2 ∧ qr ≤ cr ∧ cr ≤ 9223372036854775807 ∧ Hid (0 < qr → ∃ g : Nat, A2 = some ⟨g, 0, none⟩ ∧ Ar = some ⟨g, r, none⟩) ∧ OwnP intsN wr w.heap.size 38 3 (.slice A' q c') ps ∧ Own wr V2.heap.size 3 (.slice A2 q2 c2) L ∧ q + qr ≤ (k + 1) * 24 ∧ Hid (intsN.plain ps ++ chunk m (L.drop r) = ssU xs day ahead m k ++ chunk m L) ∧ Below w.heap.size w wr) (fun _ lv _ => lenV lv)
          case atStart => exact ⟨q, c', 0, q2, c2, A', A2, ps, rfl, rfl, by omega, hqc, hcm2, HST, hop3, hoL, by omega, by rw [Hid, hpl.out]; rfl, hkb⟩
          case round =>
            clear hoL hop3 hkb hqc hcm2 HST hqk hpl
            obtain ⟨q, c', r, qr, cr, A', Ar, ps, rfl, rfl, hrq, hqc, hcm, him, hop, hoL, hqq, HP, hb⟩ := hrel
            by_cases hq : 0 < qr
            · have hqd : decide (0 < qr) = true := decide_eq_true hq
              obtain ⟨g, rfl, rfl⟩ := him.out hq
              obtain ⟨nn, hnn⟩ : ∃ nn, min m qr = nn := ⟨_, rfl⟩
              have hle : Hid (Calls Try.prog 37 #[.int .i64 (m : Int), .int .i64 (qr : Int)] wr fun e w' => e = .returned (.int .i64 (nn : Int)) ∧ w' = wr) := by
                have h := l1LeastI_any (m : Int) (qr : Int) wr
                rw [leastI_nat, hnn] at h
                exact h
              have n1 : nn ≤ qr := by omega
              have n2 : 0 < nn := by omega
              have hst : Sl wr (some ⟨g, r, none⟩) nn ((L.drop r).take nn) := by
                have h := hoL.sl.drop (i := r) (by omega)
                have e : Flat.sz Int = 1 := rfl
                rw [e, Nat.mul_one, Nat.zero_add, show q2 - r = qr by omega] at h
                exact h.take (by omega)
              have hdl : (L.drop r).length = qr := by rw [List.length_drop, HQL.out]; omega
              have HC := Lib.hid (chunk_step hm1 hdl hq hnn)
              have nc : (nn : Int) ≤ cr := by omega
              have nq : (nn : Int) ≤ qr := by omega
              have n0 : (0 : Int) ≤ nn := by omega
              have HNN := Lib.hid hnn
              have hown := Lib.hid (l1OwnN_any (some ⟨g, r, none⟩) nn cr _ wr (by omega) hst)
              have hlow := Lib.hid (Low.of hop)
              have hsz := hb.size
              clear hst hnn hdl him
              go_wp2_with fail
              refine hle.out.mono ?_
              rintro _ wr ⟨rfl, rfl⟩
              go_wp2_with fail
              refine hown.out.mono ?_
              rintro _ V3 ⟨A3, c3, rfl, ho3, hb3⟩
              have hop3 := hop.below hb3
              have hoL3 := hoL.below hb3
              have hkb3 := bl_trans hb hb3
              clear hop hoL hb hown hle
              have hfin : ∀ (A4 : Option Addr) (c4 : Nat) (w4 : World), Own w4 w.heap.size 38 (.slice A4 (q + 1) c4) (ps.map Prod.fst ++ [(⟨A3, nn, c3⟩ : IntsR)]) → OnlyF (Value.ownBlock (.slice A' q c')).toList V3 w4 →
                  OwnP intsN w4 w.heap.size 38 3 (.slice A4 (q + 1) c4) (ps ++ [((⟨A3, nn, c3⟩ : IntsR), (L.drop r).take nn)]) ∧ Own w4 V2.heap.size 3 (.slice (some ⟨g, 0, none⟩) q2 c2) L ∧ Below w.heap.size w w4 ∧ Hid (intsN.plain (ps ++ [((⟨A3, nn, c3⟩ : IntsR), (L.drop r).take nn)]) ++ chunk m (L.drop (r + nn)) = ssU xs day ahead m k ++ chunk m L) := by
                intro A4 c4 w4 ho4 hf4
                refine ⟨out_snoc hop3 ho3 hsz hlow.out ho4 hf4, hoL3.only hf4 (int_apart hop3 hoL3), below_only hkb3 hf4 hop3.out.lies (Nat.le_refl _), ?_⟩
                rw [Hid, ← HP.out, HC.out]
                unfold Nest.plain
                rw [List.map_append, List.append_assoc]
                rfl
              have HFin := Lib.hid hfin
              clear hfin
              by_cases hnq : nn < qr
              · have hck : ¬ cr = nn := by omega
                go_wp2_with ((at_builtin; refine wpList_app1r rfl (.tmp 89) (.tmp 94) _ _ rfl el_ints (⟨A3, nn, c3⟩ : IntsR) rfl hop3.out hkb3.size rfl rfl (by omega) ?_; intro A4 c4 w4 ho4 hf4))
                obtain ⟨r1, r2, r3, r4⟩ := HFin.out A4 c4 w4 ho4 hf4
                go_roundw
                case rel => exact ⟨q + 1, c4, r + nn, qr - nn, cr - nn, A4, some ⟨g, r + nn, none⟩, _, rfl, rfl, by omega, by omega, by omega, fun _ => ⟨g, rfl, rfl⟩, r1, r2, by omega, r4, r3⟩
                case measure => simp [lenV]; omega
              · obtain rfl : nn = qr := by omega
                by_cases hck : cr = nn
                · subst hck
                  go_wp2_with ((at_builtin; refine wpList_app1r rfl (.tmp 89) (.tmp 94) _ _ rfl el_ints (⟨A3, cr, c3⟩ : IntsR) rfl hop3.out hkb3.size rfl rfl (by omega) ?_; intro A4 c4 w4 ho4 hf4))
                  obtain ⟨r1, r2, r3, r4⟩ := HFin.out A4 c4 w4 ho4 hf4
                  go_roundw
                  case rel => exact ⟨q + 1, c4, r + cr, 0, 0, A4, _, _, rfl, rfl, by omega, by omega, by omega, fun h => absurd h (by omega), r1, r2, by omega, r4, r3⟩
                  case measure => simp [lenV]; omega
                · go_wp2_with ((at_builtin; refine wpList_app1r rfl (.tmp 89) (.tmp 94) _ _ rfl el_ints (⟨A3, nn, c3⟩ : IntsR) rfl hop3.out hkb3.size rfl rfl (by omega) ?_; intro A4 c4 w4 ho4 hf4))
                  obtain ⟨r1, r2, r3, r4⟩ := HFin.out A4 c4 w4 ho4 hf4
                  go_roundw
                  case rel => exact ⟨q + 1, c4, r + nn, 0, cr - nn, A4, _, _, rfl, rfl, by omega, by omega, by omega, fun h => absurd h (by omega), r1, r2, by omega, r4, r3⟩
                  case measure => simp [lenV]; omega
            · obtain rfl : qr = 0 := by omega
              have HFin : Hid (intsN.plain ps = ssU xs day ahead m (k + 1)) := by
                have h := HP.out
                rw [List.drop_of_length_le (by rw [HQL.out]; omega), chunk_nil, List.append_nil] at h
                rw [Hid, h, ssU_succ, ← HL1.out]
              clear HP HL1
              go_wp2
              go_roundw
              case rel => exact ⟨k + 1, q, c', A', ps, by omega, by go_num, rfl, by omega, hop, HFin.out, hb⟩
              case measure => simp [intOf]; omega
    · obtain rfl : k = 6 := by omega
      go_wp2
      go_ret2
      exact retOwnX2_mk Hz.out hpl.out hop hb
end Go.Proofs.Ytgjnjfaohpmhkaa

namespace Go.Proofs.Ytgjnjfaohpmhkaa
open Go.RowKit

theorem sumInts_flat (xs : List (List Int)) : sumInts xs = xs.flatten.length := by
  unfold sumInts; rw [List.length_flatten]
theorem len_flatMap_le {f : Nat → List Int} {m : Nat} (h : ∀ j, (f j).length ≤ m) : ∀ k, ((List.range k).flatMap f).length ≤ k * m
  | 0 => by simp
  | k + 1 => by
    have h1 := len_flatMap_le h k
    have h2 := h k
    rw [List.range_succ, List.flatMap_append, List.length_append, Nat.succ_mul]
    simp only [List.flatMap_cons, List.flatMap_nil, List.append_nil]
    omega
theorem ssF_len (xs : List Skill) (day ahead seats : Int) : (ssF xs day ahead seats).1.length ≤ 1048576 ∧ ((ssF xs day ahead seats).1.length : Int) + sumInts (ssF xs day ahead seats).1 ≤ 1048576 := by
  unfold ssF; split
  · rename_i h
    unfold ssB at h
    simp only [Bool.and_eq_true] at h
    have h1 := (askB_parts h.1).1
    obtain ⟨s0, s1⟩ := inB_iff.1 h.2
    have hm : 0 < seats.toNat := by omega
    have hd : (dueS xs day ahead).length ≤ 24 := by rw [dueS_len]; have := dueU_len xs day ahead xs.length; omega
    have h2 := ssU_len xs day ahead hm 6
    have h3 : sumInts (ssU xs day ahead seats.toNat 6) ≤ 6 * (dueS xs day ahead).length := by
      rw [sumInts_flat, ss_flat xs day ahead hm]
      exact len_flatMap_le (fun j => List.length_filter_le _ _) 6
    simp only
    omega
  · simp [sumInts]

end Go.Proofs.Ytgjnjfaohpmhkaa
