/-
  slices.stableCmpFunc at int, at most 24 of them. No conditions.
-/
import Derived.Test.YtgjnjfaohpmhkaaSsX
namespace Go.Proofs.Ytgjnjfaohpmhkaa
open Go.RowKit

theorem symMerge_ok (base g n c : Nat) (fg : FuncId) (caps : Array Value) (cf : Int → Int → Int) (key : Int → Int) (D : Int → Prop) (w0 : World) (hen : Enters Try.prog fg) (hc : CmpI g fg caps cf D w0) (hk : ∀ x y, cf x y < 0 ↔ key x < key y) (hn : n ≤ 1000) : ∀ N, SymOk base g n c fg caps key D w0 N
  | 0 => fun P A B Q L0 a m b w hN ha hm hb hA hB => absurd hN (by omega)
  | N + 1 => fun P A B Q L0 a m b w hN ha hm hb hA hB hL hD hs1 hs2 hX hw ho => by
    by_cases h1 : A.length = 1
    · obtain ⟨x, rfl⟩ : ∃ x, A = [x] := by
        cases A with
        | nil => simp at h1
        | cons x A => cases A with
          | nil => exact ⟨x, rfl⟩
          | cons y A => simp at h1
      exact symL_any base g n c P B Q L0 x a m b fg caps cf key D w0 w hen hc hk ha (by simpa using hm) hb hn hL (hD x (by simp)) (fun y hy => hD y (by simp [hy])) hs2 (fun y hy e => hX x (by simp) y hy e) hw ho
    · by_cases h2 : B.length = 1
      · obtain ⟨x, rfl⟩ : ∃ x, B = [x] := by
          cases B with
          | nil => simp at h2
          | cons x A => cases A with
            | nil => exact ⟨x, rfl⟩
            | cons y A => simp at h2
        exact symR_any base g n c P A Q L0 x a m b fg caps cf key D w0 w hen hc hk ha (by omega) hm (by simpa using hb) hn hL (hD x (by simp)) (fun y hy => hD y (by simp [hy])) hs1 (fun y hy e => hX y hy x (by simp) e) hw ho
      · exact sym_step base g n c P A B Q L0 a m b N fg caps cf key D w0 w (symMerge_ok base g n c fg caps cf key D w0 hen hc hk hn N) hen hc hk hN ha hm hb (by omega) (by omega) hn hL hD hs1 hs2 hX hw ho
/-- what the sort leaves -/
def RetSort (w : World) (base g n c : Nat) (key : Int → Int) (L : List Int) (e : Ending) (w' : World) : Prop :=
  e = .returned (.tuple #[]) ∧ (∃ M, M.Perm L ∧ SrtK key M ∧ Own w' base 3 (.slice (some ⟨g, 0, none⟩) n c) M) ∧ OnlyF [g] w w'
/-- insertion sort at any range -/
theorem insertion_all (base g n c : Nat) (P A Q L0 : List Int) (a b : Nat) (fg : FuncId) (caps : Array Value) (cf : Int → Int → Int) (key : Int → Int) (D : Int → Prop) (w0 w : World) (hen : Enters Try.prog fg) (hc : CmpI g fg caps cf D w0) (hk : ∀ x y, cf x y < 0 ↔ key x < key y)
    (ha : P.length = a) (hb : P.length + A.length = b) (hn : n ≤ 1000) (hL : L0 = P ++ (A ++ Q)) (hD : ∀ x, x ∈ A → D x) (hX : A.Pairwise (fun u v => key u = key v → u < v)) (hw : OnlyF [g] w0 w) (ho : Own w base 3 (.slice (some ⟨g, 0, none⟩) n c) L0) :
    Calls Try.prog 89 #[.slice (some ⟨g, 0, none⟩) n c, .int .i64 (a : Int), .int .i64 (b : Int), .func (.func fg) #[] caps] w fun e w' => e = .returned (.tuple #[]) ∧ (∃ M, M.Perm A ∧ SrtK key M ∧ Own w' base 3 (.slice (some ⟨g, 0, none⟩) n c) (P ++ (M ++ Q))) ∧ OnlyF [g] w w' := by
  by_cases h : 0 < A.length
  · exact insertion_any base g n c P A Q L0 a b fg caps cf key D w0 w hen hc hk ha hb h hn hL hD hX hw ho
  · obtain rfl : A = [] := List.eq_nil_of_length_eq_zero (by omega)
    have hl := ho.sl.1
    rw [hL] at hl
    simp only [List.length_append, List.length_nil] at hl hb
    refine (insertion_small _ _ a b w (by omega) (by omega)).mono ?_
    rintro e V ⟨rfl, rfl⟩
    exact ⟨rfl, ⟨[], List.Perm.refl _, List.Pairwise.nil, by rw [← hL]; exact ho⟩, OnlyF.refl _ _⟩
set_option maxRecDepth 100000 in
set_option maxHeartbeats 8000000 in
theorem stable_lt (base g n c : Nat) (L : List Int) (fg : FuncId) (caps : Array Value) (cf : Int → Int → Int) (key : Int → Int) (D : Int → Prop) (w : World) (hen : Enters Try.prog fg) (hc : CmpI g fg caps cf D w) (hk : ∀ x y, cf x y < 0 ↔ key x < key y)
    (hn : n < 20) (hD : ∀ x, x ∈ L → D x) (hX : L.Pairwise (fun u v => key u = key v → u < v)) (ho : Own w base 3 (.slice (some ⟨g, 0, none⟩) n c) L) :
    Calls Try.prog 75 #[.slice (some ⟨g, 0, none⟩) n c, .int .i64 (n : Int), .func (.func fg) #[] caps] w (RetSort w base g n c key L) := by
  have hi := Lib.hid (fun W (hW : w = W) => by
    have h := insertion_all base g n c [] L [] L 0 n fg caps cf key D w W hen hc hk rfl (by have := ho.sl.1; simp; omega) (by omega) (by simp) hD hX (by rw [hW]; exact OnlyF.refl _ _) (by rw [← hW]; exact ho)
    exact h)
  have hd1 : decide (20 ≤ n) = false := decide_eq_false (by omega)
  have hd2 : decide (20 < n) = false := decide_eq_false (by omega)
  clear hc hk hD hX hen
  go_enter Try.func75, Try.ntmps75
  go_wp2
  go_loopw [7, 8] (fun av bv wr => av = .int .i64 0 ∧ bv = .int .i64 20 ∧ w = wr) (fun _ _ _ => 0)
  case atStart => exact ⟨rfl, rfl, rfl⟩
  case round =>
    obtain ⟨rfl, rfl, rfl⟩ := hrel
    go_wp2_with fail
    refine (hi.out _ rfl).mono ?_
    rintro e V1 ⟨rfl, ⟨M, p1, p2, ho1⟩, hf1⟩
    have HF : Hid (RetSort w base g n c key L (.returned (.tuple #[])) V1) := ⟨rfl, ⟨M, p1, p2, by simpa using ho1⟩, hf1⟩
    clear p1 p2 ho1 ho hi
    go_wp2
    go_loopw [6] (fun sv wr => sv = .int .i64 20 ∧ V1 = wr) (fun _ _ => 0)
    case atStart => exact ⟨rfl, rfl⟩
    case round =>
      obtain ⟨rfl, rfl⟩ := hrel
      go_wp2
      go_end0
      exact HF.out
set_option maxRecDepth 100000 in
set_option maxHeartbeats 8000000 in
theorem stable_ge (base g n c : Nat) (L : List Int) (fg : FuncId) (caps : Array Value) (cf : Int → Int → Int) (key : Int → Int) (D : Int → Prop) (w : World) (hen : Enters Try.prog fg) (hc : CmpI g fg caps cf D w) (hk : ∀ x y, cf x y < 0 ↔ key x < key y)
    (hn1 : 20 ≤ n) (hn : n ≤ 24) (hD : ∀ x, x ∈ L → D x) (hX : L.Pairwise (fun u v => key u = key v → u < v)) (ho : Own w base 3 (.slice (some ⟨g, 0, none⟩) n c) L) :
    Calls Try.prog 75 #[.slice (some ⟨g, 0, none⟩) n c, .int .i64 (n : Int), .func (.func fg) #[] caps] w (RetSort w base g n c key L) := by
  have hl := ho.sl.1
  obtain ⟨A, B, hAB, hA⟩ := split_at (Y := L) (k := 20) (by omega)
  have hB : 20 + B.length = n := by rw [hAB, List.length_append] at hl; omega
  have hX2 := hX
  rw [hAB] at hX2
  obtain ⟨xA, xB, xC⟩ := List.pairwise_append.1 hX2
  have dA : ∀ x, x ∈ A → D x := fun x hx => hD x (by rw [hAB]; simp [hx])
  have dB : ∀ x, x ∈ B → D x := fun x hx => hD x (by rw [hAB]; simp [hx])
  have h1 := Lib.hid (insertion_all base g n c [] A B L 0 20 fg caps cf key D w w hen hc hk rfl (by simp; omega) (by omega) hAB dA xA (OnlyF.refl _ _) ho)
  have h2 : Hid (∀ M1 W, M1.Perm A → SrtK key M1 → OnlyF [g] w W → Own W base 3 (.slice (some ⟨g, 0, none⟩) n c) ([] ++ (M1 ++ B)) → Calls Try.prog 89 #[.slice (some ⟨g, 0, none⟩) n c, .int .i64 20, .int .i64 (n : Int), .func (.func fg) #[] caps] W fun e w' => e = .returned (.tuple #[]) ∧ (∃ M, M.Perm B ∧ SrtK key M ∧ Own w' base 3 (.slice (some ⟨g, 0, none⟩) n c) (M1 ++ (M ++ []))) ∧ OnlyF [g] W w') := by
    intro M1 W p s f o
    have hm := p.length_eq
    exact insertion_all base g n c M1 B [] _ 20 n fg caps cf key D w W hen hc hk (by omega) (by omega) (by omega) (by simp) dB xB f o
  have h3 : Hid (∀ M1 M2 W, 20 < n → M1.Perm A → SrtK key M1 → M2.Perm B → SrtK key M2 → OnlyF [g] w W → Own W base 3 (.slice (some ⟨g, 0, none⟩) n c) (M1 ++ (M2 ++ [])) → Calls Try.prog 90 #[.slice (some ⟨g, 0, none⟩) n c, .int .i64 0, .int .i64 20, .int .i64 (n : Int), .func (.func fg) #[] caps] W (RetMerge W base g n c key [] (M1 ++ M2) [])) := by
    intro M1 M2 W hn2 p s q t f o
    have hm := p.length_eq
    have hm2 := q.length_eq
    exact symMerge_ok base g n c fg caps cf key D w hen hc hk (by omega) _ [] M1 M2 [] _ 0 20 n W (Nat.le_refl _) rfl (by omega) (by omega) (by omega) (by omega) rfl (fun x hx => by
      rcases List.mem_append.1 hx with hx | hx
      · exact dA x (p.mem_iff.1 hx)
      · exact dB x (q.mem_iff.1 hx)) s t (fun x hx y hy e => xC x (p.mem_iff.1 hx) y (q.mem_iff.1 hy) e) f (by simpa using o)
  have hlt : 20 < n ∨ n = 20 := by omega
  have HAB := Lib.hid hAB
  have HB := Lib.hid hB
  have hd1 : decide (20 ≤ n) = true := decide_eq_true hn1
  have hd2 : decide (40 ≤ n) = false := decide_eq_false (by omega)
  have hd3 : decide (40 < n) = false := decide_eq_false (by omega)
  clear hc hk hD hX hen hAB hX2 xA xB xC dA dB hl hA hB
  go_enter Try.func75, Try.ntmps75
  go_wp2
  go_loopw [7, 8] (fun av bv wr => ∃ a : Nat, av = .int .i64 a ∧ bv = .int .i64 ((a + 20 : Nat) : Int) ∧ (a = 0 ∨ a = 20) ∧ Hid ((a = 0 → w = wr) ∧ (a = 20 → OnlyF [g] w wr ∧ ∃ M1, M1.Perm A ∧ SrtK key M1 ∧ Own wr base 3 (.slice (some ⟨g, 0, none⟩) n c) ([] ++ (M1 ++ B))))) (fun av _ _ => 20 - (intOf av).toNat)
  case atStart => exact ⟨0, rfl, rfl, .inl rfl, ⟨fun _ => rfl, fun h => by omega⟩⟩
  case round =>
    obtain ⟨a, rfl, rfl, ha, HH⟩ := hrel
    rcases ha with rfl | rfl
    · obtain rfl := HH.out.1 rfl
      clear HH
      go_wp2_with fail
      refine h1.out.mono ?_
      rintro e V1 ⟨rfl, ⟨M1, p1, p2, ho1⟩, hf1⟩
      have HP : Hid (OnlyF [g] w V1 ∧ ∃ M1, M1.Perm A ∧ SrtK key M1 ∧ Own V1 base 3 (.slice (some ⟨g, 0, none⟩) n c) ([] ++ (M1 ++ B))) := ⟨hf1, M1, p1, p2, ho1⟩
      clear p1 p2 ho1 hf1
      go_wp2
      go_roundw
      case rel => exact ⟨20, rfl, rfl, .inr rfl, ⟨fun h => by omega, fun _ => HP.out⟩⟩
      case measure => simp [intOf]
    · obtain ⟨hf1, M1, p1, p2, ho1⟩ := HH.out.2 rfl
      have HP1 := Lib.hid p1
      clear HH p1
      go_wp2_with fail
      refine (h2.out M1 _ HP1.out p2 hf1 ho1).mono ?_
      rintro e V1 ⟨rfl, ⟨M2, q1, q2, ho2⟩, hf2⟩
      have HP2 := Lib.hid q1
      have HF2 := Lib.hid (hf1.trans hf2)
      clear q1 hf1 hf2 ho1
      obtain ⟨wo, hwo⟩ : ∃ wo, wo = V1 := ⟨_, rfl⟩
      subst hwo
      have hfin : ∀ M W, M.Perm (M1 ++ M2) → SrtK key M → Own W base 3 (.slice (some ⟨g, 0, none⟩) n c) ([] ++ (M ++ [])) → OnlyF [g] w W → RetSort w base g n c key L (.returned (.tuple #[])) W := by
        intro M W q s o f
        exact ⟨rfl, ⟨M, by rw [HAB.out]; exact q.trans (HP1.out.append HP2.out), s, by simpa using o⟩, f⟩
      have HFin := Lib.hid hfin
      clear hfin
      go_wp2
      rcases hlt with hlt | rfl
      · go_loopw [6] (fun sv wr => (sv = .int .i64 20 ∧ wo = wr) ∨ (sv = .int .i64 40 ∧ RetSort w base g n c key L (.returned (.tuple #[])) wr)) (fun sv _ => 40 - (intOf sv).toNat)
        case atStart => exact .inl ⟨rfl, rfl⟩
        case round =>
          rcases hrel with ⟨rfl, rfl⟩ | ⟨rfl, hre⟩
          · have hd4 : decide (20 < n) = true := decide_eq_true hlt
            go_wp2
            go_loopw [7, 8] (fun av bv wr => av = .int .i64 0 ∧ bv = .int .i64 40 ∧ wo = wr) (fun _ _ _ => 0)
            case atStart => exact ⟨rfl, rfl, rfl⟩
            case round =>
              obtain ⟨rfl, rfl, rfl⟩ := hrel
              go_wp2_with fail
              refine (h3.out M1 M2 _ hlt HP1.out p2 HP2.out q2 HF2.out ho2).mono ?_
              rintro e V2 ⟨rfl, ⟨M, r1, r2, ho3⟩, hf3⟩
              have HX := Lib.hid (HFin.out M V2 r1 r2 ho3 (HF2.out.trans hf3))
              clear r1 r2 ho3 hf3
              go_wp2
              go_roundw
              case rel => exact .inr ⟨by go_num, HX.out⟩
              case measure => simp [intOf]
          · have HR := Lib.hid hre
            clear hre
            go_wp2
            go_end0
            exact HR.out
      · have hB0 : M2 = [] := List.eq_nil_of_length_eq_zero (by have := HP2.out.length_eq; have := HB.out; omega)
        have HX := Lib.hid (HFin.out M1 wo (by rw [hB0, List.append_nil]) p2 (by rw [hB0] at ho2; simpa using ho2) HF2.out)
        clear hB0 ho2
        go_loopw [6] (fun sv wr => sv = .int .i64 20 ∧ wo = wr) (fun _ _ => 0)
        case atStart => exact ⟨rfl, rfl⟩
        case round =>
          obtain ⟨rfl, rfl⟩ := hrel
          go_wp2
          go_end0
          exact HX.out
end Go.Proofs.Ytgjnjfaohpmhkaa
