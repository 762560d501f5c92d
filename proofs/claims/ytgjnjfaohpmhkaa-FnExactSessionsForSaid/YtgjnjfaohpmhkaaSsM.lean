/-
  slices.SortStableFunc at int, at most 24; SessionsFor's comparison. No conditions.
-/
import Derived.Test.YtgjnjfaohpmhkaaSsY
import Derived.Test.YtgjnjfaohpmhkaaSsL
import Derived.Test.YtgjnjfaohpmhkaaIss
namespace Go.Proofs.Ytgjnjfaohpmhkaa
open Go.RowKit

theorem Sl.onlyG {α : Type} [Flat α] {w w' : World} {A : Option Addr} {n : Nat} {xs : List α} (h : Sl w A n xs) {F : List Nat} (hf : OnlyF F w w') (hne : ∀ b o, A = some ⟨b, o, none⟩ → 0 < n → b ∉ F) : Sl w' A n xs := by
  refine ⟨h.1, fun k x hx => ?_⟩
  obtain ⟨b, o, cs, hA, hr, hc⟩ := h.2 k x hx
  have hk : k < n := by rw [← h.1]; exact (List.getElem?_eq_some_iff.1 hx).1
  exact ⟨b, o, cs, hA, hr, fun j v hv => hf.keeps (hc j v hv) (hne b o hA (by omega))⟩
/-- append of one new element, with what it did to memory -/
theorem wpList_app1r {α : Type} [Flat α] {P : Program} {ops : Array Oper} {rest : List Oper} {o : Oper} {a : Act} {Q : Exit → Act → World → Prop} (hgd : o.guard = none) (s x : Operand) (t e : TypeId)
    (ho : o.op = .call { callee := .builtin .append, args := #[s, x], argTypes := #[t, t] }) (he : Elem P t e (Flat.sz α)) {base : Nat} {w : World} {A : Option Addr} {n c g : Nat} {xs : List α} (y : α) (hs : a.eval s = .slice A n c)
    (hown : Own w base e (.slice A n c) xs) (hb : base ≤ w.heap.size) (hx : a.eval x = .slice (some ⟨g, 0, none⟩) 1 1) (hgw : w.heap.size = g) (hlim : n ≤ 274877906944)
    (h : ∀ A' c' w', Own w' base e (.slice A' (n + 1) c') (xs ++ [y]) → OnlyF (Value.ownBlock (.slice A n c)).toList w w' → wpList P ops Q rest (a.put o.dst (.slice A' (n + 1) c')) w') :
    wpList P ops Q (o :: rest) a (w.alloc (.cells (Flat.enc y).toArray e)) := by
  subst hgw
  obtain ⟨i, z, h1, h2, h3, h4, h5, h6⟩ := he
  have hn := hown.sl.1
  have ho1 : (w.alloc (.cells (Flat.enc y).toArray e)).ownsRow base e (Flat.sz α) (.slice A n c) n (cellsOf xs) := by
    have := World.ownsRow.alloc hown (.cells (Flat.enc y).toArray e)
    rwa [hn] at this
  refine wpList_append_own _ hgd s x t ho base e i z (Flat.sz α) i.bytes h1 h2 h3 h4 rfl h6 Flat.pos _ n (cellsOf xs) hs ho1 ⟨w.heap.size, 0, none⟩ 1 1 (Flat.enc y) hx (by rw [Flat.len, Nat.one_mul]) ?_ (Flat.one y) ?_ ?_ ?_ ?_
  · intro j u hu
    rw [addr_add, Nat.zero_add, World.cell?_alloc_new]
    simpa using hu
  · unfold maxLen; omega
  · have : (n + 1) * i.bytes ≤ (n + 1) * 256 := Nat.mul_le_mul_left _ h5
    omega
  · simp only [World.size_alloc]; omega
  · intro v' w' hown' hg _
    have hnx : (xs ++ [y]).length = n + 1 := by simp [hn]
    have hO : Own w' base e v' (xs ++ [y]) := by unfold Own; rw [hnx, cellsOf_append, cellsOf_one]; exact hown'
    obtain ⟨A', c', rfl⟩ := hO.slice
    rw [hnx] at hO ⊢
    exact h A' c' w' hO ((OnlyF.below (bl_alloc (bl_refl _) _)).trans (OnlyF.of_gb hg))
theorem el_ints : Elem Try.prog 24 38 (Flat.sz IntsR) := elem_mk Try.underlying24 (by kernel_rfl)
/-- SortStableFunc over ints, at most 24 of them -/
def RetSortV (w : World) (base : Nat) (v : Value) (key : Int → Int) (L : List Int) (e : Ending) (w' : World) : Prop :=
  e = .returned (.tuple #[]) ∧ (∃ M, M.Perm L ∧ SrtK key M ∧ Own w' base 3 v M) ∧ OnlyF v.ownBlock.toList w w'
set_option maxRecDepth 100000 in
set_option maxHeartbeats 8000000 in
theorem stable_zero (v cv : Value) (w : World) :
    Calls Try.prog 75 #[v, .int .i64 0, cv] w fun e w' => e = .returned (.tuple #[]) ∧ w' = w := by
  go_enter Try.func75, Try.ntmps75
  go_wp2
  go_loopw [7, 8] (fun av bv wr => av = .int .i64 0 ∧ bv = .int .i64 20 ∧ w = wr) (fun _ _ _ => 0)
  case atStart => exact ⟨rfl, rfl, rfl⟩
  case round =>
    obtain ⟨rfl, rfl, rfl⟩ := hrel
    go_wp2_with fail
    refine (insertion_small v cv 0 0 w (by omega) (by omega)).mono ?_
    rintro e V1 ⟨rfl, rfl⟩
    go_wp2
    go_loopw [6] (fun sv wr => sv = .int .i64 20 ∧ V1 = wr) (fun _ _ => 0)
    case atStart => exact ⟨rfl, rfl⟩
    case round =>
      obtain ⟨rfl, rfl⟩ := hrel
      go_wp2
      go_end0
      exact ⟨rfl, rfl⟩
set_option maxRecDepth 100000 in
set_option maxHeartbeats 8000000 in
theorem sortStable_any (A : Option Addr) (base n c : Nat) (L : List Int) (fg : FuncId) (caps : Array Value) (cf : Int → Int → Int) (key : Int → Int) (D : Int → Prop) (w : World) (hen : Enters Try.prog fg) (hc : ∀ g, A = some ⟨g, 0, none⟩ → CmpI g fg caps cf D w) (hk : ∀ x y, cf x y < 0 ↔ key x < key y)
    (hn : n ≤ 24) (hD : ∀ x, x ∈ L → D x) (hX : L.Pairwise (fun u v => key u = key v → u < v)) (ho : Own w base 3 (.slice A n c) L) :
    Calls Try.prog 43 #[.slice A n c, .func (.func fg) #[] caps] w (RetSortV w base (.slice A n c) key L) := by
  have hs : Hid (Calls Try.prog 75 #[.slice A n c, .int .i64 (n : Int), .func (.func fg) #[] caps] w (RetSortV w base (.slice A n c) key L)) := by
    by_cases h0 : n = 0
    · subst h0
      refine (stable_zero _ _ w).mono ?_
      rintro e V ⟨rfl, rfl⟩
      have hl : L = [] := List.eq_nil_of_length_eq_zero ho.sl.1
      exact ⟨rfl, ⟨L, List.Perm.refl _, by rw [hl]; exact List.Pairwise.nil, ho⟩, OnlyF.refl _ _⟩
    · obtain ⟨g, rfl⟩ := ho.form (by omega)
      by_cases h1 : n < 20
      · exact stable_lt base g n c L fg caps cf key D w hen (hc g rfl) hk h1 hD hX ho
      · exact stable_ge base g n c L fg caps cf key D w hen (hc g rfl) hk (by omega) hn hD hX ho
  clear hc hk hD hX ho hen
  go_enter Try.func43, Try.ntmps43
  go_wp2_with fail
  refine hs.out.mono ?_
  rintro e V ⟨rfl, h2⟩
  have H2 := Lib.hid h2
  clear h2
  go_wp2
  go_end0
  exact ⟨rfl, H2.out⟩
theorem enters_ses : Enters Try.prog 44 := enters_of Try.func44 (by kernel_rfl) (by kernel_rfl)
set_option maxHeartbeats 2000000 in
theorem sesCmp_any (xs : List Skill) (A : Option Addr) (n c bl : Nat) (x y : Nat) (W : World) (hx : x < n) (hy : y < n) (hbox : W.cell? ⟨bl, 0, none⟩ = some (.slice A n c)) (hs : Sl W A n xs) :
    Calls Try.prog 44 #[.int .i64 (x : Int), .int .i64 (y : Int), .pointer (some ⟨bl, 0, none⟩)] W fun e V => e = .returned (.int .i64 (cmpI (nth xs x).Until (nth xs y).Until)) ∧ Below W.heap.size W V := by
  obtain ⟨b, o, rfl, hbz, c0, c1, c2⟩ := hs.skill hx
  obtain ⟨b', o', he, hbz', d0, d1, d2⟩ := hs.skill hy
  injection he with he
  injection he with e1 e2
  subst e1 e2
  clear hs c0 c1 d0 d1
  go_enter Try.func44, Try.ntmps44
  go_wp2_with fail
  refine wp_region_grow (by kernel_rfl) (by kernel_rfl) (fun X hX => ?_)
  have r0 := Gw.cell (by rw [hX]; exact hbox : X.cell? _ = _)
  have r1 := Gw.cell (by rw [hX]; exact c2 : X.cell? _ = _)
  have r2 := Gw.cell (by rw [hX]; exact d2 : X.cell? _ = _)
  have HX := Lib.hid hX
  clear hX hbox c2 d2
  repeat (go_big_quiet_step ((go_at_call 45; exact Calls.grow_same (cmpI_any _ _ _))))
  refine wpGrow_nil (fun V hV => ?_)
  have hbV : Below W.heap.size W V := by rw [← HX.out]; exact hV
  clear hV r0 r1 r2
  go_wp2
  go_ret
  exact ⟨rfl, hbV⟩
theorem cmpI_key (a b : Int) : cmpI a b < 0 ↔ a < b := by
  unfold cmpI; split
  · rename_i h; exact ⟨fun _ => h, fun _ => by decide⟩
  · rename_i h
    split
    · exact ⟨fun h2 => absurd h2 (by decide), fun h2 => absurd h2 h⟩
    · exact ⟨fun h2 => absurd h2 (by decide), fun h2 => absurd h2 h⟩
theorem ses_cmp (xs : List Skill) (A : Option Addr) (n c bl g : Nat) (w : World) (hbox : w.cell? ⟨bl, 0, none⟩ = some (.slice A n c)) (hs : Sl w A n xs) (hgl : bl ≠ g) (hg : ∀ b o, A = some ⟨b, o, none⟩ → 0 < n → b ≠ g) :
    CmpI g 44 #[.pointer (some ⟨bl, 0, none⟩)] (fun a b => cmpI (keyU xs a) (keyU xs b)) (fun i => ∃ j : Nat, j < n ∧ (j : Int) = i) w := by
  rintro _ _ ⟨x, hx, rfl⟩ ⟨y, hy, rfl⟩ W hW
  have h := sesCmp_any xs A n c bl x y W hx hy (hW.keeps hbox (fun h => hgl (List.mem_singleton.1 h))) (hs.onlyG hW (fun b o hA h0 hm => hg b o hA h0 (List.mem_singleton.1 hm)))
  have e1 : keyU xs (x : Int) = (nth xs x).Until := by unfold keyU; rw [Int.toNat_natCast]
  have e2 : keyU xs (y : Int) = (nth xs y).Until := by unfold keyU; rw [Int.toNat_natCast]
  simp only [e1, e2]
  exact h
end Go.Proofs.Ytgjnjfaohpmhkaa
