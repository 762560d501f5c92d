/-
  Several texts in one. No conditions.
-/
import Derived.Test.YtfglmghcgoembaaGreatDoorHx14
import Derived.Test.YtfglmghcgoembaaGreatDoorHx11
import Derived.Test.YtfglmghcgoembaaGreatDoorHx13
import Derived.Test.YtfglmghcgoembaaGreatDoorHx12
namespace Go.Proofs.YtfglmghcgoembaaGreatDoor
open Go.RowKit

theorem app1_blk {α : Type} [Flat α] {P : Program} (t ty e : TypeId) (he : Elem P t e (Flat.sz α)) {base : Nat} {w : World} {A : Option Addr} {n c b d : Nat} {xs : List α} {y : α}
    (hown : Own w base e (.slice A n c) xs) (hy : Sl w (some ⟨b, 0, none⟩) 1 [y]) (hlim : n ≤ 1048576) {v' : Value} {w' : World} (hr : (Builtin.append_ #[t, t] ty #[.slice A n c, .slice (some ⟨b, 0, none⟩) 1 d]).run P w = .ok v' w') :
    ∀ x, v'.ownBlock = some x → Value.ownBlock (.slice A n c) = some x ∨ w.heap.size ≤ x := by
  obtain ⟨i, z, h1, h2, h3, h4, h5, h6⟩ := he
  have hn := hown.sl.1
  have ho1 : w.ownsRow base e (Flat.sz α) (.slice A n c) n (cellsOf xs) := by
    have := hown
    unfold Own at this
    rwa [hn] at this
  have hl : (cellsOf [y]).length = 1 * Flat.sz α := by rw [cellsOf_length]; rfl
  have hc : ∀ j u, (cellsOf [y])[j]? = some u → w.cell? ((⟨b, 0, none⟩ : Addr).add j) = some u := fun j u hu => by
    rw [addr_add]; exact hy.cells j u hu
  have hb5 : (n + 1) * i.bytes ≤ (n + 1) * 256 := Nat.mul_le_mul_left _ h5
  rcases ho1.2 with ⟨hv, _⟩ | ⟨g, cap, cur, hv, hbg, hg, hnc, hcm, hcs, htk⟩
  · injection hv with e1 e2 e3
    subst e1 e2 e3
    rw [run_append_nil (P := P) w t ty e i z h1 h2 h3 ⟨b, 0, none⟩ 1 d (cellsOf [y]) (by rw [h4]; exact hl) hc (by omega) (by omega) (by omega)] at hr
    injection hr with hr _
    subst hr
    intro x hx
    exact .inr (by have : w.heap.size = x := by simpa [Value.ownBlock] using hx
                   omega)
  · injection hv with e1 e2 e3
    subst e1 e3
    by_cases hroom : n + 1 ≤ c
    · obtain ⟨w2, hr2, _⟩ := run_append_fits (P := P) w base t ty e i (Flat.sz α) h1 h2 h4 g n c (cellsOf xs) ho1 ⟨b, 0, none⟩ 1 d (cellsOf [y]) hl hc (cellsOf_oneCell _) hroom
      rw [hr2] at hr
      injection hr with hr _
      subst hr
      exact fun x hx => .inl hx
    · have hold : ∀ j v, (cellsOf xs)[j]? = some v → w.cell? ((⟨g, 0, none⟩ : Addr).add j) = some v := fun j v hj => by
        rw [addr_add]; exact hown.sl.cells j v hj
      rw [run_append_grow (P := P) w t ty e i z h1 h2 h3 ⟨g, 0, none⟩ n c (cellsOf xs) (by rw [h4]; exact ho1.1) hold ⟨b, 0, none⟩ 1 d (cellsOf [y]) (by rw [h4]; exact hl) hc (by omega) (by omega) (growslice_fits (by omega) (by omega))] at hr
      injection hr with hr _
      subst hr
      intro x hx
      exact .inr (by have : w.heap.size = x := by simpa [Value.ownBlock] using hx
                     omega)
theorem sl_litO {α : Type} [Flat α] (w : World) (E : TypeId) (y : α) : Sl (w.alloc (.cells (Flat.enc y).toArray E)) (some ⟨w.heap.size, 0, none⟩) 1 [y] := by
  refine ⟨rfl, fun k x hx => ⟨w.heap.size, 0, Flat.enc x, rfl, rfl, fun j v hj => ?_⟩⟩
  have h1 := cellsOf_get hx hj
  rw [World.cell?_alloc_new, Nat.zero_add]
  rw [cellsOf_one] at h1
  simpa [Deep.sz] using h1
theorem wpList_app1b {α : Type} [Flat α] {P : Program} {ops : Array Oper} {rest : List Oper} {o : Oper} {a : Act} {Q : Exit → Act → World → Prop} (hgd : o.guard = none) (s x : Operand) (t e : TypeId)
    (ho : o.op = .call { callee := .builtin .append, args := #[s, x], argTypes := #[t, t] }) (he : Elem P t e (Flat.sz α)) {base : Nat} {w : World} {A : Option Addr} {n c g : Nat} {xs : List α} (y : α) (hs : a.eval s = .slice A n c)
    (hown : Own w base e (.slice A n c) xs) (hb : base ≤ w.heap.size) (hx : a.eval x = .slice (some ⟨g, 0, none⟩) 1 1) (hgw : w.heap.size = g) (hlim : n ≤ 1048576)
    (h : ∀ A' c' w', Own w' base e (.slice A' (n + 1) c') (xs ++ [y]) → (w.alloc (.cells (Flat.enc y).toArray e)).grownBy w' (Value.ownBlock (.slice A n c)) → (∀ z, Value.ownBlock (.slice A' (n + 1) c') = some z → Value.ownBlock (.slice A n c) = some z ∨ w.heap.size < z) → wpList P ops Q rest (a.put o.dst (.slice A' (n + 1) c')) w') :
    wpList P ops Q (o :: rest) a (w.alloc (.cells (Flat.enc y).toArray e)) := by
  subst hgw
  have hy : Sl (w.alloc (.cells (Flat.enc y).toArray e)) (some ⟨w.heap.size, 0, none⟩) 1 [y] := sl_litO w e y
  have ho2 := hown.below (bl_alloc (bl_refl w) (.cells (Flat.enc y).toArray e))
  obtain ⟨A', c', w', hr, h1, h2⟩ := run_appN (P := P) t o.type e he ho2 (d := 1) (by simp only [World.size_alloc]; omega) hy (by omega)
  have h3 := app1_blk t o.type e he ho2 hy hlim hr
  exact Lib.wpList_append_run _ hgd s x t t ho _ _ hs hx _ _ hr (h A' c' w' h1 h2 fun z hz => by
    rcases h3 z hz with k | k
    · exact .inl k
    · simp only [World.size_alloc] at k; exact .inr (by omega))
end Go.Proofs.YtfglmghcgoembaaGreatDoor

namespace Go.Proofs.YtfglmghcgoembaaGreatDoor
open Go.RowKit

theorem wpList_appNo {α : Type} [Flat α] {P : Program} {ops : Array Oper} {rest : List Oper} {o : Oper} {a : Act} {Q : Exit → Act → World → Prop} (hgd : o.guard = none) (s x : Operand) (t e : TypeId)
    (ho : o.op = .call { callee := .builtin .append, args := #[s, x], argTypes := #[t, t] }) (he : Elem P t e (Flat.sz α)) {base : Nat} {w : World} {A B : Option Addr} {n c m d : Nat} {xs ys : List α} (hs : a.eval s = .slice A n c)
    (hown : Own w base e (.slice A n c) xs) (hb : base ≤ w.heap.size) (hx : a.eval x = .slice B m d) (hy : Sl w B m ys) (hlim : n + m ≤ 274877906944)
    (h : ∀ A' c' w', Own w' base e (.slice A' (n + m) c') (xs ++ ys) → (∀ N k, k < base → Cur w k N → Cur w' k N) → (∀ F a0, a0.heap.size ≤ base → OnlyF F a0 w → OnlyF F a0 w') → wpList P ops Q rest (a.put o.dst (.slice A' (n + m) c')) w') :
    wpList P ops Q (o :: rest) a w := by
  obtain ⟨A', c', w', hr, h1, h2⟩ := run_appN (P := P) t o.type e he hown hb hy hlim
  have hf := OnlyF.of_gb h2
  have hF : ∀ k, k ∈ (Value.ownBlock (.slice A n c)).toList → base ≤ k := fun k hk => (hown.lt k (by simpa using hk)).1
  exact Lib.wpList_append_run _ hgd s x t t ho _ _ hs hx _ _ hr (h A' c' w' h1 (fun N k hk hc => hc.onlyF hf (fun j hj => Nat.lt_of_lt_of_le hk (hF j hj))) (fun F a0 ha0 h0 => h0.own hf (fun j hj => Nat.le_trans ha0 (hF j hj))))
set_option maxRecDepth 100000 in
set_option maxHeartbeats 16000000 in
theorem anyLog_any (g : Nat) (N : Int) (w : World) (hc : Cur w g N) (hN : N ≤ 700000000) :
    Calls Tryz.prog 53 #[.pointer (some ⟨g, 0, none⟩)] w (RetLog w g (N + 500) 30) := by
  have lg0 := hc.lt
  go_enter Tryz.func53, Tryz.ntmps53
  go_wp2_with fail
  refine (pick_any g _ 2 _ (hc.below (by repeat' (first | exact bl_refl _ | refine bl_alloc ?_ _ | refine bl_drew ?_ | refine bl_set ?_ (by simp; try omega) _))) (by omega) (by omega)).mono ?_
  rintro e V1 ⟨p, rfl, hp, hc1, hf1⟩
  have lg1 : g < V1.heap.size := hc1.lt
  have hF1 : OnlyF [g] w V1 := (OnlyF.below (a := w) (by repeat' (first | exact bl_refl _ | refine bl_alloc ?_ _ | refine bl_drew ?_ | refine bl_set ?_ (by simp; try omega) _))).trans hf1
  have hp2 : p < 2 := hp.2 (by omega)
  have hp0 := hp.1
  clear hp
  have hwp : IntKind.i64.wrap (1 + p) = 1 + p := wrapi (by omega) (by omega)
  go_wp2_with fail
  refine (log_any g _ (1 + p) _ (hc1.below (by repeat' (first | exact bl_refl _ | refine bl_alloc ?_ _ | refine bl_drew ?_ | refine bl_set ?_ (by simp; try omega) _))) (by omega)).mono ?_
  rintro e V2 ⟨l, A, c, rfl, hl, hsm, ho, hc2, hf2⟩
  have lg2 : g < V2.heap.size := hc2.lt
  have hF2 : OnlyF [g] w V2 := hF1.trans ((OnlyF.below (a := V1) (by repeat' (first | exact bl_refl _ | refine bl_alloc ?_ _ | refine bl_drew ?_ | refine bl_set ?_ (by simp; try omega) _))).trans hf2)
  have z2 := hF2.size
  obtain ⟨m, hm⟩ : ∃ m, l.length = m := ⟨_, rfl⟩
  rw [hm] at hl ho ⊢
  have HM := Lib.hid hm
  have z1 := hF1.size
  replace ho := ho.mono z1
  clear hm hwp
  go_wp2_with fail
  refine (pick_any g _ 30 _ (hc2.below (by repeat' (first | exact bl_refl _ | refine bl_alloc ?_ _ | refine bl_drew ?_ | refine bl_set ?_ (by simp; try omega) _))) (by omega) (by omega)).mono ?_
  rintro e V3 ⟨q, rfl, hq, hc3, hf3⟩
  have lg3 : g < V3.heap.size := hc3.lt
  have hF3 : OnlyF [g] w V3 := hF2.trans ((OnlyF.below (a := V2) (by repeat' (first | exact bl_refl _ | refine bl_alloc ?_ _ | refine bl_drew ?_ | refine bl_set ?_ (by simp; try omega) _))).trans hf3)
  have hq0 := hq.1
  clear hq
  have ho3 := (ho.below (by repeat' (first | exact bl_refl _ | refine bl_alloc ?_ _ | refine bl_drew ?_ | refine bl_set ?_ (by simp; try omega) _))).onlyF hf3 (by omega)
  have z3 := hF3.size
  clear ho hc1 hf1 hF1 hc2 hf2
  by_cases h0 : q = 0
  · subst h0
    have hwm : IntKind.i64.wrap ((m : Int) + 1) = (m : Int) + 1 := wrapi (by omega) (by omega)
    go_wp2_with fail
    refine (among_any g _ _ _ _ [0, 1, 2, 3] _ (hc3.below (by repeat' (first | exact bl_refl _ | refine bl_alloc ?_ _ | refine bl_drew ?_ | refine bl_set ?_ (by simp; try omega) _))) (by omega) (by exact sl_lit' (by simp) rfl rfl) (by omega) (by omega) (by rintro b o h _; injection h with h; injection h with h1; omega)).mono ?_
    rintro e V4 ⟨x1, rfl, hx1, hc4, hf4⟩
    have lg4 : g < V4.heap.size := hc4.lt
    have hF4 : OnlyF [g] w V4 := hF3.trans ((OnlyF.below (a := V3) (by repeat' (first | exact bl_refl _ | refine bl_alloc ?_ _ | refine bl_drew ?_ | refine bl_set ?_ (by simp; try omega) _))).trans hf4)
    clear hx1
    have ho4 := (ho3.below (by repeat' (first | exact bl_refl _ | refine bl_alloc ?_ _ | refine bl_drew ?_ | refine bl_set ?_ (by simp; try omega) _))).onlyF hf4 (by omega)
    clear ho3
    go_wp2_with fail
    refine (among_any g _ _ _ _ [1, (m : Int) + 1, 0] _ (hc4.below (by repeat' (first | exact bl_refl _ | refine bl_alloc ?_ _ | refine bl_drew ?_ | refine bl_set ?_ (by simp; try omega) _))) (by omega) (by exact sl_lit' (by simp) rfl rfl) (by omega) (by omega) (by rintro b o h _; injection h with h; injection h with h1; omega)).mono ?_
    rintro e V5 ⟨x2, rfl, hx2, hc5, hf5⟩
    have lg5 : g < V5.heap.size := hc5.lt
    have hF5 : OnlyF [g] w V5 := hF4.trans ((OnlyF.below (a := V4) (by repeat' (first | exact bl_refl _ | refine bl_alloc ?_ _ | refine bl_drew ?_ | refine bl_set ?_ (by simp; try omega) _))).trans hf5)
    clear hx2
    have ho5 := (ho4.below (by repeat' (first | exact bl_refl _ | refine bl_alloc ?_ _ | refine bl_drew ?_ | refine bl_set ?_ (by simp; try omega) _))).onlyF hf5 (by omega)
    clear ho4
    go_wp2_with fail
    refine (among_any g _ _ _ _ [0, 99999, 100000, -1] _ (hc5.below (by repeat' (first | exact bl_refl _ | refine bl_alloc ?_ _ | refine bl_drew ?_ | refine bl_set ?_ (by simp; try omega) _))) (by omega) (by exact sl_lit' (by simp) rfl rfl) (by omega) (by omega) (by rintro b o h _; injection h with h; injection h with h1; omega)).mono ?_
    rintro e V6 ⟨x3, rfl, hx3, hc6, hf6⟩
    have lg6 : g < V6.heap.size := hc6.lt
    have hF6 : OnlyF [g] w V6 := hF5.trans ((OnlyF.below (a := V5) (by repeat' (first | exact bl_refl _ | refine bl_alloc ?_ _ | refine bl_drew ?_ | refine bl_set ?_ (by simp; try omega) _))).trans hf6)
    clear hx3
    have ho6 := (ho5.below (by repeat' (first | exact bl_refl _ | refine bl_alloc ?_ _ | refine bl_drew ?_ | refine bl_set ?_ (by simp; try omega) _))).onlyF hf6 (by omega)
    clear ho5
    go_wp2_with fail
    refine (entryWords_any g _ _ (hc6.below (by repeat' (first | exact bl_refl _ | refine bl_alloc ?_ _ | refine bl_drew ?_ | refine bl_set ?_ (by simp; try omega) _))) (by omega)).mono ?_
    rintro e V7 ⟨s, rfl, hs, hc7, hf7⟩
    have lg7 : g < V7.heap.size := hc7.lt
    have hF7 : OnlyF [g] w V7 := hF6.trans ((OnlyF.below (a := V6) (by repeat' (first | exact bl_refl _ | refine bl_alloc ?_ _ | refine bl_drew ?_ | refine bl_set ?_ (by simp; try omega) _))).trans hf7)
    have ho7 := (ho6.below (by repeat' (first | exact bl_refl _ | refine bl_alloc ?_ _ | refine bl_drew ?_ | refine bl_set ?_ (by simp; try omega) _))).onlyF hf7 (by omega)
    have z7 := hF7.size
    clear ho6
    go_wp2_with ((at_builtin; refine wpList_app1o rfl (.tmp 13) (.tmp 29) _ _ rfl el_ent (⟨x1, x2, x3, s⟩ : Entry) rfl ho7 z7 rfl (by simp) (by omega) ?_; intro A2 c2 w2 hoA hcA hfA))
    go_ret
    exact retLog_mk (l := l ++ [⟨x1, x2, x3, s⟩]) (by rw [List.length_append, HM.out]; rfl) (by omega) (hsm.snoc hs) hoA (hcA _ _ lg0 hc7) (by omega) (hfA _ _ (Nat.le_refl _) hF7)
  by_cases h1 : q = 1
  · subst h1
    go_wp2
    go_loopw [3] (fun lv wq => ∃ (l : List Entry) (A : Option Addr) (m c : Nat), lv = .slice A m c ∧ Hid (l.length = m) ∧ m ≤ 30 ∧ SmE l ∧ Own wq w.heap.size 40 (.slice A m c) l ∧ Cur wq g (N + 500) ∧ OnlyF [g] w wq) (fun lv _ => 21 - (match lv with | .slice _ q _ => q | _ => 0))
    case atStart => exact ⟨l, A, m, c, rfl, HM, by omega, hsm, ho3, hc3.mono (by omega), hF3⟩
    case round =>
      clear ho3 hc3 hF3 hf3 HM hsm hl
      obtain ⟨l, A, m, c, rfl, hl, hm30, hsm, ho, hcq, hfq⟩ := hrel
      have zq := hfq.size
      by_cases hlt : m < 21
      · have hltd : (m : Int) < 21 := by omega
        have hltb : decide (m < 21) = true := decide_eq_true hlt
        have hw1 : IntKind.i64.wrap ((m : Int) + 1) = (m : Int) + 1 := IntWalk.i64_in _ (by omega)
        go_wp2_with ((at_builtin; refine wpList_app1o rfl (.tmp 36) (.tmp 41) _ _ rfl el_ent (⟨1, (m : Int) + 1, 99999, ⟨#[120]⟩⟩ : Entry) rfl ho zq rfl (by simp) (by omega) ?_; intro A2 c2 w2 hoA hcA hfA))
        go_roundw
        case rel => exact ⟨l ++ [⟨1, (m : Int) + 1, 99999, ⟨#[120]⟩⟩], A2, m + 1, c2, rfl, by rw [Hid, List.length_append, hl.out]; rfl, by omega, hsm.snoc (by show (⟨#[120]⟩ : ByteArray).size ≤ 48; decide), hoA, hcA _ _ lg0 hcq, hfA _ _ (Nat.le_refl _) hfq⟩
        case measure => simp; omega
      · have hltd : ¬ (m : Int) < 21 := by omega
        have hltb : decide (m < 21) = false := decide_eq_false hlt
        go_wp2
        go_ret
        exact retLog_mk hl.out hm30 hsm ho hcq (by omega) hfq
  have hd0 : (q == 0) = false := by simpa using h0
  have hd1 : (q == 1) = false := by simpa using h1
  go_wp2
  go_ret
  exact retLog_mk HM.out (by omega) hsm ho3 hc3 (by omega) hF3
end Go.Proofs.YtfglmghcgoembaaGreatDoor
