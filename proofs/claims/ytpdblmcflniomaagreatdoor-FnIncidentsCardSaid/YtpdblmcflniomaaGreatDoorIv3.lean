/-
  Several texts in one. No conditions.
-/
import Derived.Deep.RegionHeld3
import Derived.Deep.DeepCutAuto
import Derived.Test.YtpdblmcflniomaaGreatDoorIv2
import Derived.Deep.Cut
import Derived.Test.YtpdblmcflniomaaGreatDoorIv0
namespace Go.Proofs.YtpdblmcflniomaaGreatDoor
open Go.RowKit

theorem frozen_later {W V : World} {p : Addr} (hb : Below W.heap.size W V) (hp : p.block < W.heap.size) (h : W.frozen? p = false) : V.frozen? p = false := (hb.frozen hp).trans h
theorem Own.set {α : Type} [Flat α] {w : World} {base : Nat} {E : TypeId} {v : Value} {xs : List α} (h : Own w base E v xs) {g : Nat} (hg : g < base) {o : Nat} (u : Value) : Own (w.setCell ⟨g, o, none⟩ u) base E v xs :=
  h.grown (gb_set (gb_refl _ _) o u) (.inr (fun e => by have := h.lt g e; omega))
theorem OnlyF.alloc {F : List Nat} {a b : World} (h : OnlyF F a b) (o : Obj) : OnlyF F a (b.alloc o) := h.trans (.below (bl_alloc (bl_refl b) o))
theorem OnlyF.drew {F : List Nat} {a b : World} (h : OnlyF F a b) : OnlyF F a b.drew := h.trans (.below (bl_drew (bl_refl b)))
theorem OnlyF.set {F : List Nat} {a b : World} (h : OnlyF F a b) {g o : Nat} (hg : g ∈ F) (u : Value) : OnlyF F a (b.setCell ⟨g, o, none⟩ u) :=
  h.trans ((OnlyF.of_gb (v := .slice (some ⟨g, 0, none⟩) 0 0) (gb_set (gb_refl b _) o u)).mono (fun k hk => by
    have hk' : k = g := by simpa [Value.ownBlock] using hk
    rw [hk']; exact hg))
theorem OnlyF.frozen {F : List Nat} {a b : World} (h : OnlyF F a b) {p : Addr} (hlt : p.block < a.heap.size) (hn : p.block ∉ F) : b.frozen? p = a.frozen? p := World.frozen?_of_block (h.block p.block hlt hn)
/-- append of one new element, whose block is told by its number. -/
theorem wpList_app1g {α : Type} [Flat α] {P : Program} {ops : Array Oper} {rest : List Oper} {o : Oper} {a : Act} {Q : Exit → Act → World → Prop} (hgd : o.guard = none) (s x : Operand) (t e : TypeId)
    (ho : o.op = .call { callee := .builtin .append, args := #[s, x], argTypes := #[t, t] }) (he : Elem P t e (Flat.sz α)) {w0 w : World} {A : Option Addr} {n c g : Nat} {xs : List α} (y : α) (hs : a.eval s = .slice A n c)
    (hown : Own w w0.heap.size e (.slice A n c) xs) (hb : Below w0.heap.size w0 w) (hx : a.eval x = .slice (some ⟨g, 0, none⟩) 1 1) (hg : w.heap.size = g) (hlim : n ≤ 274877906944)
    (h : ∀ A' c' w', Own w' w0.heap.size e (.slice A' (n + 1) c') (xs ++ [y]) → Below w0.heap.size w0 w' → (w.alloc (.cells (Flat.enc y).toArray e)).grownBy w' (Value.ownBlock (.slice A n c)) → wpList P ops Q rest (a.put o.dst (.slice A' (n + 1) c')) w') :
    wpList P ops Q (o :: rest) a (w.alloc (.cells (Flat.enc y).toArray e)) := by
  subst hg; exact wpList_app1 hgd s x t e ho he y hs hown hb hx hlim h

end Go.Proofs.YtpdblmcflniomaaGreatDoor

namespace Go.Proofs.YtpdblmcflniomaaGreatDoor
open Go.RowKit

set_option maxHeartbeats 4000000 in
/-- two slices that read alike -/
theorem pSameTexts_same (A B : Option Addr) (n c d : Nat) (xs : List ByteArray) (w : World) (hn : n ≤ 1048576) (hs : Sl w A n xs) (ht : Sl w B n xs) :
    Calls Tryz.prog 22 #[.slice A n c, .slice B n d] w fun e w' => e = .returned (.bool true) ∧ Below w.heap.size w w' := by
  have HS := Lib.hid hs
  have HT := Lib.hid ht
  clear hs ht
  go_enter Tryz.func22, Tryz.ntmps22
  go_wp2
  go_loopw [13] (fun iv wr => ∃ i : Nat, i ≤ n ∧ iv = .int .i64 i ∧ Below w.heap.size w wr) (fun iv _ => n - (intOf iv).toNat)
  case atStart => exact ⟨0, Nat.zero_le _, rfl, bl_refl _⟩
  case round =>
    obtain ⟨i, hi, rfl, hb⟩ := hrel
    by_cases hlt : i < n
    · obtain ⟨b, o, rfl, hbz, c0⟩ := (HS.out.below hb).str hlt
      obtain ⟨b', o', rfl, hbz', d0⟩ := (HT.out.below hb).str hlt
      have hid : (i : Int) < n := by omega
      go_upto_region 6 with fail
      refine wp_region_grow (by kernel_rfl) (by kernel_rfl) (fun X hX => ?_)
      have hbX : Below wr.heap.size wr X := by rw [hX]; exact bl_refl _
      have q0 := Gw.cell (cell_later hbX c0)
      have q1 := Gw.cell (cell_later hbX d0)
      have HX := Lib.hid hX
      clear hX
      repeat (go_big_quiet_step (fail))
      refine wpGrow_nil (fun V6 hV => ?_)
      have hb6 := bl_trans hb (bl_trans hbX hV)
      clear hV hbX HX q0 q1 c0 d0
      go_wp2
      go_roundw
      case rel => exact ⟨i + 1, by omega, by go_num, hb6⟩
      case measure => simp [intOf]; omega
    · go_wp2
      go_ret
      exact ⟨rfl, hb⟩

end Go.Proofs.YtpdblmcflniomaaGreatDoor

namespace Go.Proofs.YtpdblmcflniomaaGreatDoor
open Go.RowKit

theorem Sl.int {w : World} {A : Option Addr} {n : Nat} {xs : List Int} (h : Sl w A n xs) {k : Nat} (hk : k < n) :
    ∃ b o, A = some ⟨b, o, none⟩ ∧ b < w.heap.size ∧ w.cell? ⟨b, o + k, none⟩ = some (.int .i64 (nth xs k)) := by
  obtain ⟨b, o, rfl, hc⟩ := h.flat hk
  have h0 := hc 0 _ rfl
  have e : Flat.sz Int = 1 := rfl
  rw [e, Nat.mul_one, Nat.add_zero] at h0
  exact ⟨b, o, rfl, h.lt hk, h0⟩
theorem Own.int {w : World} {base g n c : Nat} {E : TypeId} {xs : List Int} (h : Own w base E (.slice (some ⟨g, 0, none⟩) n c) xs) {k : Nat} (hk : k < n) : w.cell? ⟨g, k, none⟩ = some (.int .i64 (nth xs k)) := by
  have h0 := h.cellAt hk 0 _ rfl
  have e : Flat.sz Int = 1 := rfl
  rwa [e, Nat.mul_one, Nat.add_zero] at h0
theorem Own.putint {w : World} {base g n c : Nat} {E : TypeId} {xs : List Int} (h : Own w base E (.slice (some ⟨g, 0, none⟩) n c) xs) {k : Nat} (hk : k < n) (y : Int) : Own (w.setCell ⟨g, k, none⟩ (.int .i64 (y))) base E (.slice (some ⟨g, 0, none⟩) n c) (xs.set k y) := by
  have h0 := h.put hk y
  have e : Flat.sz Int = 1 := rfl
  rw [e, Nat.mul_one] at h0
  exact h0
theorem el_int : Elem Tryz.prog 36 3 (Flat.sz Int) := elem_mk Tryz.underlying36 (by kernel_rfl)
end Go.Proofs.YtpdblmcflniomaaGreatDoor
