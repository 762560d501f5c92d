/-
  The drawing of inputs: numbers out of bytes. No conditions.
-/
import Derived.Test.YtgjnjfaohpmhkaaMem7
import Derived.Test.YtgjnjfaohpmhkaaMem4
import Derived.Deep.Cut
import Derived.Deep.RegionWith
namespace Go.Proofs.Ytgjnjfaohpmhkaa
open Go.RowKit

theorem wp_hide {P : Program} {c : Code} {Q : Exit → Act → World → Prop} {a : Act} {w : World} {R : World → Prop} (hR : R w) (h : ∀ V, R V → c.wp P Q a V) : c.wp P Q a w := h w hR
/-- a byte of the code -/
structure Byt where
  v : Int
instance : Inhabited Byt := ⟨⟨0⟩⟩
instance : Flat Byt where
  sz := 1
  pos := by omega
  enc := fun x => [.int .u8 x.v]
  len := fun _ => rfl
  one := fun _ u h => by simp at h; subst h; rfl
/-- where the drawing of inputs stands: the code's bytes, a place in them of at most N, a seed -/
structure CurX (w : World) (g : Nat) (N : Int) (A : Option Addr) (n c : Nat) (cs : List Byt) (at_ sd : Int) : Prop where
  c0 : w.cell? ⟨g, 0, none⟩ = some (.slice A n c)
  c1 : w.cell? ⟨g, 1, none⟩ = some (.int .i64 at_)
  c2 : w.cell? ⟨g, 2, none⟩ = some (.int .u64 sd)
  f0 : w.frozen? ⟨g, 0, none⟩ = false
  f1 : w.frozen? ⟨g, 1, none⟩ = false
  f2 : w.frozen? ⟨g, 2, none⟩ = false
  lo : 0 ≤ at_
  hi : at_ ≤ N
  sl : Sl w A n cs
  le : (n : Int) ≤ 9223372036854775807
  ok : ∀ x, x ∈ cs → 0 ≤ x.v ∧ x.v ≤ 255
  cb : ∀ b o, A = some ⟨b, o, none⟩ → 0 < n → b < g
def Cur (w : World) (g : Nat) (N : Int) : Prop := ∃ A n c cs at_ sd, CurX w g N A n c cs at_ sd
theorem Cur.lt {w : World} {g : Nat} {N : Int} (h : Cur w g N) : g < w.heap.size := by
  obtain ⟨A, n, c, cs, a, s, h⟩ := h
  exact World.block_lt_of_cell? _ _ h.c0
theorem Cur.mono {w : World} {g : Nat} {N M : Int} (h : Cur w g N) (hm : N ≤ M) : Cur w g M := by
  obtain ⟨A, n, c, cs, a, s, h⟩ := h
  exact ⟨A, n, c, cs, a, s, { h with hi := Int.le_trans h.hi hm }⟩
theorem Cur.below {w w' : World} {g : Nat} {N : Int} (h : Cur w g N) (hb : Below w.heap.size w w') : Cur w' g N := by
  have hl := h.lt
  obtain ⟨A, n, c, cs, a, s, h⟩ := h
  exact ⟨A, n, c, cs, a, s, { h with c0 := cell_later hb h.c0, c1 := cell_later hb h.c1, c2 := cell_later hb h.c2, f0 := frozen_later hb hl h.f0, f1 := frozen_later hb hl h.f1, f2 := frozen_later hb hl h.f2, sl := h.sl.below hb }⟩
theorem Sl.onlyF {α : Type} [Flat α] {w w' : World} {A : Option Addr} {n : Nat} {xs : List α} (h : Sl w A n xs) {g : Nat} (hf : OnlyF [g] w w') (hne : ∀ b o, A = some ⟨b, o, none⟩ → 0 < n → b ≠ g) : Sl w' A n xs := by
  refine ⟨h.1, fun k x hx => ?_⟩
  have hn : 0 < n := by have := (List.getElem?_eq_some_iff.1 hx).1; have := h.1; omega
  obtain ⟨b, o, cs, hA, hr, hc⟩ := h.2 k x hx
  exact ⟨b, o, cs, hA, hr, fun j v hv => hf.keeps (hc j v hv) (fun hm => hne b o hA hn (List.mem_singleton.1 hm))⟩
theorem OnlyF.setN {F : List Nat} {a W : World} (h : OnlyF F a W) {b : Nat} (hb : a.heap.size ≤ b) (o : Nat) (u : Value) : OnlyF F a (W.setCell ⟨b, o, none⟩ u) :=
  ⟨h.os, h.tape, h.output, by rw [World.size_setCell]; exact h.size, fun k hk hn => by
    rw [← h.block k hk hn]
    exact Below.heap_setCell _ _ _ _ (by simp only []; omega)⟩
theorem Cur.set {w : World} {g : Nat} {N : Int} (h : Cur w g N) {b : Nat} (hb : g < b) (o : Nat) (u : Value) : Cur (w.setCell ⟨b, o, none⟩ u) g N := by
  obtain ⟨A, n, c, cs, a, s, h⟩ := h
  have hne : ∀ j, (⟨b, o, none⟩ : Addr) ≠ ⟨g, j, none⟩ := fun j e => by injection e with e; omega
  refine ⟨A, n, c, cs, a, s, ⟨(World.cell?_setCell_other _ _ _ _ (hne 0)).trans h.c0, (World.cell?_setCell_other _ _ _ _ (hne 1)).trans h.c1, (World.cell?_setCell_other _ _ _ _ (hne 2)).trans h.c2, by rw [World.frozen?_setCell]; exact h.f0, by rw [World.frozen?_setCell]; exact h.f1, by rw [World.frozen?_setCell]; exact h.f2, h.lo, h.hi, ⟨h.sl.1, fun k x hx => ?_⟩, h.le, h.ok, h.cb⟩⟩
  obtain ⟨b', o', cs', hA, hr, hc⟩ := h.sl.2 k x hx
  refine ⟨b', o', cs', hA, hr, fun j v hv => (World.cell?_setCell_other _ _ _ _ (fun e => ?_)).trans (hc j v hv)⟩
  have := h.cb b' o' hA (by have := (List.getElem?_eq_some_iff.1 hx).1; have := h.sl.1; omega)
  injection e with e
  omega
theorem Cur.alloc {w : World} {g : Nat} {N : Int} (h : Cur w g N) (o : Obj) : Cur (w.alloc o) g N := h.below (bl_alloc (bl_refl _) _)
theorem Cur.init {W : World} {E : TypeId} {A : Option Addr} {n c : Nat} {cs : List Byt} (hs : Sl W A n cs) (hn : (n : Int) ≤ 9223372036854775807) (hok : ∀ x, x ∈ cs → 0 ≤ x.v ∧ x.v ≤ 255) : Cur (W.alloc (.cells #[.slice A n c, .int .i64 0, .int .u64 0] E)) W.heap.size 0 :=
  ⟨A, n, c, cs, 0, 0, ⟨by go_simp, by go_simp, by go_simp, by go_simp, by go_simp, by go_simp, Int.le_refl 0, Int.le_refl 0, hs.below (bl_alloc (bl_refl _) _), hn, hok, fun b o e hp => by subst e; exact hs.lt (k := 0) hp⟩⟩
theorem Cur.init' {W : World} {E : TypeId} {A : Option Addr} {n c g : Nat} {cs : List Byt} (hg : g = W.heap.size) (hs : Sl W A n cs) (hn : (n : Int) ≤ 9223372036854775807) (hok : ∀ x, x ∈ cs → 0 ≤ x.v ∧ x.v ≤ 255) : Cur (W.alloc (.cells #[.slice A n c, .int .i64 0, .int .u64 0] E)) g 0 := by
  subst hg; exact Cur.init hs hn hok
theorem bits_and (x : Int) : 0 ≤ bits .and .u64 x 255 ∧ bits .and .u64 x 255 ≤ 255 := by
  obtain ⟨m, hm⟩ : ∃ m, m = (BitVec.ofInt 64 x &&& BitVec.ofInt 64 255).toNat := ⟨_, rfl⟩
  have h : bits .and .u64 x 255 = IntKind.u64.wrap (m : Int) := by rw [hm]; rfl
  have h1 : m ≤ 255 := by
    rw [hm, BitVec.toNat_and]
    exact Nat.le_trans Nat.and_le_right (by decide)
  rw [h]
  clear h hm
  simp only [IntKind.wrap, IntKind.bits, IntKind.signed]
  simp
  omega
theorem and255 (x : Int) : 0 ≤ IntKind.i64.wrap (bits .and .u64 x 255) ∧ IntKind.i64.wrap (bits .and .u64 x 255) ≤ 255 := by
  have h := bits_and x
  have h2 : IntKind.i64.wrap (bits .and .u64 x 255) = bits .and .u64 x 255 := by
    simp only [IntKind.wrap, IntKind.bits, IntKind.signed]
    simp
    omega
  omega
theorem and255w (x : Int) : 0 ≤ wrap64 (bits .and .u64 x 255) ∧ wrap64 (bits .and .u64 x 255) ≤ 255 := by
  have h := bits_and x
  unfold wrap64
  omega
set_option maxHeartbeats 4000000 in
theorem next_any (g : Nat) (N : Int) (w : World) (hc : Cur w g N) (hN : N ≤ 1099511627776) :
    Calls Try.prog 91 #[.pointer (some ⟨g, 0, none⟩)] w fun e w' => ∃ r : Int, e = .returned (.int .i64 r) ∧ (0 ≤ r ∧ r ≤ 255) ∧ Cur w' g (N + 1) ∧ OnlyF [g] w w' := by
  obtain ⟨A, n, c, cs, at_, sd, h⟩ := hc
  have h0 := h.c0
  have h1 := h.c1
  have h2 := h.c2
  have f0 := h.f0
  have f1 := h.f1
  have f2 := h.f2
  have lg : g < w.heap.size := World.block_lt_of_cell? _ _ h0
  have lo := h.lo
  have hi := h.hi
  have hw1 : IntKind.i64.wrap (at_ + 1) = at_ + 1 := by
    simp only [IntKind.wrap, IntKind.bits, IntKind.signed]; simp; omega
  have hle := h.le
  have hr0 := Int.le_refl (0 : Int)
  have fin : ∀ (W : World) (s' : Int), W.cell? ⟨g, 0, none⟩ = some (.slice A n c) → W.cell? ⟨g, 1, none⟩ = some (.int .i64 (at_ + 1)) → W.cell? ⟨g, 2, none⟩ = some (.int .u64 s') → W.frozen? ⟨g, 0, none⟩ = false → W.frozen? ⟨g, 1, none⟩ = false → W.frozen? ⟨g, 2, none⟩ = false → OnlyF [g] w W → Cur W g (N + 1) :=
    fun W s' a0 a1 a2 b0 b1 b2 hf => ⟨A, n, c, cs, at_ + 1, s', ⟨a0, a1, a2, b0, b1, b2, by omega, by omega, h.sl.onlyF hf (fun b o e hn => Nat.ne_of_lt (h.cb b o e hn)), h.le, h.ok, h.cb⟩⟩
  by_cases hlt : at_ < (n : Int)
  · have hd : decide (at_ < (n : Int)) = true := by simpa using hlt
    have hd2 : decide (at_ + 1 ≤ (n : Int)) = true := by simp; omega
    obtain ⟨k, rfl⟩ := Int.eq_ofNat_of_zero_le lo
    have hk : k < n := by omega
    obtain ⟨b, o, rfl, hcell⟩ := h.sl.flat hk
    have hx := h.ok (nth cs k) (nth_mem (by rw [h.sl.1]; exact hk))
    have c3 : w.cell? ⟨b, o + k, none⟩ = some (.int .u8 (nth cs k).v) := by
      have := hcell 0 _ rfl
      simpa [Flat.sz] using this
    obtain ⟨v, hv⟩ : ∃ v, v = (nth cs k).v := ⟨_, rfl⟩
    rw [← hv] at hx c3
    have hw2 : IntKind.i64.wrap v = v := by
      simp only [IntKind.wrap, IntKind.bits, IntKind.signed]; simp; omega
    clear hv hcell
    have hne : b ≠ g := Nat.ne_of_lt (h.cb b o rfl (by omega))
    go_enter Try.func91, Try.ntmps91
    go_upto_region 2 with fail
    refine wp_region_grow (by kernel_rfl) (by kernel_rfl) (fun X hX => ?_)
    have hbX : Below w.heap.size w X := by rw [hX]; exact bl_refl _
    have q0 := Gw.cell (cell_later hbX h0)
    have q1 := Gw.cell (cell_later hbX h1)
    have HX := Lib.hid hX
    clear hX
    repeat (go_big_quiet_step (fail))
    refine wpGrow_nil (fun V1 hV => ?_)
    have hbV1 := bl_trans hbX hV
    have f0 := frozen_later hbV1 lg f0
    have f1 := frozen_later hbV1 lg f1
    have f2 := frozen_later hbV1 lg f2
    have h0 := cell_later hbV1 h0
    have h1 := cell_later hbV1 h1
    have h2 := cell_later hbV1 h2
    have c3 := cell_later hbV1 c3
    have lg : g < V1.heap.size := World.block_lt_of_cell? _ _ h0
    clear hV hbX HX q0 q1
    go_wp2_with fail
    refine wp_region_grow (by kernel_rfl) (by kernel_rfl) (fun X hX => ?_)
    have hbX : Below V1.heap.size V1 X := by rw [hX]; exact bl_refl _
    have q0 := Gw.cell (cell_later hbX h0)
    have q1 := Gw.cell (cell_later hbX h1)
    have q2 := Gw.cell (cell_later hbX c3)
    have HX := Lib.hid hX
    clear hX
    repeat (go_big_quiet_step (fail))
    refine wpGrow_nil (fun V2 hV => ?_)
    have hbV2 := bl_trans hbX hV
    have f0 := frozen_later hbV2 lg f0
    have f1 := frozen_later hbV2 lg f1
    have f2 := frozen_later hbV2 lg f2
    have h0 := cell_later hbV2 h0
    have h1 := cell_later hbV2 h1
    have c3 := cell_later hbV2 c3
    have h2 := cell_later hbV2 h2
    have lg : g < V2.heap.size := World.block_lt_of_cell? _ _ h0
    clear hV hbX HX q0 q1 q2
    have hf2 : OnlyF [g] w V2 := OnlyF.below (bl_trans hbV1 hbV2)
    go_wp2_with fail
    refine wp_hide (R := fun V => (∃ s', V.cell? ⟨g, 2, none⟩ = some (.int .u64 s')) ∧ V.cell? ⟨g, 0, none⟩ = some (.slice (some ⟨b, o, none⟩) n c) ∧ V.cell? ⟨g, 1, none⟩ = some (.int .i64 ((k : Int) + 1)) ∧ V.frozen? ⟨g, 0, none⟩ = false ∧ V.frozen? ⟨g, 1, none⟩ = false ∧ V.frozen? ⟨g, 2, none⟩ = false ∧ OnlyF [g] w V) ⟨?_, (by go_simp), (by go_simp), (by go_simp), (by go_simp), (by go_simp), (by repeat' (first | exact hf2 | refine OnlyF.drew ?_ | refine OnlyF.set ?_ (List.mem_singleton.2 rfl) _))⟩ (fun V hV0 => ?_)
    · exact ⟨_, World.cell?_setCell_same _ _ _ (show _ = some (.int .u64 sd) by go_simp)⟩
    obtain ⟨⟨s', a2⟩, a0, a1, b0, b1, b2, hf⟩ := hV0
    clear h0 h1 h2 f0 f1 f2
    have lg : g < V.heap.size := World.block_lt_of_cell? _ _ a0
    refine wp_region_grow (by kernel_rfl) (by kernel_rfl) (fun X hX => ?_)
    have hbX : Below V.heap.size V X := by rw [hX]; exact bl_refl _
    have q0 := Gw.cell (cell_later hbX a0)
    have q1 := Gw.cell (cell_later hbX a1)
    have HX := Lib.hid hX
    clear hX
    repeat (go_big_quiet_step (fail))
    refine wpGrow_nil (fun V3 hV => ?_)
    have hbV3 := bl_trans hbX hV
    have b0 := frozen_later hbV3 lg b0
    have b1 := frozen_later hbV3 lg b1
    have b2 := frozen_later hbV3 lg b2
    have a0 := cell_later hbV3 a0
    have a1 := cell_later hbV3 a1
    have a2 := cell_later hbV3 a2
    have lg : g < V3.heap.size := World.block_lt_of_cell? _ _ a0
    clear hV hbX HX q0 q1
    go_wp2
    go_ret
    exact ⟨_, rfl, hx, fin V3 s' a0 a1 a2 b0 b1 b2 (hf.trans (.below hbV3)), hf.trans (.below hbV3)⟩
  · have hd : decide (at_ < (n : Int)) = false := by simpa using hlt
    have hd2 : decide (at_ + 1 ≤ (n : Int)) = false := by simp; omega
    go_enter Try.func91, Try.ntmps91
    go_upto_region 2 with fail
    refine wp_region_grow (by kernel_rfl) (by kernel_rfl) (fun X hX => ?_)
    have hbX : Below w.heap.size w X := by rw [hX]; exact bl_refl _
    have q0 := Gw.cell (cell_later hbX h0)
    have q1 := Gw.cell (cell_later hbX h1)
    have HX := Lib.hid hX
    clear hX
    repeat (go_big_quiet_step (fail))
    refine wpGrow_nil (fun V2 hV => ?_)
    have hbV2 := bl_trans hbX hV
    have f0 := frozen_later hbV2 lg f0
    have f1 := frozen_later hbV2 lg f1
    have f2 := frozen_later hbV2 lg f2
    have h0 := cell_later hbV2 h0
    have h1 := cell_later hbV2 h1
    have h2 := cell_later hbV2 h2
    have lg : g < V2.heap.size := World.block_lt_of_cell? _ _ h0
    clear hV hbX HX q0 q1
    have hf2 : OnlyF [g] w V2 := OnlyF.below hbV2
    go_wp2_with fail
    refine wp_hide (R := fun V => (∃ s', V.cell? ⟨g, 2, none⟩ = some (.int .u64 s')) ∧ V.cell? ⟨g, 0, none⟩ = some (.slice A n c) ∧ V.cell? ⟨g, 1, none⟩ = some (.int .i64 (at_ + 1)) ∧ V.frozen? ⟨g, 0, none⟩ = false ∧ V.frozen? ⟨g, 1, none⟩ = false ∧ V.frozen? ⟨g, 2, none⟩ = false ∧ OnlyF [g] w V) ⟨?_, (by go_simp), (by go_simp), (by go_simp), (by go_simp), (by go_simp), (by repeat' (first | exact hf2 | refine OnlyF.drew ?_ | refine OnlyF.set ?_ (List.mem_singleton.2 rfl) _))⟩ (fun V hV0 => ?_)
    · exact ⟨_, World.cell?_setCell_same _ _ _ (show _ = some (.int .u64 sd) by go_simp)⟩
    obtain ⟨⟨s', a2⟩, a0, a1, b0, b1, b2, hf⟩ := hV0
    clear h0 h1 h2 f0 f1 f2
    have lg : g < V.heap.size := World.block_lt_of_cell? _ _ a0
    refine wp_region_grow (by kernel_rfl) (by kernel_rfl) (fun X hX => ?_)
    have hbX : Below V.heap.size V X := by rw [hX]; exact bl_refl _
    have q0 := Gw.cell (cell_later hbX a0)
    have q1 := Gw.cell (cell_later hbX a1)
    have HX := Lib.hid hX
    clear hX
    repeat (go_big_quiet_step (fail))
    refine wpGrow_nil (fun V3 hV => ?_)
    have hbV3 := bl_trans hbX hV
    have b0 := frozen_later hbV3 lg b0
    have b1 := frozen_later hbV3 lg b1
    have b2 := frozen_later hbV3 lg b2
    have a0 := cell_later hbV3 a0
    have a1 := cell_later hbV3 a1
    have a2 := cell_later hbV3 a2
    have lg : g < V3.heap.size := World.block_lt_of_cell? _ _ a0
    clear hV hbX HX q0 q1
    go_wp2
    go_ret
    exact ⟨_, rfl, and255w _, fin V3 s' a0 a1 a2 b0 b1 b2 (hf.trans (.below hbV3)), hf.trans (.below hbV3)⟩
theorem wrapi {x : Int} (h0 : -9223372036854775808 ≤ x) (h1 : x ≤ 9223372036854775807) : IntKind.i64.wrap x = x := by
  simp only [IntKind.wrap, IntKind.bits, IntKind.signed]; simp; omega
theorem mod_lt {x n : Int} (hn : 0 < n) : 0 ≤ x % n ∧ x % n < n := by
  exact ⟨Int.emod_nonneg _ (by omega), Int.emod_lt_of_pos _ hn⟩
set_option maxHeartbeats 4000000 in
theorem pick_any (g : Nat) (N n : Int) (w : World) (hc : Cur w g N) (hN : N ≤ 1000000000) (hn : n ≤ 9223372036854775807) :
    Calls Try.prog 77 #[.pointer (some ⟨g, 0, none⟩), .int .i64 n] w fun e w' => ∃ r : Int, e = .returned (.int .i64 r) ∧ (0 ≤ r ∧ (1 ≤ n → r < n)) ∧ Cur w' g (N + 2) ∧ OnlyF [g] w w' := by
  by_cases h1 : n ≤ 1
  · have hd : decide (n ≤ 1) = true := by simpa using h1
    go_enter Try.func77, Try.ntmps77
    go_wp2
    go_ret
    exact ⟨0, rfl, ⟨by omega, by omega⟩, hc.mono (by omega), OnlyF.refl _ _⟩
  have hd : decide (n ≤ 1) = false := by simpa using h1
  go_enter Try.func77, Try.ntmps77
  go_wp2_with fail
  refine (next_any g N _ hc (by omega)).mono ?_
  rintro e V1 ⟨r, rfl, hr, hc1, hf1⟩
  have hn0 : ¬ n = 0 := by omega
  by_cases h2 : 200 < n
  · have hd2 : decide (n > 200) = true := by simpa using h2
    go_wp2_with fail
    refine (next_any g (N + 1) _ hc1 (by omega)).mono ?_
    rintro e V2 ⟨r2, rfl, hr2, hc2, hf2⟩
    have e1 : IntKind.i64.wrap (r * 256) = r * 256 := wrapi (by omega) (by omega)
    have e2 : IntKind.i64.wrap (r * 256 + r2) = r * 256 + r2 := wrapi (by omega) (by omega)
    have hm := mod_lt (x := r * 256 + r2) (n := n) (by omega)
    go_wp2
    go_ret
    exact ⟨_, rfl, ⟨hm.1, fun _ => hm.2⟩, hc2.mono (by omega), hf1.trans hf2⟩
  · have hd2 : decide (n > 200) = false := by simpa using h2
    have hm := mod_lt (x := r) (n := n) (by omega)
    go_wp2
    go_ret
    exact ⟨_, rfl, ⟨hm.1, fun _ => hm.2⟩, hc1.mono (by omega), hf1⟩
theorem one_any (g : Nat) (N n : Int) (w : World) (hc : Cur w g N) (hN : N ≤ 1000000000) (hn : n ≤ 9223372036854775807) :
    Calls Try.prog 55 #[.pointer (some ⟨g, 0, none⟩), .int .i64 n] w fun e w' => ∃ b : Bool, e = .returned (.bool b) ∧ Cur w' g (N + 2) ∧ OnlyF [g] w w' := by
  go_enter Try.func55, Try.ntmps55
  go_wp2_with fail
  refine (pick_any g N n _ hc hN hn).mono ?_
  rintro e V1 ⟨r, rfl, _, hc1, hf1⟩
  go_wp2
  go_ret
  exact ⟨_, rfl, hc1, hf1⟩
theorem of_any (g : Nat) (N : Int) (A : Option Addr) (n c : Nat) (xs : List ByteArray) (w : World) (hc : Cur w g N) (hN : N ≤ 1000000000) (hs : Sl w A n xs) (hn : 1 ≤ n) (hm : n ≤ 1048576) (hne : ∀ b o, A = some ⟨b, o, none⟩ → 0 < n → b ≠ g) :
    Calls Try.prog 86 #[.pointer (some ⟨g, 0, none⟩), .slice A n c] w fun e w' => ∃ x, e = .returned (.string x) ∧ x ∈ xs ∧ Cur w' g (N + 2) ∧ OnlyF [g] w w' := by
  go_enter Try.func86, Try.ntmps86
  go_wp2_with fail
  refine (pick_any g N n _ hc hN (by omega)).mono ?_
  rintro e V1 ⟨r, rfl, hr, hc1, hf1⟩
  obtain ⟨k, rfl⟩ := Int.eq_ofNat_of_zero_le hr.1
  have hk : k < n := by have := hr.2 (by omega); omega
  obtain ⟨b, o, rfl, hcell⟩ := (hs.onlyF hf1 hne).flat hk
  have c0 : V1.cell? ⟨b, o + k, none⟩ = some (.string (nth xs k)) := by
    have := hcell 0 _ rfl
    simpa [Flat.sz] using this
  have hx : nth xs k ∈ xs := nth_mem (by rw [hs.1]; exact hk)
  have hd : (k : Int) < n := by omega
  clear hcell
  go_wp2
  go_ret
  exact ⟨_, rfl, hx, hc1, hf1⟩
theorem among_any (g : Nat) (N : Int) (A : Option Addr) (n c : Nat) (xs : List Int) (w : World) (hc : Cur w g N) (hN : N ≤ 1000000000) (hs : Sl w A n xs) (hn : 1 ≤ n) (hm : n ≤ 1048576) (hne : ∀ b o, A = some ⟨b, o, none⟩ → 0 < n → b ≠ g) :
    Calls Try.prog 54 #[.pointer (some ⟨g, 0, none⟩), .slice A n c] w fun e w' => ∃ x, e = .returned (.int .i64 x) ∧ x ∈ xs ∧ Cur w' g (N + 2) ∧ OnlyF [g] w w' := by
  go_enter Try.func54, Try.ntmps54
  go_wp2_with fail
  refine (pick_any g N n _ hc hN (by omega)).mono ?_
  rintro e V1 ⟨r, rfl, hr, hc1, hf1⟩
  obtain ⟨k, rfl⟩ := Int.eq_ofNat_of_zero_le hr.1
  have hk : k < n := by have := hr.2 (by omega); omega
  obtain ⟨b, o, rfl, hcell⟩ := (hs.onlyF hf1 hne).flat hk
  have c0 : V1.cell? ⟨b, o + k, none⟩ = some (.int .i64 (nth xs k)) := by
    have := hcell 0 _ rfl
    simpa [Flat.sz] using this
  have hx : nth xs k ∈ xs := nth_mem (by rw [hs.1]; exact hk)
  have hd : (k : Int) < n := by omega
  clear hcell
  go_wp2
  go_ret
  exact ⟨_, rfl, hx, hc1, hf1⟩
/-- a list written out, in a new block -/
theorem sl_lit {α : Type} [Flat α] (w : World) (E : TypeId) (xs : List α) (vs : Array Value) (hv : vs.toList = cellsOf xs) : Sl (w.alloc (.cells vs E)) (some ⟨w.heap.size, 0, none⟩) xs.length xs := by
  refine ⟨rfl, fun k x hx => ⟨w.heap.size, 0, Flat.enc x, rfl, rfl, fun j v hj => ?_⟩⟩
  have h1 := cellsOf_get hx hj
  rw [World.cell?_alloc_new, Nat.zero_add]
  rw [← hv] at h1
  rw [← h1]
  simp [Deep.sz]
end Go.Proofs.Ytgjnjfaohpmhkaa
