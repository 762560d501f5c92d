/-
  Several texts in one. No conditions.
-/
import Derived.Test.YtfglmghcgoembaaGreatDoorMem7
import Derived.Test.YtfglmghcgoembaaGreatDoorHx3
import Derived.Deep.Cut
import Derived.Deep.RegionWith
import Derived.Test.YtfglmghcgoembaaGreatDoorHx5
namespace Go.Proofs.YtfglmghcgoembaaGreatDoor
open Go.RowKit

theorem wp_hide {P : Program} {c : Code} {Q : Exit → Act → World → Prop} {a : Act} {w : World} {R : World → Prop} (hR : R w) (h : ∀ V, R V → c.wp P Q a V) : c.wp P Q a w := h w hR
/-- a byte of the code -/
structure Byt where
  v : Int
instance : Inhabited Byt := ⟨⟨0⟩⟩
instance : Flat Byt where
  sz := 1
  pos := by omega
  enc := fun x => [.int .u8 x.v]
  len := fun _ => rfl
  one := fun _ u h => by simp at h; subst h; rfl
/-- where the drawing of inputs stands: the code's bytes, a place in them of at most N, a seed -/
structure CurX (w : World) (g : Nat) (N : Int) (A : Option Addr) (n c : Nat) (cs : List Byt) (at_ sd : Int) : Prop where
  c0 : w.cell? ⟨g, 0, none⟩ = some (.slice A n c)
  c1 : w.cell? ⟨g, 1, none⟩ = some (.int .i64 at_)
  c2 : w.cell? ⟨g, 2, none⟩ = some (.int .u64 sd)
  f0 : w.frozen? ⟨g, 0, none⟩ = false
  f1 : w.frozen? ⟨g, 1, none⟩ = false
  f2 : w.frozen? ⟨g, 2, none⟩ = false
  lo : 0 ≤ at_
  hi : at_ ≤ N
  sl : Sl w A n cs
  le : (n : Int) ≤ 9223372036854775807
  ok : ∀ x, x ∈ cs → 0 ≤ x.v ∧ x.v ≤ 255
  cb : ∀ b o, A = some ⟨b, o, none⟩ → 0 < n → b < g
def Cur (w : World) (g : Nat) (N : Int) : Prop := ∃ A n c cs at_ sd, CurX w g N A n c cs at_ sd
theorem Cur.lt {w : World} {g : Nat} {N : Int} (h : Cur w g N) : g < w.heap.size := by
  obtain ⟨A, n, c, cs, a, s, h⟩ := h
  exact World.block_lt_of_cell? _ _ h.c0
theorem Cur.mono {w : World} {g : Nat} {N M : Int} (h : Cur w g N) (hm : N ≤ M) : Cur w g M := by
  obtain ⟨A, n, c, cs, a, s, h⟩ := h
  exact ⟨A, n, c, cs, a, s, { h with hi := Int.le_trans h.hi hm }⟩
theorem Cur.below {w w' : World} {g : Nat} {N : Int} (h : Cur w g N) (hb : Below w.heap.size w w') : Cur w' g N := by
  have hl := h.lt
  obtain ⟨A, n, c, cs, a, s, h⟩ := h
  exact ⟨A, n, c, cs, a, s, { h with c0 := cell_later hb h.c0, c1 := cell_later hb h.c1, c2 := cell_later hb h.c2, f0 := frozen_later hb hl h.f0, f1 := frozen_later hb hl h.f1, f2 := frozen_later hb hl h.f2, sl := h.sl.below hb }⟩
theorem Sl.onlyF {α : Type} [Flat α] {w w' : World} {A : Option Addr} {n : Nat} {xs : List α} (h : Sl w A n xs) {g : Nat} (hf : OnlyF [g] w w') (hne : ∀ b o, A = some ⟨b, o, none⟩ → 0 < n → b ≠ g) : Sl w' A n xs := by
  refine ⟨h.1, fun k x hx => ?_⟩
  have hn : 0 < n := by have := (List.getElem?_eq_some_iff.1 hx).1; have := h.1; omega
  obtain ⟨b, o, cs, hA, hr, hc⟩ := h.2 k x hx
  exact ⟨b, o, cs, hA, hr, fun j v hv => hf.keeps (hc j v hv) (fun hm => hne b o hA hn (List.mem_singleton.1 hm))⟩
theorem OnlyF.setN {F : List Nat} {a W : World} (h : OnlyF F a W) {b : Nat} (hb : a.heap.size ≤ b) (o : Nat) (u : Value) : OnlyF F a (W.setCell ⟨b, o, none⟩ u) :=
  ⟨h.os, h.tape, h.output, by rw [World.size_setCell]; exact h.size, fun k hk hn => by
    rw [← h.block k hk hn]
    exact Below.heap_setCell _ _ _ _ (by simp only []; omega)⟩
theorem Cur.set {w : World} {g : Nat} {N : Int} (h : Cur w g N) {b : Nat} (hb : g < b) (o : Nat) (u : Value) : Cur (w.setCell ⟨b, o, none⟩ u) g N := by
  obtain ⟨A, n, c, cs, a, s, h⟩ := h
  have hne : ∀ j, (⟨b, o, none⟩ : Addr) ≠ ⟨g, j, none⟩ := fun j e => by injection e with e; omega
  refine ⟨A, n, c, cs, a, s, ⟨(World.cell?_setCell_other _ _ _ _ (hne 0)).trans h.c0, (World.cell?_setCell_other _ _ _ _ (hne 1)).trans h.c1, (World.cell?_setCell_other _ _ _ _ (hne 2)).trans h.c2, by rw [World.frozen?_setCell]; exact h.f0, by rw [World.frozen?_setCell]; exact h.f1, by rw [World.frozen?_setCell]; exact h.f2, h.lo, h.hi, ⟨h.sl.1, fun k x hx => ?_⟩, h.le, h.ok, h.cb⟩⟩
  obtain ⟨b', o', cs', hA, hr, hc⟩ := h.sl.2 k x hx
  refine ⟨b', o', cs', hA, hr, fun j v hv => (World.cell?_setCell_other _ _ _ _ (fun e => ?_)).trans (hc j v hv)⟩
  have := h.cb b' o' hA (by have := (List.getElem?_eq_some_iff.1 hx).1; have := h.sl.1; omega)
  injection e with e
  omega
theorem Cur.alloc {w : World} {g : Nat} {N : Int} (h : Cur w g N) (o : Obj) : Cur (w.alloc o) g N := h.below (bl_alloc (bl_refl _) _)
theorem Cur.init {W : World} {E : TypeId} {A : Option Addr} {n c : Nat} {cs : List Byt} (hs : Sl W A n cs) (hn : (n : Int) ≤ 9223372036854775807) (hok : ∀ x, x ∈ cs → 0 ≤ x.v ∧ x.v ≤ 255) : Cur (W.alloc (.cells #[.slice A n c, .int .i64 0, .int .u64 0] E)) W.heap.size 0 :=
  ⟨A, n, c, cs, 0, 0, ⟨by go_simp, by go_simp, by go_simp, by go_simp, by go_simp, by go_simp, Int.le_refl 0, Int.le_refl 0, hs.below (bl_alloc (bl_refl _) _), hn, hok, fun b o e hp => by subst e; exact hs.lt (k := 0) hp⟩⟩
theorem Cur.init' {W : World} {E : TypeId} {A : Option Addr} {n c g : Nat} {cs : List Byt} (hg : g = W.heap.size) (hs : Sl W A n cs) (hn : (n : Int) ≤ 9223372036854775807) (hok : ∀ x, x ∈ cs → 0 ≤ x.v ∧ x.v ≤ 255) : Cur (W.alloc (.cells #[.slice A n c, .int .i64 0, .int .u64 0] E)) g 0 := by
  subst hg; exact Cur.init hs hn hok
theorem bits_and (x : Int) : 0 ≤ bits .and .u64 x 255 ∧ bits .and .u64 x 255 ≤ 255 := by
  obtain ⟨m, hm⟩ : ∃ m, m = (BitVec.ofInt 64 x &&& BitVec.ofInt 64 255).toNat := ⟨_, rfl⟩
  have h : bits .and .u64 x 255 = IntKind.u64.wrap (m : Int) := by rw [hm]; rfl
  have h1 : m ≤ 255 := by
    rw [hm, BitVec.toNat_and]
    exact Nat.le_trans Nat.and_le_right (by decide)
  rw [h]
  clear h hm
  simp only [IntKind.wrap, IntKind.bits, IntKind.signed]
  simp
  omega
theorem and255 (x : Int) : 0 ≤ IntKind.i64.wrap (bits .and .u64 x 255) ∧ IntKind.i64.wrap (bits .and .u64 x 255) ≤ 255 := by
  have h := bits_and x
  have h2 : IntKind.i64.wrap (bits .and .u64 x 255) = bits .and .u64 x 255 := by
    simp only [IntKind.wrap, IntKind.bits, IntKind.signed]
    simp
    omega
  omega
theorem and255w (x : Int) : 0 ≤ wrap64 (bits .and .u64 x 255) ∧ wrap64 (bits .and .u64 x 255) ≤ 255 := by
  have h := bits_and x
  unfold wrap64
  omega
set_option maxHeartbeats 4000000 in
theorem next_any (g : Nat) (N : Int) (w : World) (hc : Cur w g N) (hN : N ≤ 1099511627776) :
    Calls Tryz.prog 67 #[.pointer (some ⟨g, 0, none⟩)] w fun e w' => ∃ r : Int, e = .returned (.int .i64 r) ∧ (0 ≤ r ∧ r ≤ 255) ∧ Cur w' g (N + 1) ∧ OnlyF [g] w w' := by
  obtain ⟨A, n, c, cs, at_, sd, h⟩ := hc
  have h0 := h.c0
  have h1 := h.c1
  have h2 := h.c2
  have f0 := h.f0
  have f1 := h.f1
  have f2 := h.f2
  have lg : g < w.heap.size := World.block_lt_of_cell? _ _ h0
  have lo := h.lo
  have hi := h.hi
  have hw1 : IntKind.i64.wrap (at_ + 1) = at_ + 1 := by
    simp only [IntKind.wrap, IntKind.bits, IntKind.signed]; simp; omega
  have hle := h.le
  have hr0 := Int.le_refl (0 : Int)
  have fin : ∀ (W : World) (s' : Int), W.cell? ⟨g, 0, none⟩ = some (.slice A n c) → W.cell? ⟨g, 1, none⟩ = some (.int .i64 (at_ + 1)) → W.cell? ⟨g, 2, none⟩ = some (.int .u64 s') → W.frozen? ⟨g, 0, none⟩ = false → W.frozen? ⟨g, 1, none⟩ = false → W.frozen? ⟨g, 2, none⟩ = false → OnlyF [g] w W → Cur W g (N + 1) :=
    fun W s' a0 a1 a2 b0 b1 b2 hf => ⟨A, n, c, cs, at_ + 1, s', ⟨a0, a1, a2, b0, b1, b2, by omega, by omega, h.sl.onlyF hf (fun b o e hn => Nat.ne_of_lt (h.cb b o e hn)), h.le, h.ok, h.cb⟩⟩
  by_cases hlt : at_ < (n : Int)
  · have hd : decide (at_ < (n : Int)) = true := by simpa using hlt
    have hd2 : decide (at_ + 1 ≤ (n : Int)) = true := by simp; omega
    obtain ⟨k, rfl⟩ := Int.eq_ofNat_of_zero_le lo
    have hk : k < n := by omega
    obtain ⟨b, o, rfl, hcell⟩ := h.sl.flat hk
    have hx := h.ok (nth cs k) (nth_mem (by rw [h.sl.1]; exact hk))
    have c3 : w.cell? ⟨b, o + k, none⟩ = some (.int .u8 (nth cs k).v) := by
      have := hcell 0 _ rfl
      simpa [Flat.sz] using this
    obtain ⟨v, hv⟩ : ∃ v, v = (nth cs k).v := ⟨_, rfl⟩
    rw [← hv] at hx c3
    have hw2 : IntKind.i64.wrap v = v := by
      simp only [IntKind.wrap, IntKind.bits, IntKind.signed]; simp; omega
    clear hv hcell
    have hne : b ≠ g := Nat.ne_of_lt (h.cb b o rfl (by omega))
    go_enter Tryz.func67, Tryz.ntmps67
    go_upto_region 2 with fail
    refine wp_region_grow (by kernel_rfl) (by kernel_rfl) (fun X hX => ?_)
    have hbX : Below w.heap.size w X := by rw [hX]; exact bl_refl _
    have q0 := Gw.cell (cell_later hbX h0)
    have q1 := Gw.cell (cell_later hbX h1)
    have HX := Lib.hid hX
    clear hX
    repeat (go_big_quiet_step (fail))
    refine wpGrow_nil (fun V1 hV => ?_)
    have hbV1 := bl_trans hbX hV
    have f0 := frozen_later hbV1 lg f0
    have f1 := frozen_later hbV1 lg f1
    have f2 := frozen_later hbV1 lg f2
    have h0 := cell_later hbV1 h0
    have h1 := cell_later hbV1 h1
    have h2 := cell_later hbV1 h2
    have c3 := cell_later hbV1 c3
    have lg : g < V1.heap.size := World.block_lt_of_cell? _ _ h0
    clear hV hbX HX q0 q1
    go_wp2_with fail
    refine wp_region_grow (by kernel_rfl) (by kernel_rfl) (fun X hX => ?_)
    have hbX : Below V1.heap.size V1 X := by rw [hX]; exact bl_refl _
    have q0 := Gw.cell (cell_later hbX h0)
    have q1 := Gw.cell (cell_later hbX h1)
    have q2 := Gw.cell (cell_later hbX c3)
    have HX := Lib.hid hX
    clear hX
    repeat (go_big_quiet_step (fail))
    refine wpGrow_nil (fun V2 hV => ?_)
    have hbV2 := bl_trans hbX hV
    have f0 := frozen_later hbV2 lg f0
    have f1 := frozen_later hbV2 lg f1
    have f2 := frozen_later hbV2 lg f2
    have h0 := cell_later hbV2 h0
    have h1 := cell_later hbV2 h1
    have c3 := cell_later hbV2 c3
    have h2 := cell_later hbV2 h2
    have lg : g < V2.heap.size := World.block_lt_of_cell? _ _ h0
    clear hV hbX HX q0 q1 q2
    have hf2 : OnlyF [g] w V2 := OnlyF.below (bl_trans hbV1 hbV2)
    go_wp2_with fail
    refine wp_hide (R := fun V => (∃ s', V.cell? ⟨g, 2, none⟩ = some (.int .u64 s')) ∧ V.cell? ⟨g, 0, none⟩ = some (.slice (some ⟨b, o, none⟩) n c) ∧ V.cell? ⟨g, 1, none⟩ = some (.int .i64 ((k : Int) + 1)) ∧ V.frozen? ⟨g, 0, none⟩ = false ∧ V.frozen? ⟨g, 1, none⟩ = false ∧ V.frozen? ⟨g, 2, none⟩ = false ∧ OnlyF [g] w V) ⟨?_, (by go_simp), (by go_simp), (by go_simp), (by go_simp), (by go_simp), (by repeat' (first | exact hf2 | refine OnlyF.drew ?_ | refine OnlyF.set ?_ (List.mem_singleton.2 rfl) _))⟩ (fun V hV0 => ?_)
    · exact ⟨_, World.cell?_setCell_same _ _ _ (show _ = some (.int .u64 sd) by go_simp)⟩
    obtain ⟨⟨s', a2⟩, a0, a1, b0, b1, b2, hf⟩ := hV0
    clear h0 h1 h2 f0 f1 f2
    have lg : g < V.heap.size := World.block_lt_of_cell? _ _ a0
    refine wp_region_grow (by kernel_rfl) (by kernel_rfl) (fun X hX => ?_)
    have hbX : Below V.heap.size V X := by rw [hX]; exact bl_refl _
    have q0 := Gw.cell (cell_later hbX a0)
    have q1 := Gw.cell (cell_later hbX a1)
    have HX := Lib.hid hX
    clear hX
    repeat (go_big_quiet_step (fail))
    refine wpGrow_nil (fun V3 hV => ?_)
    have hbV3 := bl_trans hbX hV
    have b0 := frozen_later hbV3 lg b0
    have b1 := frozen_later hbV3 lg b1
    have b2 := frozen_later hbV3 lg b2
    have a0 := cell_later hbV3 a0
    have a1 := cell_later hbV3 a1
    have a2 := cell_later hbV3 a2
    have lg : g < V3.heap.size := World.block_lt_of_cell? _ _ a0
    clear hV hbX HX q0 q1
    go_wp2
    go_ret
    exact ⟨_, rfl, hx, fin V3 s' a0 a1 a2 b0 b1 b2 (hf.trans (.below hbV3)), hf.trans (.below hbV3)⟩
  · have hd : decide (at_ < (n : Int)) = false := by simpa using hlt
    have hd2 : decide (at_ + 1 ≤ (n : Int)) = false := by simp; omega
    go_enter Tryz.func67, Tryz.ntmps67
    go_upto_region 2 with fail
    refine wp_region_grow (by kernel_rfl) (by kernel_rfl) (fun X hX => ?_)
    have hbX : Below w.heap.size w X := by rw [hX]; exact bl_refl _
    have q0 := Gw.cell (cell_later hbX h0)
    have q1 := Gw.cell (cell_later hbX h1)
    have HX := Lib.hid hX
    clear hX
    repeat (go_big_quiet_step (fail))
    refine wpGrow_nil (fun V2 hV => ?_)
    have hbV2 := bl_trans hbX hV
    have f0 := frozen_later hbV2 lg f0
    have f1 := frozen_later hbV2 lg f1
    have f2 := frozen_later hbV2 lg f2
    have h0 := cell_later hbV2 h0
    have h1 := cell_later hbV2 h1
    have h2 := cell_later hbV2 h2
    have lg : g < V2.heap.size := World.block_lt_of_cell? _ _ h0
    clear hV hbX HX q0 q1
    have hf2 : OnlyF [g] w V2 := OnlyF.below hbV2
    go_wp2_with fail
    refine wp_hide (R := fun V => (∃ s', V.cell? ⟨g, 2, none⟩ = some (.int .u64 s')) ∧ V.cell? ⟨g, 0, none⟩ = some (.slice A n c) ∧ V.cell? ⟨g, 1, none⟩ = some (.int .i64 (at_ + 1)) ∧ V.frozen? ⟨g, 0, none⟩ = false ∧ V.frozen? ⟨g, 1, none⟩ = false ∧ V.frozen? ⟨g, 2, none⟩ = false ∧ OnlyF [g] w V) ⟨?_, (by go_simp), (by go_simp), (by go_simp), (by go_simp), (by go_simp), (by repeat' (first | exact hf2 | refine OnlyF.drew ?_ | refine OnlyF.set ?_ (List.mem_singleton.2 rfl) _))⟩ (fun V hV0 => ?_)
    · exact ⟨_, World.cell?_setCell_same _ _ _ (show _ = some (.int .u64 sd) by go_simp)⟩
    obtain ⟨⟨s', a2⟩, a0, a1, b0, b1, b2, hf⟩ := hV0
    clear h0 h1 h2 f0 f1 f2
    have lg : g < V.heap.size := World.block_lt_of_cell? _ _ a0
    refine wp_region_grow (by kernel_rfl) (by kernel_rfl) (fun X hX => ?_)
    have hbX : Below V.heap.size V X := by rw [hX]; exact bl_refl _
    have q0 := Gw.cell (cell_later hbX a0)
    have q1 := Gw.cell (cell_later hbX a1)
    have HX := Lib.hid hX
    clear hX
    repeat (go_big_quiet_step (fail))
    refine wpGrow_nil (fun V3 hV => ?_)
    have hbV3 := bl_trans hbX hV
    have b0 := frozen_later hbV3 lg b0
    have b1 := frozen_later hbV3 lg b1
    have b2 := frozen_later hbV3 lg b2
    have a0 := cell_later hbV3 a0
    have a1 := cell_later hbV3 a1
    have a2 := cell_later hbV3 a2
    have lg : g < V3.heap.size := World.block_lt_of_cell? _ _ a0
    clear hV hbX HX q0 q1
    go_wp2
    go_ret
    exact ⟨_, rfl, and255w _, fin V3 s' a0 a1 a2 b0 b1 b2 (hf.trans (.below hbV3)), hf.trans (.below hbV3)⟩
theorem wrapi {x : Int} (h0 : -9223372036854775808 ≤ x) (h1 : x ≤ 9223372036854775807) : IntKind.i64.wrap x = x := by
  simp only [IntKind.wrap, IntKind.bits, IntKind.signed]; simp; omega
theorem mod_lt {x n : Int} (hn : 0 < n) : 0 ≤ x % n ∧ x % n < n := by
  exact ⟨Int.emod_nonneg _ (by omega), Int.emod_lt_of_pos _ hn⟩
set_option maxHeartbeats 4000000 in
theorem pick_any (g : Nat) (N n : Int) (w : World) (hc : Cur w g N) (hN : N ≤ 1000000000) (hn : n ≤ 9223372036854775807) :
    Calls Tryz.prog 47 #[.pointer (some ⟨g, 0, none⟩), .int .i64 n] w fun e w' => ∃ r : Int, e = .returned (.int .i64 r) ∧ (0 ≤ r ∧ (1 ≤ n → r < n)) ∧ Cur w' g (N + 2) ∧ OnlyF [g] w w' := by
  by_cases h1 : n ≤ 1
  · have hd : decide (n ≤ 1) = true := by simpa using h1
    go_enter Tryz.func47, Tryz.ntmps47
    go_wp2
    go_ret
    exact ⟨0, rfl, ⟨by omega, by omega⟩, hc.mono (by omega), OnlyF.refl _ _⟩
  have hd : decide (n ≤ 1) = false := by simpa using h1
  go_enter Tryz.func47, Tryz.ntmps47
  go_wp2_with fail
  refine (next_any g N _ hc (by omega)).mono ?_
  rintro e V1 ⟨r, rfl, hr, hc1, hf1⟩
  have hn0 : ¬ n = 0 := by omega
  by_cases h2 : 200 < n
  · have hd2 : decide (n > 200) = true := by simpa using h2
    go_wp2_with fail
    refine (next_any g (N + 1) _ hc1 (by omega)).mono ?_
    rintro e V2 ⟨r2, rfl, hr2, hc2, hf2⟩
    have e1 : IntKind.i64.wrap (r * 256) = r * 256 := wrapi (by omega) (by omega)
    have e2 : IntKind.i64.wrap (r * 256 + r2) = r * 256 + r2 := wrapi (by omega) (by omega)
    have hm := mod_lt (x := r * 256 + r2) (n := n) (by omega)
    go_wp2
    go_ret
    exact ⟨_, rfl, ⟨hm.1, fun _ => hm.2⟩, hc2.mono (by omega), hf1.trans hf2⟩
  · have hd2 : decide (n > 200) = false := by simpa using h2
    have hm := mod_lt (x := r) (n := n) (by omega)
    go_wp2
    go_ret
    exact ⟨_, rfl, ⟨hm.1, fun _ => hm.2⟩, hc1.mono (by omega), hf1⟩
theorem one_any (g : Nat) (N n : Int) (w : World) (hc : Cur w g N) (hN : N ≤ 1000000000) (hn : n ≤ 9223372036854775807) :
    Calls Tryz.prog 21 #[.pointer (some ⟨g, 0, none⟩), .int .i64 n] w fun e w' => ∃ b : Bool, e = .returned (.bool b) ∧ Cur w' g (N + 2) ∧ OnlyF [g] w w' := by
  go_enter Tryz.func21, Tryz.ntmps21
  go_wp2_with fail
  refine (pick_any g N n _ hc hN hn).mono ?_
  rintro e V1 ⟨r, rfl, _, hc1, hf1⟩
  go_wp2
  go_ret
  exact ⟨_, rfl, hc1, hf1⟩
theorem of_any (g : Nat) (N : Int) (A : Option Addr) (n c : Nat) (xs : List ByteArray) (w : World) (hc : Cur w g N) (hN : N ≤ 1000000000) (hs : Sl w A n xs) (hn : 1 ≤ n) (hm : n ≤ 1048576) (hne : ∀ b o, A = some ⟨b, o, none⟩ → 0 < n → b ≠ g) :
    Calls Tryz.prog 68 #[.pointer (some ⟨g, 0, none⟩), .slice A n c] w fun e w' => ∃ x, e = .returned (.string x) ∧ x ∈ xs ∧ Cur w' g (N + 2) ∧ OnlyF [g] w w' := by
  go_enter Tryz.func68, Tryz.ntmps68
  go_wp2_with fail
  refine (pick_any g N n _ hc hN (by omega)).mono ?_
  rintro e V1 ⟨r, rfl, hr, hc1, hf1⟩
  obtain ⟨k, rfl⟩ := Int.eq_ofNat_of_zero_le hr.1
  have hk : k < n := by have := hr.2 (by omega); omega
  obtain ⟨b, o, rfl, hcell⟩ := (hs.onlyF hf1 hne).flat hk
  have c0 : V1.cell? ⟨b, o + k, none⟩ = some (.string (nth xs k)) := by
    have := hcell 0 _ rfl
    simpa [Flat.sz] using this
  have hx : nth xs k ∈ xs := nth_mem (by rw [hs.1]; exact hk)
  have hd : (k : Int) < n := by omega
  clear hcell
  go_wp2
  go_ret
  exact ⟨_, rfl, hx, hc1, hf1⟩
theorem among_any (g : Nat) (N : Int) (A : Option Addr) (n c : Nat) (xs : List Int) (w : World) (hc : Cur w g N) (hN : N ≤ 1000000000) (hs : Sl w A n xs) (hn : 1 ≤ n) (hm : n ≤ 1048576) (hne : ∀ b o, A = some ⟨b, o, none⟩ → 0 < n → b ≠ g) :
    Calls Tryz.prog 48 #[.pointer (some ⟨g, 0, none⟩), .slice A n c] w fun e w' => ∃ x, e = .returned (.int .i64 x) ∧ x ∈ xs ∧ Cur w' g (N + 2) ∧ OnlyF [g] w w' := by
  go_enter Tryz.func48, Tryz.ntmps48
  go_wp2_with fail
  refine (pick_any g N n _ hc hN (by omega)).mono ?_
  rintro e V1 ⟨r, rfl, hr, hc1, hf1⟩
  obtain ⟨k, rfl⟩ := Int.eq_ofNat_of_zero_le hr.1
  have hk : k < n := by have := hr.2 (by omega); omega
  obtain ⟨b, o, rfl, hcell⟩ := (hs.onlyF hf1 hne).flat hk
  have c0 : V1.cell? ⟨b, o + k, none⟩ = some (.int .i64 (nth xs k)) := by
    have := hcell 0 _ rfl
    simpa [Flat.sz] using this
  have hx : nth xs k ∈ xs := nth_mem (by rw [hs.1]; exact hk)
  have hd : (k : Int) < n := by omega
  clear hcell
  go_wp2
  go_ret
  exact ⟨_, rfl, hx, hc1, hf1⟩
/-- a list written out, in a new block -/
theorem sl_lit {α : Type} [Flat α] (w : World) (E : TypeId) (xs : List α) (vs : Array Value) (hv : vs.toList = cellsOf xs) : Sl (w.alloc (.cells vs E)) (some ⟨w.heap.size, 0, none⟩) xs.length xs := by
  refine ⟨rfl, fun k x hx => ⟨w.heap.size, 0, Flat.enc x, rfl, rfl, fun j v hj => ?_⟩⟩
  have h1 := cellsOf_get hx hj
  rw [World.cell?_alloc_new, Nat.zero_add]
  rw [← hv] at h1
  rw [← h1]
  simp [Deep.sz]
end Go.Proofs.YtfglmghcgoembaaGreatDoor

namespace Go.Proofs.YtfglmghcgoembaaGreatDoor
open Go.RowKit
/-- As Elem, the zero value too. -/
def ElemZ (P : Program) (t e : TypeId) {α : Type} [Flat α] (d : α) : Prop :=
  ∃ i z, P.underlying t = some (.slice e) ∧ P.info? e = some i ∧ i.zero = some z ∧ i.size = Flat.sz α ∧ i.bytes ≤ 256 ∧ z.cells.toList = Flat.enc d
theorem elemZ_mk {α : Type} [Flat α] {P : Program} {t e : TypeId} {d : α} (h1 : P.underlying t = some (.slice e)) (h2 : (P.info? e).map (fun i => (i.zero.map (fun z => z.cells.toList), i.size, decide (i.bytes ≤ 256))) = some (some (Flat.enc d), Flat.sz α, true)) : ElemZ P t e d := by
  cases h : P.info? e with
  | none => rw [h] at h2; cases h2
  | some i =>
    rw [h] at h2
    simp only [Option.map_some, Option.some.injEq, Prod.mk.injEq, decide_eq_true_eq] at h2
    obtain ⟨hz, hs, hb⟩ := h2
    cases h' : i.zero with
    | none => rw [h'] at hz; cases hz
    | some z =>
      rw [h'] at hz
      simp only [Option.map_some, Option.some.injEq] at hz
      exact ⟨i, z, h1, h, h', hs, hb, hz⟩
theorem ElemZ.elem {α : Type} [Flat α] {P : Program} {t e : TypeId} {d : α} (h : ElemZ P t e d) : Elem P t e (Flat.sz α) := by
  obtain ⟨i, z, h1, h2, h3, h4, h5, h6⟩ := h
  exact ⟨i, z, h1, h2, h3, h4, h5, by rw [← Array.length_toList, h6, Flat.len]⟩
theorem Own.cap {α : Type} [Flat α] {w : World} {base : Nat} {E : TypeId} {A : Option Addr} {n c : Nat} {xs : List α} (h : Own w base E (.slice A n c) xs) : n ≤ c ∧ c ≤ maxLen := by
  have hl := h.sl.1
  rcases h.2 with ⟨hv, h0⟩ | ⟨g, cap, cur, hv, _, _, h1, h2, _⟩
  · injection hv with _ e1 e2; subst e2; unfold maxLen; omega
  · injection hv with _ e1 e2; subst e2; exact ⟨by omega, h2⟩
/-- s[:i] -/
theorem Own.pre {α : Type} [Flat α] {w : World} {base g : Nat} {E : TypeId} {n c : Nat} {xs : List α} (h : Own w base E (.slice (some ⟨g, 0, none⟩) n c) xs) {i : Nat} (hi : i ≤ n) : Own w base E (.slice (some ⟨g, 0, none⟩) i c) (xs.take i) := by
  have hl := h.sl.1
  have hlt : (xs.take i).length = i := by rw [List.length_take]; omega
  unfold Own at h ⊢
  rw [hl] at h
  rw [hlt]
  refine ⟨by rw [cellsOf_length, hlt], ?_⟩
  rcases h.2 with ⟨hv, h0⟩ | ⟨g', cap, cur, hv, hb, hg, hnc, hcm, hcs, ht⟩
  · cases hv
  · injection hv with e1 e2 e3
    injection e1 with e1
    injection e1 with e1
    subst e1; subst e3
    refine .inr ⟨g, c, cur, rfl, hb, hg, by omega, hcm, hcs, ?_⟩
    have e4 : cur.toList.take (i * Flat.sz α) = (cur.toList.take (n * Flat.sz α)).take (i * Flat.sz α) := by
      rw [List.take_take, Nat.min_eq_left (Nat.mul_le_mul_right _ hi)]
    rw [e4, ht]
    conv => lhs; rw [← List.take_append_drop i xs, cellsOf_append]
    rw [List.take_append_of_le_length (by rw [cellsOf_length, hlt]; exact Nat.le_refl _), List.take_of_length_le (by rw [cellsOf_length, hlt]; exact Nat.le_refl _)]
theorem run_zero {P : Program} {e : TypeId} {i : TypeInfo} {z : Value} (hi : P.info? e = some i) (hz : i.zero = some z) (w : World) : (zeroValue e).run P w = .ok z w := by
  simp [zeroValue, typeInfo, hi, hz]
/-- clear(s[i:]) -/
theorem run_clear_own {α : Type} [Flat α] {P : Program} (t e : TypeId) {d : α} (he : ElemZ P t e d) {w : World} {base g n c i : Nat} {xs : List α}
    (hown : Own w base e (.slice (some ⟨g, 0, none⟩) n c) xs) (hi : i < n) :
    ∃ w', (∀ ty, (Builtin.clear_ #[t] ty #[.slice (some ⟨g, i * Flat.sz α, none⟩) (n - i) (c - i)]).run P w = .ok (.tuple #[]) w') ∧ Own w' base e (.slice (some ⟨g, 0, none⟩) i c) (xs.take i) ∧ w.grownBy w' (some g) := by
  obtain ⟨ti, z, h1, h2, h3, h4, h5, h6⟩ := he
  have hp := Flat.pos (α := α)
  have hl := hown.sl.1
  have hlt : (xs.take i).length = i := by rw [List.length_take]; omega
  have ho2 := hown.pre (Nat.le_of_lt hi)
  have hzs : z.cells.size = Flat.sz α := by rw [← Array.length_toList, h6, Flat.len]
  have hzl : (Builtin.zeroCells z.cells (n - i)).toList.length = (n - i) * Flat.sz α := by rw [Array.length_toList, size_zeroCells, hzs]
  have hz1 : ∀ v ∈ (Builtin.zeroCells z.cells (n - i)).toList, v.oneCell' = true := by
    intro v hv
    have hv2 : v ∈ z.cells.toList := by
      simp only [Builtin.zeroCells, Array.mem_toList_iff] at hv
      simp at hv
      obtain ⟨j, hj, rfl⟩ := hv
      have hj2 : j % z.cells.size < z.cells.size := Nat.mod_lt _ (by omega)
      rw [getElem!_pos z.cells _ hj2, Array.mem_toList_iff]
      exact Array.getElem_mem hj2
    rw [h6] at hv2
    exact Flat.one d v hv2
  rcases hown.2 with ⟨hv, h0⟩ | ⟨g', cap, cur, hv, hb, hg, hnc, hcm, hcs, ht⟩
  · cases hv
  · injection hv with e1 e2 e3
    injection e1 with e1
    injection e1 with e1
    subst e1; subst e3
    have hfit : i * Flat.sz α + (n - i) * Flat.sz α ≤ c * Flat.sz α := by rw [← Nat.add_mul]; exact Nat.mul_le_mul_right _ (by omega)
    have hst := run_storeCells_at P g (i * Flat.sz α) e (Builtin.zeroCells z.cells (n - i)).toList 0 cur w hg (by rw [hzl, hcs]; simpa using hfit) hz1
    simp only [Nat.add_zero] at hst
    have hrun : ∀ ty, (Builtin.clear_ #[t] ty #[.slice (some ⟨g, i * Flat.sz α, none⟩) (n - i) (c - i)]).run P w = .ok (.tuple #[]) (w.setRow g (cur.toList.take (i * Flat.sz α) ++ (Builtin.zeroCells z.cells (n - i)).toList ++ cur.toList.drop (i * Flat.sz α + (Builtin.zeroCells z.cells (n - i)).toList.length)).toArray) := by
      intro ty
      obtain ⟨m, hm⟩ : ∃ m, n - i = m + 1 := ⟨n - i - 1, by omega⟩
      rw [hm] at hst ⊢
      simp [Builtin.clear_, run_underlying h1, run_zero h2 h3, hst]
    refine ⟨_, hrun, ?_, ⟨rfl, rfl, rfl, by simp, fun k _ hk => setRow_other w g k _ (fun e => hk (by rw [e]))⟩⟩
    have hcl : (cur.toList.take (i * Flat.sz α)).length = i * Flat.sz α := by
      rw [List.length_take, Array.length_toList, hcs, Nat.min_eq_left]; omega
    refine ⟨by rw [cellsOf_length], .inr ⟨g, c, _, by rw [hlt], hb, setRow_heap w g cur _ e _ hg, by rw [hlt]; omega, hcm, ?_, ?_⟩⟩
    · simp only [List.size_toArray, List.length_append, List.length_drop, Array.length_toList, hzl, hcl, hcs]
      omega
    · rw [hlt]
      simp only [List.append_assoc]
      rw [List.take_append_of_le_length (by rw [hcl]; exact Nat.le_refl _), List.take_of_length_le (by rw [hcl]; exact Nat.le_refl _)]
      rcases ho2.2 with ⟨hv, _⟩ | ⟨g2, cap2, cur2, hv2, _, hg2, _, _, _, ht2⟩
      · cases hv
      · injection hv2 with e1 _ _
        injection e1 with e1
        injection e1 with e1
        subst e1
        rw [hg] at hg2
        injection hg2 with hg2
        injection hg2 with hg2
        subst hg2
        rw [hlt] at ht2
        exact ht2
end Go.Proofs.YtfglmghcgoembaaGreatDoor
