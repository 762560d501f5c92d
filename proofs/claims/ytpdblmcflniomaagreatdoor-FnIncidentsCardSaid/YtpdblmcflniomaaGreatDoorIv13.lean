/-
  Several texts in one. No conditions.
-/
import Derived.Test.YtpdblmcflniomaaGreatDoorIv11
import Derived.Test.YtpdblmcflniomaaGreatDoorRows
import Derived.Lib.LaidTab
import Derived.Stop.LaidErr
import Derived.Shelf.Vars
import Derived.Test.YtpdblmcflniomaaGreatDoorIv12
import Derived.Test.YtpdblmcflniomaaGreatDoorIv3
import Derived.Test.YtpdblmcflniomaaGreatDoorIv2
import Derived.Test.YtpdblmcflniomaaGreatDoorIv4
import Derived.Shelf.Strings.OnBuilder
import Derived.Lib.Join
import Derived.Deep.Cut
import Derived.Deep.RegionWith
namespace Go.Proofs.YtpdblmcflniomaaGreatDoor
open Go.RowKit

/-- the variables that a row over the readers lists -/
def jnLaid : List (String × DataW Unit) := [("math/bits.deBruijn32tab", Rows.laid_math_bits_deBruijn32tab), ("math/bits.deBruijn64tab", Rows.laid_math_bits_deBruijn64tab), ("internal/strconv.uint64pow10", Rows.laid_internal_strconv_uint64pow10), ("unicode/utf8.acceptRanges", Rows.laid_unicode_utf8_acceptRanges), ("strconv.ErrRange", Rows.laid_strconv_ErrRange), ("strconv.ErrSyntax", Rows.laid_strconv_ErrSyntax), ("unicode/utf8.first", Rows.laid_unicode_utf8_first)]
def jnLaidT : List (String × DataW Unit) := [("math/bits.deBruijn32tab", Rows.laid_math_bits_deBruijn32tab), ("math/bits.deBruijn64tab", Rows.laid_math_bits_deBruijn64tab), ("internal/strconv.uint64pow10", Rows.laid_internal_strconv_uint64pow10)]
theorem pow_data : (Rows.laid_internal_strconv_uint64pow10 : DataW Unit) = Lib.tabData .u64 Lib.pow10Tab := by kernel_rfl
theorem tab_head {W : World} {rest : List (String × DataW Unit)} (h : laidMet Tryz.prog (("internal/strconv.uint64pow10", Rows.laid_internal_strconv_uint64pow10) :: rest) W) : Tab W := by
  rw [pow_data] at h
  exact Lib.tabIs_of_head (g := 5) (by kernel_rfl) (by kernel_rfl) Tryz.underlying175 Tryz.underlying61 (by kernel_rfl) (by kernel_rfl) h
theorem star_err : "*" ++ "errors.errorString" = "*errors.errorString" := by decide
theorem row_err (u : TypeId) (h : Tryz.prog.typeName? 3 u = some "*errors.errorString") : u = 178 :=
  typeName_ptr_named (nm := "errors.errorString") (by rw [star_err]; kernel_rfl) (by kernel_rfl) (by decide) u (by rw [star_err]; exact h)
theorem tab_of {W : World} (h : laidMetH Tryz.prog jnLaidT W) : Tab W := by
  have h : laidMet Tryz.prog jnLaidT W := h
  exact tab_head h.tail.tail
theorem env_of {W : World} (h : laidMetH Tryz.prog jnLaid W) (hs : W.ShapedOpen Tryz.prog) : Env W := by
  have h : laidMet Tryz.prog jnLaid W := h
  refine ⟨tab_head h.tail.tail, ?_, ?_, Tryz.laysSplit.s1_3 W hs⟩
  · obtain ⟨a, s, hv, _, _, _⟩ := laid_sentinel h.tail.tail.tail.tail.tail (g := 1) (ti := 130) (tp := 178) (te := 180) (ts := 9) (by kernel_rfl) (by kernel_rfl) Tryz.underlying130 row_err Tryz.underlying178 Tryz.underlying180 rfl rfl Tryz.underlying9 (by kernel_rfl) (by kernel_rfl)
    exact ⟨_, _, hv⟩
  · obtain ⟨a, s, hv, _, _, _⟩ := laid_sentinel h.tail.tail.tail.tail (g := 2) (ti := 130) (tp := 178) (te := 180) (ts := 9) (by kernel_rfl) (by kernel_rfl) Tryz.underlying130 row_err Tryz.underlying178 Tryz.underlying180 rfl rfl Tryz.underlying9 (by kernel_rfl) (by kernel_rfl)
    exact ⟨_, _, hv⟩
end Go.Proofs.YtpdblmcflniomaaGreatDoor

namespace Go.Proofs.YtpdblmcflniomaaGreatDoor
open Go.RowKit

def joinB (sep : ByteArray) (xs : List ByteArray) : ByteArray := ⟨(Lib.join (xs.map (·.data.toList)) sep.data.toList).toArray⟩
def joinI (sep : ByteArray) (ns : List Int) : ByteArray := joinB sep (ns.map itB)
theorem joinI_two (sep : ByteArray) (a b : Int) : joinI sep [a, b] = itB a ++ sep ++ itB b := by
  apply ba_ext
  unfold joinI joinB
  rw [show ((([a, b] : List Int).map itB).map (·.data.toList)) = [(itB a).data.toList, (itB b).data.toList] from rfl, Lib.join_cons]
  simp [Lib.joinTail]
theorem strs_cells {w : World} {g n : Nat} {xs : List ByteArray} (h : Sl w (some ⟨g, 0, none⟩) n xs) : ∀ (j : Nat) x, xs[j]? = some x → w.cell? ⟨g, 0 + j, none⟩ = some (.string x) := fun j x hx => by
  have hj : j < n := by rw [← h.1]; exact (List.getElem?_eq_some_iff.1 hx).1
  obtain ⟨b, o, e, _, hc⟩ := h.str hj
  injection e with e
  injection e with e1 e2
  subst e1 e2
  rw [hc, nth_get hx]
theorem join_extra : Builder.Extra Tryz.prog Tryz.laysJoin_ren where
  sizeBuilder := by kernel_rfl
  liesBuilder := by kernel_rfl
  t5 := Tryz.underlying5
  a5 := Tryz.isAgg5
  z5 := Tryz.sizeOf5
  v5 := Tryz.zeroValue5
  infoByte := by kernel_rfl
  cellsByte := by kernel_rfl
  sizeByte := by kernel_rfl
  neB5 := by decide
theorem wp_hide {P : Program} {c : Code} {Q : Exit → Act → World → Prop} {a : Act} {w : World} {R : World → Prop} (hR : R w) (h : ∀ V, R V → c.wp P Q a V) : c.wp P Q a w := h w hR
theorem join_any {g n c : Nat} (xs : List ByteArray) (sep : ByteArray) (w : World) (hs : Sl w (some ⟨g, 0, none⟩) n xs) (hg : g < w.heap.size) (hn : n ≤ 1048576) (hc : n ≤ c) (hl : (Lib.join (xs.map (·.data.toList)) sep.data.toList).length ≤ 140737488355328) :
    Calls Tryz.prog 91 #[.slice (some ⟨g, 0, none⟩) n c, .string sep] w fun e w' => e = .returned (.string (joinB sep xs)) ∧ Below w.heap.size w w' := by
  have h := hs.1
  subst h
  exact Any.strings_Join Tryz.laysJoin join_extra g 0 c xs sep w (strs_cells hs) hg (by omega) hc hl
set_option maxRecDepth 100000 in
set_option maxHeartbeats 4000000 in
theorem joinNumbers_any (sep : ByteArray) (ns : List Int) (A : Option Addr) (n c : Nat) (w : World) (hn : n ≤ 1048576) (hn0 : 0 < n) (hs : Sl w A n ns) (hi : ∀ k, k < n → -9223372036854775808 ≤ nth ns k ∧ nth ns k ≤ 9223372036854775807) (he : Tab w) (hl : (Lib.join ((ns.map itB).map (·.data.toList)) sep.data.toList).length ≤ 140737488355328) :
    Calls Tryz.prog 90 #[.string sep, .slice A n c] w fun e w' => e = .returned (.string (joinI sep ns)) ∧ Below w.heap.size w w' := by
  have HL := Lib.hid hs.1
  have HI := Lib.hid hi
  have HJ := Lib.hid hl
  clear hi hl
  go_enter Tryz.func90, Tryz.ntmps90
  go_wp2
  go_loopw [5, 10] (fun v iv wr => ∃ (i c' : Nat) (A' : Option Addr), i ≤ n ∧ iv = .int .i64 i ∧ v = .slice A' i c' ∧ Own wr w.heap.size 9 (.slice A' i c') ((ns.take i).map itB) ∧ Below w.heap.size w wr) (fun _ iv _ => n - (intOf iv).toNat)
  case atStart => exact ⟨0, 0, none, Nat.zero_le _, rfl, rfl, Own.nil _ _ _, bl_refl _⟩
  case round =>
    obtain ⟨i, c', A', hi, rfl, rfl, ho, hb⟩ := hrel
    by_cases hlt : i < n
    · obtain ⟨b, o, rfl, hbz, c0⟩ := (hs.below hb).int hlt
      have hkx : Hid (i < ns.length) := by rw [Hid, HL.out]; exact hlt
      obtain ⟨hi0, hi1⟩ := HI.out i hlt
      have Hbs := Lib.hid (he.below hb)
      clear hs he
      go_wp2_with (first
        | (go_at_call 117; refine (itoa_any (nth ns i) _ hi0 hi1 Hbs.out).mono ?_; rintro e V ⟨rfl, hV⟩; have hoV := ho.below hV; have hbV := bl_trans hb hV; clear ho)
        | (at_builtin; refine wpList_app1g rfl (.tmp 14) (.tmp 17) _ _ rfl el_str (itB (nth ns i)) rfl hoV hbV rfl (by simp) (by omega) ?_; intro A2 c2 w2 ho2 hb2 hg2))
      go_roundw
      case rel => exact ⟨i + 1, c2, A2, by omega, by go_num, rfl, by rw [take_succ hkx.out, List.map_append]; exact ho2, hb2⟩
      case measure => simp [intOf]; omega
    · obtain rfl : i = n := by omega
      obtain ⟨hic, hcm⟩ := ho.cap
      have hfin : ns.take i = ns := List.take_of_length_le (by rw [HL.out]; exact Nat.le_refl _)
      obtain ⟨g, rfl⟩ := ho.form (by omega)
      have hgz : g < wr.heap.size := (ho.lt g rfl).2
      rw [hfin] at ho
      clear hs he hfin hn0
      go_wp2_with fail
      refine (join_any (ns.map itB) sep _ ho.sl hgz hn hic HJ.out).mono ?_
      rintro e V ⟨rfl, hV⟩
      have hbV := bl_trans hb hV
      clear ho
      go_wp2
      go_ret
      exact ⟨rfl, hbV⟩

theorem sl_int2 {w : World} {g : Nat} {a b : Int} (h0 : w.cell? ⟨g, 0, none⟩ = some (.int .i64 a)) (h1 : w.cell? ⟨g, 1, none⟩ = some (.int .i64 b)) : Sl w (some ⟨g, 0, none⟩) 2 [a, b] :=
  ⟨rfl, fun k x hx => by
    have hk : k < 2 := (List.getElem?_eq_some_iff.1 hx).1
    refine ⟨g, 0, [.int .i64 x], rfl, rfl, fun j v hv => ?_⟩
    have hj : j < 1 := (List.getElem?_eq_some_iff.1 hv).1
    have hj0 : j = 0 := by omega
    subst hj0
    have hv' : Value.int .i64 x = v := by simpa using hv
    subst hv'
    have e : 0 + k * Deep.sz Int + 0 = k := by
      have : Deep.sz Int = 1 := rfl
      rw [this]; omega
    rw [e]
    match k, hk, hx with
    | 0, _, hx => have hx' : a = x := by simpa using hx
                  subst hx'; exact h0
    | 1, _, hx => have hx' : b = x := by simpa using hx
                  subst hx'; exact h1⟩
theorem join2_any (sep : ByteArray) (a b : Int) {g : Nat} (w : World) (h0 : w.cell? ⟨g, 0, none⟩ = some (.int .i64 a)) (h1 : w.cell? ⟨g, 1, none⟩ = some (.int .i64 b)) (ha : 0 ≤ a ∧ a ≤ 1000000) (hb : 0 ≤ b ∧ b ≤ 1000000) (hsz : sep.size ≤ 8) (he : Tab w) :
    Calls Tryz.prog 90 #[.string sep, .slice (some ⟨g, 0, none⟩) 2 2] w fun e w' => e = .returned (.string (itB a ++ sep ++ itB b)) ∧ Below w.heap.size w w' := by
  rw [← joinI_two]
  refine joinNumbers_any sep [a, b] _ 2 2 w (by omega) (by omega) (sl_int2 h0 h1) (fun k hk => ?_) he ?_
  · match k, hk with
    | 0, _ => exact ⟨by show -9223372036854775808 ≤ a; omega, by show a ≤ 9223372036854775807; omega⟩
    | 1, _ => exact ⟨by show -9223372036854775808 ≤ b; omega, by show b ≤ 9223372036854775807; omega⟩
  · have e := joinI_two sep a b
    have e2 : (joinI sep [a, b]).data.toList.length = (Lib.join ((([a, b] : List Int).map itB).map (·.data.toList)) sep.data.toList).length := by unfold joinI joinB; simp
    rw [← e2, e, ba_len, ByteArray.size_append, ByteArray.size_append]
    have h1 := it_len ha.1 6 (by omega)
    have h2 := it_len hb.1 6 (by omega)
    omega
end Go.Proofs.YtpdblmcflniomaaGreatDoor

namespace Go.Proofs.YtpdblmcflniomaaGreatDoor
open Go.RowKit

/-- a byte of the code -/
structure Byt where
  v : Int
instance : Inhabited Byt := ⟨⟨0⟩⟩
instance : Flat Byt where
  sz := 1
  pos := by omega
  enc := fun x => [.int .u8 x.v]
  len := fun _ => rfl
  one := fun _ u h => by simp at h; subst h; rfl
/-- where the drawing of inputs stands: the code's bytes, a place in them of at most N, a seed -/
structure CurX (w : World) (g : Nat) (N : Int) (A : Option Addr) (n c : Nat) (cs : List Byt) (at_ sd : Int) : Prop where
  c0 : w.cell? ⟨g, 0, none⟩ = some (.slice A n c)
  c1 : w.cell? ⟨g, 1, none⟩ = some (.int .i64 at_)
  c2 : w.cell? ⟨g, 2, none⟩ = some (.int .u64 sd)
  f0 : w.frozen? ⟨g, 0, none⟩ = false
  f1 : w.frozen? ⟨g, 1, none⟩ = false
  f2 : w.frozen? ⟨g, 2, none⟩ = false
  lo : 0 ≤ at_
  hi : at_ ≤ N
  sl : Sl w A n cs
  le : (n : Int) ≤ 9223372036854775807
  ok : ∀ x, x ∈ cs → 0 ≤ x.v ∧ x.v ≤ 255
  cb : ∀ b o, A = some ⟨b, o, none⟩ → 0 < n → b < g
def Cur (w : World) (g : Nat) (N : Int) : Prop := ∃ A n c cs at_ sd, CurX w g N A n c cs at_ sd
theorem Cur.lt {w : World} {g : Nat} {N : Int} (h : Cur w g N) : g < w.heap.size := by
  obtain ⟨A, n, c, cs, a, s, h⟩ := h
  exact World.block_lt_of_cell? _ _ h.c0
theorem Cur.mono {w : World} {g : Nat} {N M : Int} (h : Cur w g N) (hm : N ≤ M) : Cur w g M := by
  obtain ⟨A, n, c, cs, a, s, h⟩ := h
  exact ⟨A, n, c, cs, a, s, { h with hi := Int.le_trans h.hi hm }⟩
theorem Cur.below {w w' : World} {g : Nat} {N : Int} (h : Cur w g N) (hb : Below w.heap.size w w') : Cur w' g N := by
  have hl := h.lt
  obtain ⟨A, n, c, cs, a, s, h⟩ := h
  exact ⟨A, n, c, cs, a, s, { h with c0 := cell_later hb h.c0, c1 := cell_later hb h.c1, c2 := cell_later hb h.c2, f0 := frozen_later hb hl h.f0, f1 := frozen_later hb hl h.f1, f2 := frozen_later hb hl h.f2, sl := h.sl.below hb }⟩
theorem Sl.onlyF {α : Type} [Flat α] {w w' : World} {A : Option Addr} {n : Nat} {xs : List α} (h : Sl w A n xs) {g : Nat} (hf : OnlyF [g] w w') (hne : ∀ b o, A = some ⟨b, o, none⟩ → 0 < n → b ≠ g) : Sl w' A n xs := by
  refine ⟨h.1, fun k x hx => ?_⟩
  have hn : 0 < n := by have := (List.getElem?_eq_some_iff.1 hx).1; have := h.1; omega
  obtain ⟨b, o, cs, hA, hr, hc⟩ := h.2 k x hx
  exact ⟨b, o, cs, hA, hr, fun j v hv => hf.keeps (hc j v hv) (fun hm => hne b o hA hn (List.mem_singleton.1 hm))⟩
theorem OnlyF.setN {F : List Nat} {a W : World} (h : OnlyF F a W) {b : Nat} (hb : a.heap.size ≤ b) (o : Nat) (u : Value) : OnlyF F a (W.setCell ⟨b, o, none⟩ u) :=
  ⟨h.os, h.tape, h.output, by rw [World.size_setCell]; exact h.size, fun k hk hn => by
    rw [← h.block k hk hn]
    exact Below.heap_setCell _ _ _ _ (by simp only []; omega)⟩
theorem Cur.set {w : World} {g : Nat} {N : Int} (h : Cur w g N) {b : Nat} (hb : g < b) (o : Nat) (u : Value) : Cur (w.setCell ⟨b, o, none⟩ u) g N := by
  obtain ⟨A, n, c, cs, a, s, h⟩ := h
  have hne : ∀ j, (⟨b, o, none⟩ : Addr) ≠ ⟨g, j, none⟩ := fun j e => by injection e with e; omega
  refine ⟨A, n, c, cs, a, s, ⟨(World.cell?_setCell_other _ _ _ _ (hne 0)).trans h.c0, (World.cell?_setCell_other _ _ _ _ (hne 1)).trans h.c1, (World.cell?_setCell_other _ _ _ _ (hne 2)).trans h.c2, by rw [World.frozen?_setCell]; exact h.f0, by rw [World.frozen?_setCell]; exact h.f1, by rw [World.frozen?_setCell]; exact h.f2, h.lo, h.hi, ⟨h.sl.1, fun k x hx => ?_⟩, h.le, h.ok, h.cb⟩⟩
  obtain ⟨b', o', cs', hA, hr, hc⟩ := h.sl.2 k x hx
  refine ⟨b', o', cs', hA, hr, fun j v hv => (World.cell?_setCell_other _ _ _ _ (fun e => ?_)).trans (hc j v hv)⟩
  have := h.cb b' o' hA (by have := (List.getElem?_eq_some_iff.1 hx).1; have := h.sl.1; omega)
  injection e with e
  omega
theorem Cur.alloc {w : World} {g : Nat} {N : Int} (h : Cur w g N) (o : Obj) : Cur (w.alloc o) g N := h.below (bl_alloc (bl_refl _) _)
theorem Cur.init {W : World} {E : TypeId} {A : Option Addr} {n c : Nat} {cs : List Byt} (hs : Sl W A n cs) (hn : (n : Int) ≤ 9223372036854775807) (hok : ∀ x, x ∈ cs → 0 ≤ x.v ∧ x.v ≤ 255) : Cur (W.alloc (.cells #[.slice A n c, .int .i64 0, .int .u64 0] E)) W.heap.size 0 :=
  ⟨A, n, c, cs, 0, 0, ⟨by go_simp, by go_simp, by go_simp, by go_simp, by go_simp, by go_simp, Int.le_refl 0, Int.le_refl 0, hs.below (bl_alloc (bl_refl _) _), hn, hok, fun b o e hp => by subst e; exact hs.lt (k := 0) hp⟩⟩
theorem Cur.init' {W : World} {E : TypeId} {A : Option Addr} {n c g : Nat} {cs : List Byt} (hg : g = W.heap.size) (hs : Sl W A n cs) (hn : (n : Int) ≤ 9223372036854775807) (hok : ∀ x, x ∈ cs → 0 ≤ x.v ∧ x.v ≤ 255) : Cur (W.alloc (.cells #[.slice A n c, .int .i64 0, .int .u64 0] E)) g 0 := by
  subst hg; exact Cur.init hs hn hok
theorem bits_and (x : Int) : 0 ≤ bits .and .u64 x 255 ∧ bits .and .u64 x 255 ≤ 255 := by
  obtain ⟨m, hm⟩ : ∃ m, m = (BitVec.ofInt 64 x &&& BitVec.ofInt 64 255).toNat := ⟨_, rfl⟩
  have h : bits .and .u64 x 255 = IntKind.u64.wrap (m : Int) := by rw [hm]; rfl
  have h1 : m ≤ 255 := by
    rw [hm, BitVec.toNat_and]
    exact Nat.le_trans Nat.and_le_right (by decide)
  rw [h]
  clear h hm
  simp only [IntKind.wrap, IntKind.bits, IntKind.signed]
  simp
  omega
theorem and255 (x : Int) : 0 ≤ IntKind.i64.wrap (bits .and .u64 x 255) ∧ IntKind.i64.wrap (bits .and .u64 x 255) ≤ 255 := by
  have h := bits_and x
  have h2 : IntKind.i64.wrap (bits .and .u64 x 255) = bits .and .u64 x 255 := by
    simp only [IntKind.wrap, IntKind.bits, IntKind.signed]
    simp
    omega
  omega
theorem and255w (x : Int) : 0 ≤ wrap64 (bits .and .u64 x 255) ∧ wrap64 (bits .and .u64 x 255) ≤ 255 := by
  have h := bits_and x
  unfold wrap64
  omega
set_option maxHeartbeats 4000000 in
theorem next_any (g : Nat) (N : Int) (w : World) (hc : Cur w g N) (hN : N ≤ 1099511627776) :
    Calls Tryz.prog 95 #[.pointer (some ⟨g, 0, none⟩)] w fun e w' => ∃ r : Int, e = .returned (.int .i64 r) ∧ (0 ≤ r ∧ r ≤ 255) ∧ Cur w' g (N + 1) ∧ OnlyF [g] w w' := by
  obtain ⟨A, n, c, cs, at_, sd, h⟩ := hc
  have h0 := h.c0
  have h1 := h.c1
  have h2 := h.c2
  have f0 := h.f0
  have f1 := h.f1
  have f2 := h.f2
  have lg : g < w.heap.size := World.block_lt_of_cell? _ _ h0
  have lo := h.lo
  have hi := h.hi
  have hw1 : IntKind.i64.wrap (at_ + 1) = at_ + 1 := by
    simp only [IntKind.wrap, IntKind.bits, IntKind.signed]; simp; omega
  have hle := h.le
  have hr0 := Int.le_refl (0 : Int)
  have fin : ∀ (W : World) (s' : Int), W.cell? ⟨g, 0, none⟩ = some (.slice A n c) → W.cell? ⟨g, 1, none⟩ = some (.int .i64 (at_ + 1)) → W.cell? ⟨g, 2, none⟩ = some (.int .u64 s') → W.frozen? ⟨g, 0, none⟩ = false → W.frozen? ⟨g, 1, none⟩ = false → W.frozen? ⟨g, 2, none⟩ = false → OnlyF [g] w W → Cur W g (N + 1) :=
    fun W s' a0 a1 a2 b0 b1 b2 hf => ⟨A, n, c, cs, at_ + 1, s', ⟨a0, a1, a2, b0, b1, b2, by omega, by omega, h.sl.onlyF hf (fun b o e hn => Nat.ne_of_lt (h.cb b o e hn)), h.le, h.ok, h.cb⟩⟩
  by_cases hlt : at_ < (n : Int)
  · have hd : decide (at_ < (n : Int)) = true := by simpa using hlt
    have hd2 : decide (at_ + 1 ≤ (n : Int)) = true := by simp; omega
    obtain ⟨k, rfl⟩ := Int.eq_ofNat_of_zero_le lo
    have hk : k < n := by omega
    obtain ⟨b, o, rfl, hcell⟩ := h.sl.flat hk
    have hx := h.ok (nth cs k) (nth_mem (by rw [h.sl.1]; exact hk))
    have c3 : w.cell? ⟨b, o + k, none⟩ = some (.int .u8 (nth cs k).v) := by
      have := hcell 0 _ rfl
      simpa [Flat.sz] using this
    obtain ⟨v, hv⟩ : ∃ v, v = (nth cs k).v := ⟨_, rfl⟩
    rw [← hv] at hx c3
    have hw2 : IntKind.i64.wrap v = v := by
      simp only [IntKind.wrap, IntKind.bits, IntKind.signed]; simp; omega
    clear hv hcell
    have hne : b ≠ g := Nat.ne_of_lt (h.cb b o rfl (by omega))
    go_enter Tryz.func95, Tryz.ntmps95
    go_upto_region 2 with fail
    refine wp_region_grow (by kernel_rfl) (by kernel_rfl) (fun X hX => ?_)
    have hbX : Below w.heap.size w X := by rw [hX]; exact bl_refl _
    have q0 := Gw.cell (cell_later hbX h0)
    have q1 := Gw.cell (cell_later hbX h1)
    have HX := Lib.hid hX
    clear hX
    repeat (go_big_quiet_step (fail))
    refine wpGrow_nil (fun V1 hV => ?_)
    have hbV1 := bl_trans hbX hV
    have f0 := frozen_later hbV1 lg f0
    have f1 := frozen_later hbV1 lg f1
    have f2 := frozen_later hbV1 lg f2
    have h0 := cell_later hbV1 h0
    have h1 := cell_later hbV1 h1
    have h2 := cell_later hbV1 h2
    have c3 := cell_later hbV1 c3
    have lg : g < V1.heap.size := World.block_lt_of_cell? _ _ h0
    clear hV hbX HX q0 q1
    go_wp2_with fail
    refine wp_region_grow (by kernel_rfl) (by kernel_rfl) (fun X hX => ?_)
    have hbX : Below V1.heap.size V1 X := by rw [hX]; exact bl_refl _
    have q0 := Gw.cell (cell_later hbX h0)
    have q1 := Gw.cell (cell_later hbX h1)
    have q2 := Gw.cell (cell_later hbX c3)
    have HX := Lib.hid hX
    clear hX
    repeat (go_big_quiet_step (fail))
    refine wpGrow_nil (fun V2 hV => ?_)
    have hbV2 := bl_trans hbX hV
    have f0 := frozen_later hbV2 lg f0
    have f1 := frozen_later hbV2 lg f1
    have f2 := frozen_later hbV2 lg f2
    have h0 := cell_later hbV2 h0
    have h1 := cell_later hbV2 h1
    have c3 := cell_later hbV2 c3
    have h2 := cell_later hbV2 h2
    have lg : g < V2.heap.size := World.block_lt_of_cell? _ _ h0
    clear hV hbX HX q0 q1 q2
    have hf2 : OnlyF [g] w V2 := OnlyF.below (bl_trans hbV1 hbV2)
    go_wp2_with fail
    refine wp_hide (R := fun V => (∃ s', V.cell? ⟨g, 2, none⟩ = some (.int .u64 s')) ∧ V.cell? ⟨g, 0, none⟩ = some (.slice (some ⟨b, o, none⟩) n c) ∧ V.cell? ⟨g, 1, none⟩ = some (.int .i64 ((k : Int) + 1)) ∧ V.frozen? ⟨g, 0, none⟩ = false ∧ V.frozen? ⟨g, 1, none⟩ = false ∧ V.frozen? ⟨g, 2, none⟩ = false ∧ OnlyF [g] w V) ⟨?_, (by go_simp), (by go_simp), (by go_simp), (by go_simp), (by go_simp), (by repeat' (first | exact hf2 | refine OnlyF.drew ?_ | refine OnlyF.set ?_ (List.mem_singleton.2 rfl) _))⟩ (fun V hV0 => ?_)
    · exact ⟨_, World.cell?_setCell_same _ _ _ (show _ = some (.int .u64 sd) by go_simp)⟩
    obtain ⟨⟨s', a2⟩, a0, a1, b0, b1, b2, hf⟩ := hV0
    clear h0 h1 h2 f0 f1 f2
    have lg : g < V.heap.size := World.block_lt_of_cell? _ _ a0
    refine wp_region_grow (by kernel_rfl) (by kernel_rfl) (fun X hX => ?_)
    have hbX : Below V.heap.size V X := by rw [hX]; exact bl_refl _
    have q0 := Gw.cell (cell_later hbX a0)
    have q1 := Gw.cell (cell_later hbX a1)
    have HX := Lib.hid hX
    clear hX
    repeat (go_big_quiet_step (fail))
    refine wpGrow_nil (fun V3 hV => ?_)
    have hbV3 := bl_trans hbX hV
    have b0 := frozen_later hbV3 lg b0
    have b1 := frozen_later hbV3 lg b1
    have b2 := frozen_later hbV3 lg b2
    have a0 := cell_later hbV3 a0
    have a1 := cell_later hbV3 a1
    have a2 := cell_later hbV3 a2
    have lg : g < V3.heap.size := World.block_lt_of_cell? _ _ a0
    clear hV hbX HX q0 q1
    go_wp2
    go_ret
    exact ⟨_, rfl, hx, fin V3 s' a0 a1 a2 b0 b1 b2 (hf.trans (.below hbV3)), hf.trans (.below hbV3)⟩
  · have hd : decide (at_ < (n : Int)) = false := by simpa using hlt
    have hd2 : decide (at_ + 1 ≤ (n : Int)) = false := by simp; omega
    go_enter Tryz.func95, Tryz.ntmps95
    go_upto_region 2 with fail
    refine wp_region_grow (by kernel_rfl) (by kernel_rfl) (fun X hX => ?_)
    have hbX : Below w.heap.size w X := by rw [hX]; exact bl_refl _
    have q0 := Gw.cell (cell_later hbX h0)
    have q1 := Gw.cell (cell_later hbX h1)
    have HX := Lib.hid hX
    clear hX
    repeat (go_big_quiet_step (fail))
    refine wpGrow_nil (fun V2 hV => ?_)
    have hbV2 := bl_trans hbX hV
    have f0 := frozen_later hbV2 lg f0
    have f1 := frozen_later hbV2 lg f1
    have f2 := frozen_later hbV2 lg f2
    have h0 := cell_later hbV2 h0
    have h1 := cell_later hbV2 h1
    have h2 := cell_later hbV2 h2
    have lg : g < V2.heap.size := World.block_lt_of_cell? _ _ h0
    clear hV hbX HX q0 q1
    have hf2 : OnlyF [g] w V2 := OnlyF.below hbV2
    go_wp2_with fail
    refine wp_hide (R := fun V => (∃ s', V.cell? ⟨g, 2, none⟩ = some (.int .u64 s')) ∧ V.cell? ⟨g, 0, none⟩ = some (.slice A n c) ∧ V.cell? ⟨g, 1, none⟩ = some (.int .i64 (at_ + 1)) ∧ V.frozen? ⟨g, 0, none⟩ = false ∧ V.frozen? ⟨g, 1, none⟩ = false ∧ V.frozen? ⟨g, 2, none⟩ = false ∧ OnlyF [g] w V) ⟨?_, (by go_simp), (by go_simp), (by go_simp), (by go_simp), (by go_simp), (by repeat' (first | exact hf2 | refine OnlyF.drew ?_ | refine OnlyF.set ?_ (List.mem_singleton.2 rfl) _))⟩ (fun V hV0 => ?_)
    · exact ⟨_, World.cell?_setCell_same _ _ _ (show _ = some (.int .u64 sd) by go_simp)⟩
    obtain ⟨⟨s', a2⟩, a0, a1, b0, b1, b2, hf⟩ := hV0
    clear h0 h1 h2 f0 f1 f2
    have lg : g < V.heap.size := World.block_lt_of_cell? _ _ a0
    refine wp_region_grow (by kernel_rfl) (by kernel_rfl) (fun X hX => ?_)
    have hbX : Below V.heap.size V X := by rw [hX]; exact bl_refl _
    have q0 := Gw.cell (cell_later hbX a0)
    have q1 := Gw.cell (cell_later hbX a1)
    have HX := Lib.hid hX
    clear hX
    repeat (go_big_quiet_step (fail))
    refine wpGrow_nil (fun V3 hV => ?_)
    have hbV3 := bl_trans hbX hV
    have b0 := frozen_later hbV3 lg b0
    have b1 := frozen_later hbV3 lg b1
    have b2 := frozen_later hbV3 lg b2
    have a0 := cell_later hbV3 a0
    have a1 := cell_later hbV3 a1
    have a2 := cell_later hbV3 a2
    have lg : g < V3.heap.size := World.block_lt_of_cell? _ _ a0
    clear hV hbX HX q0 q1
    go_wp2
    go_ret
    exact ⟨_, rfl, and255w _, fin V3 s' a0 a1 a2 b0 b1 b2 (hf.trans (.below hbV3)), hf.trans (.below hbV3)⟩
theorem wrapi {x : Int} (h0 : -9223372036854775808 ≤ x) (h1 : x ≤ 9223372036854775807) : IntKind.i64.wrap x = x := by
  simp only [IntKind.wrap, IntKind.bits, IntKind.signed]; simp; omega
theorem mod_lt {x n : Int} (hn : 0 < n) : 0 ≤ x % n ∧ x % n < n := by
  exact ⟨Int.emod_nonneg _ (by omega), Int.emod_lt_of_pos _ hn⟩
set_option maxHeartbeats 4000000 in
theorem pick_any (g : Nat) (N n : Int) (w : World) (hc : Cur w g N) (hN : N ≤ 1000000000) (hn : n ≤ 9223372036854775807) :
    Calls Tryz.prog 63 #[.pointer (some ⟨g, 0, none⟩), .int .i64 n] w fun e w' => ∃ r : Int, e = .returned (.int .i64 r) ∧ (0 ≤ r ∧ (1 ≤ n → r < n)) ∧ Cur w' g (N + 2) ∧ OnlyF [g] w w' := by
  by_cases h1 : n ≤ 1
  · have hd : decide (n ≤ 1) = true := by simpa using h1
    go_enter Tryz.func63, Tryz.ntmps63
    go_wp2
    go_ret
    exact ⟨0, rfl, ⟨by omega, by omega⟩, hc.mono (by omega), OnlyF.refl _ _⟩
  have hd : decide (n ≤ 1) = false := by simpa using h1
  go_enter Tryz.func63, Tryz.ntmps63
  go_wp2_with fail
  refine (next_any g N _ hc (by omega)).mono ?_
  rintro e V1 ⟨r, rfl, hr, hc1, hf1⟩
  have hn0 : ¬ n = 0 := by omega
  by_cases h2 : 200 < n
  · have hd2 : decide (n > 200) = true := by simpa using h2
    go_wp2_with fail
    refine (next_any g (N + 1) _ hc1 (by omega)).mono ?_
    rintro e V2 ⟨r2, rfl, hr2, hc2, hf2⟩
    have e1 : IntKind.i64.wrap (r * 256) = r * 256 := wrapi (by omega) (by omega)
    have e2 : IntKind.i64.wrap (r * 256 + r2) = r * 256 + r2 := wrapi (by omega) (by omega)
    have hm := mod_lt (x := r * 256 + r2) (n := n) (by omega)
    go_wp2
    go_ret
    exact ⟨_, rfl, ⟨hm.1, fun _ => hm.2⟩, hc2.mono (by omega), hf1.trans hf2⟩
  · have hd2 : decide (n > 200) = false := by simpa using h2
    have hm := mod_lt (x := r) (n := n) (by omega)
    go_wp2
    go_ret
    exact ⟨_, rfl, ⟨hm.1, fun _ => hm.2⟩, hc1.mono (by omega), hf1⟩
theorem one_any (g : Nat) (N n : Int) (w : World) (hc : Cur w g N) (hN : N ≤ 1000000000) (hn : n ≤ 9223372036854775807) :
    Calls Tryz.prog 72 #[.pointer (some ⟨g, 0, none⟩), .int .i64 n] w fun e w' => ∃ b : Bool, e = .returned (.bool b) ∧ Cur w' g (N + 2) ∧ OnlyF [g] w w' := by
  go_enter Tryz.func72, Tryz.ntmps72
  go_wp2_with fail
  refine (pick_any g N n _ hc hN hn).mono ?_
  rintro e V1 ⟨r, rfl, _, hc1, hf1⟩
  go_wp2
  go_ret
  exact ⟨_, rfl, hc1, hf1⟩
theorem of_any (g : Nat) (N : Int) (A : Option Addr) (n c : Nat) (xs : List ByteArray) (w : World) (hc : Cur w g N) (hN : N ≤ 1000000000) (hs : Sl w A n xs) (hn : 1 ≤ n) (hm : n ≤ 1048576) (hne : ∀ b o, A = some ⟨b, o, none⟩ → 0 < n → b ≠ g) :
    Calls Tryz.prog 65 #[.pointer (some ⟨g, 0, none⟩), .slice A n c] w fun e w' => ∃ x, e = .returned (.string x) ∧ x ∈ xs ∧ Cur w' g (N + 2) ∧ OnlyF [g] w w' := by
  go_enter Tryz.func65, Tryz.ntmps65
  go_wp2_with fail
  refine (pick_any g N n _ hc hN (by omega)).mono ?_
  rintro e V1 ⟨r, rfl, hr, hc1, hf1⟩
  obtain ⟨k, rfl⟩ := Int.eq_ofNat_of_zero_le hr.1
  have hk : k < n := by have := hr.2 (by omega); omega
  obtain ⟨b, o, rfl, hcell⟩ := (hs.onlyF hf1 hne).flat hk
  have c0 : V1.cell? ⟨b, o + k, none⟩ = some (.string (nth xs k)) := by
    have := hcell 0 _ rfl
    simpa [Flat.sz] using this
  have hx : nth xs k ∈ xs := nth_mem (by rw [hs.1]; exact hk)
  have hd : (k : Int) < n := by omega
  clear hcell
  go_wp2
  go_ret
  exact ⟨_, rfl, hx, hc1, hf1⟩
theorem among_any (g : Nat) (N : Int) (A : Option Addr) (n c : Nat) (xs : List Int) (w : World) (hc : Cur w g N) (hN : N ≤ 1000000000) (hs : Sl w A n xs) (hn : 1 ≤ n) (hm : n ≤ 1048576) (hne : ∀ b o, A = some ⟨b, o, none⟩ → 0 < n → b ≠ g) :
    Calls Tryz.prog 34 #[.pointer (some ⟨g, 0, none⟩), .slice A n c] w fun e w' => ∃ x, e = .returned (.int .i64 x) ∧ x ∈ xs ∧ Cur w' g (N + 2) ∧ OnlyF [g] w w' := by
  go_enter Tryz.func34, Tryz.ntmps34
  go_wp2_with fail
  refine (pick_any g N n _ hc hN (by omega)).mono ?_
  rintro e V1 ⟨r, rfl, hr, hc1, hf1⟩
  obtain ⟨k, rfl⟩ := Int.eq_ofNat_of_zero_le hr.1
  have hk : k < n := by have := hr.2 (by omega); omega
  obtain ⟨b, o, rfl, hcell⟩ := (hs.onlyF hf1 hne).flat hk
  have c0 : V1.cell? ⟨b, o + k, none⟩ = some (.int .i64 (nth xs k)) := by
    have := hcell 0 _ rfl
    simpa [Flat.sz] using this
  have hx : nth xs k ∈ xs := nth_mem (by rw [hs.1]; exact hk)
  have hd : (k : Int) < n := by omega
  clear hcell
  go_wp2
  go_ret
  exact ⟨_, rfl, hx, hc1, hf1⟩
/-- a list written out, in a new block -/
theorem sl_lit {α : Type} [Flat α] (w : World) (E : TypeId) (xs : List α) (vs : Array Value) (hv : vs.toList = cellsOf xs) : Sl (w.alloc (.cells vs E)) (some ⟨w.heap.size, 0, none⟩) xs.length xs := by
  refine ⟨rfl, fun k x hx => ⟨w.heap.size, 0, Flat.enc x, rfl, rfl, fun j v hj => ?_⟩⟩
  have h1 := cellsOf_get hx hj
  rw [World.cell?_alloc_new, Nat.zero_add]
  rw [← hv] at h1
  rw [← h1]
  simp [Deep.sz]
end Go.Proofs.YtpdblmcflniomaaGreatDoor
