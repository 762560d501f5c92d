/-
  Numbers with a text between them. No conditions.
-/
import Derived.Test.YtjcjedolhejnaaaGreatDoorJnEq
import Derived.Test.YtjcjedolhejnaaaGreatDoorJnEnvq
import Derived.Test.YtjcjedolhejnaaaGreatDoorInts
import Derived.Test.YtjcjedolhejnaaaGreatDoorStrsI
import Derived.Test.YtjcjedolhejnaaaGreatDoorMem6
import Derived.Shelf.Strings.OnBuilder
import Derived.Lib.Join
namespace Go.Proofs.YtjcjedolhejnaaaGreatDoor
open Go.RowKit

def joinB (sep : ByteArray) (xs : List ByteArray) : ByteArray := ⟨(Lib.join (xs.map (·.data.toList)) sep.data.toList).toArray⟩
def joinI (sep : ByteArray) (ns : List Int) : ByteArray := joinB sep (ns.map itB)
theorem joinI_two (sep : ByteArray) (a b : Int) : joinI sep [a, b] = itB a ++ sep ++ itB b := by
  apply ba_ext
  unfold joinI joinB
  rw [show ((([a, b] : List Int).map itB).map (·.data.toList)) = [(itB a).data.toList, (itB b).data.toList] from rfl, Lib.join_cons]
  simp [Lib.joinTail]
theorem strs_cells {w : World} {g n : Nat} {xs : List ByteArray} (h : Sl w (some ⟨g, 0, none⟩) n xs) : ∀ (j : Nat) x, xs[j]? = some x → w.cell? ⟨g, 0 + j, none⟩ = some (.string x) := fun j x hx => by
  have hj : j < n := by rw [← h.1]; exact (List.getElem?_eq_some_iff.1 hx).1
  obtain ⟨b, o, e, _, hc⟩ := h.str hj
  injection e with e
  injection e with e1 e2
  subst e1 e2
  rw [hc, nth_get hx]
theorem join_extra : Builder.Extra Tryz.prog Tryz.laysJoin_ren where
  sizeBuilder := by kernel_rfl
  liesBuilder := by kernel_rfl
  t5 := Tryz.underlying5
  a5 := Tryz.isAgg5
  z5 := Tryz.sizeOf5
  v5 := Tryz.zeroValue5
  infoByte := by kernel_rfl
  cellsByte := by kernel_rfl
  sizeByte := by kernel_rfl
  neB5 := by decide
theorem wp_hide {P : Program} {c : Code} {Q : Exit → Act → World → Prop} {a : Act} {w : World} {R : World → Prop} (hR : R w) (h : ∀ V, R V → c.wp P Q a V) : c.wp P Q a w := h w hR
theorem join_any {g n c : Nat} (xs : List ByteArray) (sep : ByteArray) (w : World) (hs : Sl w (some ⟨g, 0, none⟩) n xs) (hg : g < w.heap.size) (hn : n ≤ 1048576) (hc : n ≤ c) (hl : (Lib.join (xs.map (·.data.toList)) sep.data.toList).length ≤ 140737488355328) :
    Calls Tryz.prog 93 #[.slice (some ⟨g, 0, none⟩) n c, .string sep] w fun e w' => e = .returned (.string (joinB sep xs)) ∧ Below w.heap.size w w' := by
  have h := hs.1
  subst h
  exact Any.strings_Join Tryz.laysJoin join_extra g 0 c xs sep w (strs_cells hs) hg (by omega) hc hl
set_option maxRecDepth 100000 in
set_option maxHeartbeats 4000000 in
theorem joinNumbers_any (sep : ByteArray) (ns : List Int) (A : Option Addr) (n c : Nat) (w : World) (hn : n ≤ 1048576) (hn0 : 0 < n) (hs : Sl w A n ns) (hi : ∀ k, k < n → -9223372036854775808 ≤ nth ns k ∧ nth ns k ≤ 9223372036854775807) (he : Tab w) (hl : (Lib.join ((ns.map itB).map (·.data.toList)) sep.data.toList).length ≤ 140737488355328) :
    Calls Tryz.prog 81 #[.string sep, .slice A n c] w fun e w' => e = .returned (.string (joinI sep ns)) ∧ Below w.heap.size w w' := by
  have HL := Lib.hid hs.1
  have HI := Lib.hid hi
  have HJ := Lib.hid hl
  clear hi hl
  go_enter Tryz.func81, Tryz.ntmps81
  go_wp2
  go_loopw [5, 10] (fun v iv wr => ∃ (i c' : Nat) (A' : Option Addr), i ≤ n ∧ iv = .int .i64 i ∧ v = .slice A' i c' ∧ Own wr w.heap.size 9 (.slice A' i c') ((ns.take i).map itB) ∧ Below w.heap.size w wr) (fun _ iv _ => n - (intOf iv).toNat)
  case atStart => exact ⟨0, 0, none, Nat.zero_le _, rfl, rfl, Own.nil _ _ _, bl_refl _⟩
  case round =>
    obtain ⟨i, c', A', hi, rfl, rfl, ho, hb⟩ := hrel
    by_cases hlt : i < n
    · obtain ⟨b, o, rfl, hbz, c0⟩ := (hs.below hb).int hlt
      have hkx : Hid (i < ns.length) := by rw [Hid, HL.out]; exact hlt
      obtain ⟨hi0, hi1⟩ := HI.out i hlt
      have Hbs := Lib.hid (he.below hb)
      clear hs he
      go_wp2_with (first
        | (go_at_call 92; refine (itoa_any (nth ns i) _ hi0 hi1 Hbs.out).mono ?_; rintro e V ⟨rfl, hV⟩; have hoV := ho.below hV; have hbV := bl_trans hb hV; clear ho)
        | (at_builtin; refine wpList_app1g rfl (.tmp 14) (.tmp 17) _ _ rfl el_str (itB (nth ns i)) rfl hoV hbV rfl (by simp) (by omega) ?_; intro A2 c2 w2 ho2 hb2 hg2))
      go_roundw
      case rel => exact ⟨i + 1, c2, A2, by omega, by go_num, rfl, by rw [take_succ hkx.out, List.map_append]; exact ho2, hb2⟩
      case measure => simp [intOf]; omega
    · obtain rfl : i = n := by omega
      obtain ⟨hic, hcm⟩ := ho.cap
      have hfin : ns.take i = ns := List.take_of_length_le (by rw [HL.out]; exact Nat.le_refl _)
      obtain ⟨g, rfl⟩ := ho.form (by omega)
      have hgz : g < wr.heap.size := (ho.lt g rfl).2
      rw [hfin] at ho
      clear hs he hfin hn0
      go_wp2_with fail
      refine (join_any (ns.map itB) sep _ ho.sl hgz hn hic HJ.out).mono ?_
      rintro e V ⟨rfl, hV⟩
      have hbV := bl_trans hb hV
      clear ho
      go_wp2
      go_ret
      exact ⟨rfl, hbV⟩

theorem sl_int2 {w : World} {g : Nat} {a b : Int} (h0 : w.cell? ⟨g, 0, none⟩ = some (.int .i64 a)) (h1 : w.cell? ⟨g, 1, none⟩ = some (.int .i64 b)) : Sl w (some ⟨g, 0, none⟩) 2 [a, b] :=
  ⟨rfl, fun k x hx => by
    have hk : k < 2 := (List.getElem?_eq_some_iff.1 hx).1
    refine ⟨g, 0, [.int .i64 x], rfl, rfl, fun j v hv => ?_⟩
    have hj : j < 1 := (List.getElem?_eq_some_iff.1 hv).1
    have hj0 : j = 0 := by omega
    subst hj0
    have hv' : Value.int .i64 x = v := by simpa using hv
    subst hv'
    have e : 0 + k * Deep.sz Int + 0 = k := by
      have : Deep.sz Int = 1 := rfl
      rw [this]; omega
    rw [e]
    match k, hk, hx with
    | 0, _, hx => have hx' : a = x := by simpa using hx
                  subst hx'; exact h0
    | 1, _, hx => have hx' : b = x := by simpa using hx
                  subst hx'; exact h1⟩
theorem join2_any (sep : ByteArray) (a b : Int) {g : Nat} (w : World) (h0 : w.cell? ⟨g, 0, none⟩ = some (.int .i64 a)) (h1 : w.cell? ⟨g, 1, none⟩ = some (.int .i64 b)) (ha : 0 ≤ a ∧ a ≤ 1000000) (hb : 0 ≤ b ∧ b ≤ 1000000) (hsz : sep.size ≤ 8) (he : Tab w) :
    Calls Tryz.prog 81 #[.string sep, .slice (some ⟨g, 0, none⟩) 2 2] w fun e w' => e = .returned (.string (itB a ++ sep ++ itB b)) ∧ Below w.heap.size w w' := by
  rw [← joinI_two]
  refine joinNumbers_any sep [a, b] _ 2 2 w (by omega) (by omega) (sl_int2 h0 h1) (fun k hk => ?_) he ?_
  · match k, hk with
    | 0, _ => exact ⟨by show -9223372036854775808 ≤ a; omega, by show a ≤ 9223372036854775807; omega⟩
    | 1, _ => exact ⟨by show -9223372036854775808 ≤ b; omega, by show b ≤ 9223372036854775807; omega⟩
  · have e := joinI_two sep a b
    have e2 : (joinI sep [a, b]).data.toList.length = (Lib.join ((([a, b] : List Int).map itB).map (·.data.toList)) sep.data.toList).length := by unfold joinI joinB; simp
    rw [← e2, e, ba_len, ByteArray.size_append, ByteArray.size_append]
    have h1 := it_len ha.1 6 (by omega)
    have h2 := it_len hb.1 6 (by omega)
    omega
end Go.Proofs.YtjcjedolhejnaaaGreatDoor
