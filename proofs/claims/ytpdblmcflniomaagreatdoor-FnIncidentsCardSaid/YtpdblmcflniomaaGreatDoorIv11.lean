/-
  Several texts in one. No conditions.
-/
import Derived.Test.YtpdblmcflniomaaGreatDoorIv8
import Derived.Test.YtpdblmcflniomaaGreatDoorJnPq
import Derived.IntWalk
import Derived.Lib.ConvBytes
namespace Go.Proofs.YtpdblmcflniomaaGreatDoor
open Go.RowKit

structure Env (w : World) : Prop where
  tab : Tab w
  syn : ∃ tp p, w.var? Tryz.prog "strconv.ErrSyntax" = some #[.iface tp p]
  rng : ∃ tp p, w.var? Tryz.prog "strconv.ErrRange" = some #[.iface tp p]
  len : ∃ m, w.cell? ⟨0, 0, none⟩ = some (.int .i64 m)
theorem Env.below {w w' : World} (h : Env w) (hb : Below w.heap.size w w') : Env w' :=
  ⟨h.tab.below hb, by obtain ⟨tp, p, e⟩ := h.syn; exact ⟨tp, p, var_below e hb⟩, by obtain ⟨tp, p, e⟩ := h.rng; exact ⟨tp, p, var_below e hb⟩, by obtain ⟨m, e⟩ := h.len; exact ⟨m, cell_later hb e⟩⟩
theorem atoi_ok (s : ByteArray) (v : Int) (w : World) (hs : s.size ≤ 1048576) (h : Lib.atoiAll s.data.toList = .ok v) :
    Calls Tryz.prog 123 #[.string s] w fun e w' => e = .returned (.tuple #[.int .i64 v, .nilIface]) ∧ Below w.heap.size w w' :=
  (Any.strconv_Atoi_ok Tryz.laysAtoi s (by omega) v h w).mono fun e w' ⟨he, hw⟩ => ⟨he, by
    rcases hw with rfl | ⟨t, rfl⟩
    · exact Below.refl _ _
    · exact Lib.bytesWorld_below _ _ _⟩
theorem atoi_no (s : ByteArray) (w : World) (hs : s.size ≤ 1048576) (h : ∀ v, Lib.atoiAll s.data.toList ≠ .ok v) (he : Env w) :
    Calls Tryz.prog 123 #[.string s] w fun e w' => ∃ v N, e = .returned (.tuple #[.int .i64 v, .iface (Tryz.laysAtoi_ren.t 168) (.pointer (some ⟨N, 0, none⟩))]) ∧ -9223372036854775808 ≤ v ∧ v ≤ 9223372036854775807 ∧ Below w.heap.size w w' := by
  rcases hh : Lib.atoiAll s.data.toList with v | _ | _
  · exact absurd hh (h v)
  · obtain ⟨tp, p, e1⟩ := he.syn
    exact (Any.strconv_Atoi_syntax_var Tryz.laysAtoi s (by omega) hh tp p w e1).mono fun e w' ⟨N, he, _, _, hb⟩ => ⟨0, N, he, by omega, by omega, hb⟩
  · obtain ⟨tp, p, e1⟩ := he.rng
    obtain ⟨b1, b2⟩ := Lib.atoiSat_bounds s.data.toList
    exact (Any.strconv_Atoi_range_var Tryz.laysAtoi s (by omega) hh tp p w e1).mono fun e w' ⟨N, he, _, _, hb⟩ => ⟨_, N, he, b1, b2, hb⟩
theorem split_any (s : ByteArray) (c : UInt8) (w : World) (hs : s.size ≤ 1048576) (he : Env w) :
    Calls Tryz.prog 69 #[.string s, .string ⟨#[c]⟩] w fun e w' => ∃ g, e = .returned (.slice (some ⟨g, 0, none⟩) (cutB c s).length (cutB c s).length) ∧ Sl w' (some ⟨g, 0, none⟩) (cutB c s).length (cutB c s) ∧ Below w.heap.size w w' := by
  obtain ⟨m, hm⟩ := he.len
  refine (Any.strings_Split { Tryz.laysSplit with } Tryz.laysSplit.i9 s ⟨#[c]⟩ m w (by omega) hm (Nat.le_refl 1)).mono fun e w' ⟨h1, h2⟩ => ?_
  have hl : Lib.countB s ⟨#[c]⟩ + 1 = (cutB c s).length := by rw [← splitB_cut c s.size s (Nat.le_refl _), Lib.splitB_all ⟨#[c]⟩ (Nat.le_refl 1) 0 _ s rfl]
  rw [hl] at h1
  rw [splitB_cut c s.size s (Nat.le_refl _)] at h2
  refine ⟨w.heap.size, h1, ⟨rfl, fun k x hx => ⟨w.heap.size, 0, Flat.enc x, rfl, rfl, fun j v hj => ?_⟩⟩, by rw [h2]; exact bl_alloc (bl_refl _) _⟩
  have hj0 : j = 0 := by
    have := (List.getElem?_eq_some_iff.1 hj).1
    have h3 : (Flat.enc x).length = 1 := rfl
    omega
  subst hj0
  have hv : v = .string x := by
    have h3 : (Flat.enc x)[0]? = some (.string x) := rfl
    rw [h3] at hj; injection hj with hj; exact hj.symm
  subst hv
  have e2 : 0 + k * Deep.sz ByteArray + 0 = k := by
    have : Deep.sz ByteArray = 1 := rfl
    rw [this]; omega
  rw [e2, h2, World.cell?_alloc_new]
  simp [hx]
end Go.Proofs.YtpdblmcflniomaaGreatDoor

namespace Go.Proofs.YtpdblmcflniomaaGreatDoor
open Go.RowKit

/-- what a reader of numbers hands back -/
def NumPost (s : ByteArray) (w : World) (e : Ending) (w' : World) : Prop :=
  ∃ v b, e = .returned (.tuple #[.int .i64 v, .bool b]) ∧ (-9223372036854775808 ≤ v ∧ v ≤ 9223372036854775807) ∧ Hid ((∀ u : Nat, u < 1000000 → s = itB (u : Int) → v = (u : Int) ∧ b = true) ∧ (b = true → s = itB v)) ∧ Below w.heap.size w w'
set_option maxHeartbeats 1000000 in
theorem readNumber_any (s : ByteArray) (w : World) (hs : s.size ≤ 1048576) (he : Env w) : Calls Tryz.prog 98 #[.string s] w (NumPost s w) := by
  by_cases hh : ∃ v, Lib.atoiAll s.data.toList = .ok v
  · obtain ⟨v, hv⟩ := hh
    obtain ⟨b0, b1⟩ := Lib.atoiAll_bounds hv
    have HV := Lib.hid hv
    clear hv
    go_enter Tryz.func98, Tryz.ntmps98
    go_wp2_with fail
    refine (atoi_ok s v _ hs HV.out).mono ?_
    rintro e V1 ⟨rfl, hb1⟩
    go_wp2_with fail
    refine (itoa_any v _ b0 b1 (he.tab.below hb1)).mono ?_
    rintro e V2 ⟨rfl, hb2⟩
    have hb := bl_trans hb1 hb2
    cases hq : sameB (itB v) s with
    | true =>
      have hq2 : ((itB v).toList == s.toList) = true := by rw [bytes_beq]; exact hq
      go_wp2
      go_ret2
      refine ⟨v, true, rfl, ⟨b0, b1⟩, ⟨fun u hu hs2 => ?_, fun _ => (sameB_iff.1 hq).symm⟩, hb⟩
      have := HV.out
      rw [hs2, atoiAll_it u hu] at this
      injection this with this
      exact ⟨this.symm, rfl⟩
    | false =>
      have hq2 : ((itB v).toList == s.toList) = false := by rw [bytes_beq]; exact hq
      go_wp2
      go_ret2
      refine ⟨v, false, rfl, ⟨b0, b1⟩, ⟨fun u hu hs2 => ?_, fun h => by cases h⟩, hb⟩
      have := HV.out
      rw [hs2, atoiAll_it u hu] at this
      injection this with this
      rw [← this, hs2, sameB_iff.2 rfl] at hq
      cases hq
  · have hn : ∀ v, Lib.atoiAll s.data.toList ≠ .ok v := fun v hv => hh ⟨v, hv⟩
    have HN := Lib.hid hn
    clear hn hh
    go_enter Tryz.func98, Tryz.ntmps98
    go_wp2_with fail
    refine (atoi_no s _ hs HN.out he).mono ?_
    rintro e V1 ⟨v, N, rfl, b0, b1, hb1⟩
    go_wp2
    go_ret2
    refine ⟨v, false, rfl, ⟨b0, b1⟩, ⟨fun u hu hs2 => ?_, fun h => by cases h⟩, hb1⟩
    exact absurd (by rw [hs2]; exact atoiAll_it u hu) (HN.out (u : Int))
end Go.Proofs.YtpdblmcflniomaaGreatDoor

namespace Go.Proofs.YtpdblmcflniomaaGreatDoor
open Go.RowKit

theorem sumL_take {s : ByteArray} {k : Nat} (hk : k < s.size) : sumL (s.data.toList.take (k + 1)) = (31 * sumL (s.data.toList.take k) + ((s.data.toList.getD k 0).toNat : Int)) % 99991 := by
  have h : k < s.data.toList.length := by rw [ba_len]; exact hk
  rw [List.take_add_one, List.getElem?_eq_getElem h, List.getD_eq_getElem?_getD, List.getElem?_eq_getElem h]
  exact sumL_snoc _ _
theorem sumL_all (s : ByteArray) {k : Nat} (hk : k = s.size) : sumL (s.data.toList.take k) = sumL s.data.toList := by
  rw [List.take_of_length_le (by rw [ba_len]; omega)]
end Go.Proofs.YtpdblmcflniomaaGreatDoor
