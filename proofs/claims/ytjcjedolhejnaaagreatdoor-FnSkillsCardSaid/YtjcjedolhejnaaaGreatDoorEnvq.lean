/-
  What of Go's library the readers of numbers and lines lean on: variables that hold what start-up laid; Atoi, Split and IndexByte by their contracts. No conditions.
-/
import Derived.Test.YtjcjedolhejnaaaGreatDoorEnvT
import Derived.Test.YtjcjedolhejnaaaGreatDoorJnPq
namespace Go.Proofs.YtjcjedolhejnaaaGreatDoor
open Go.RowKit

structure Env (w : World) : Prop where
  tab : Tab w
  syn : ∃ tp p, w.var? Tryz.prog "strconv.ErrSyntax" = some #[.iface tp p]
  rng : ∃ tp p, w.var? Tryz.prog "strconv.ErrRange" = some #[.iface tp p]
  len : ∃ m, w.cell? ⟨0, 0, none⟩ = some (.int .i64 m)
theorem Env.below {w w' : World} (h : Env w) (hb : Below w.heap.size w w') : Env w' :=
  ⟨h.tab.below hb, by obtain ⟨tp, p, e⟩ := h.syn; exact ⟨tp, p, var_below e hb⟩, by obtain ⟨tp, p, e⟩ := h.rng; exact ⟨tp, p, var_below e hb⟩, by obtain ⟨m, e⟩ := h.len; exact ⟨m, cell_later hb e⟩⟩
theorem atoi_ok (s : ByteArray) (v : Int) (w : World) (hs : s.size ≤ 1048576) (h : Lib.atoiAll s.data.toList = .ok v) :
    Calls Tryz.prog 99 #[.string s] w fun e w' => e = .returned (.tuple #[.int .i64 v, .nilIface]) ∧ Below w.heap.size w w' :=
  (Any.strconv_Atoi_ok Tryz.laysAtoi s (by omega) v h w).mono fun e w' ⟨he, hw⟩ => ⟨he, by
    rcases hw with rfl | ⟨t, rfl⟩
    · exact Below.refl _ _
    · exact Lib.bytesWorld_below _ _ _⟩
theorem atoi_no (s : ByteArray) (w : World) (hs : s.size ≤ 1048576) (h : ∀ v, Lib.atoiAll s.data.toList ≠ .ok v) (he : Env w) :
    Calls Tryz.prog 99 #[.string s] w fun e w' => ∃ v N, e = .returned (.tuple #[.int .i64 v, .iface (Tryz.laysAtoi_ren.t 168) (.pointer (some ⟨N, 0, none⟩))]) ∧ -9223372036854775808 ≤ v ∧ v ≤ 9223372036854775807 ∧ Below w.heap.size w w' := by
  rcases hh : Lib.atoiAll s.data.toList with v | _ | _
  · exact absurd hh (h v)
  · obtain ⟨tp, p, e1⟩ := he.syn
    exact (Any.strconv_Atoi_syntax_var Tryz.laysAtoi s (by omega) hh tp p w e1).mono fun e w' ⟨N, he, _, _, hb⟩ => ⟨0, N, he, by omega, by omega, hb⟩
  · obtain ⟨tp, p, e1⟩ := he.rng
    obtain ⟨b1, b2⟩ := Lib.atoiSat_bounds s.data.toList
    exact (Any.strconv_Atoi_range_var Tryz.laysAtoi s (by omega) hh tp p w e1).mono fun e w' ⟨N, he, _, _, hb⟩ => ⟨_, N, he, b1, b2, hb⟩
theorem split_any (s : ByteArray) (c : UInt8) (w : World) (hs : s.size ≤ 1048576) (he : Env w) :
    Calls Tryz.prog 87 #[.string s, .string ⟨#[c]⟩] w fun e w' => ∃ g, e = .returned (.slice (some ⟨g, 0, none⟩) (cutB c s).length (cutB c s).length) ∧ Sl w' (some ⟨g, 0, none⟩) (cutB c s).length (cutB c s) ∧ Below w.heap.size w w' := by
  obtain ⟨m, hm⟩ := he.len
  refine (Any.strings_Split { Tryz.laysSplit with } Tryz.laysSplit.i9 s ⟨#[c]⟩ m w (by omega) hm (Nat.le_refl 1)).mono fun e w' ⟨h1, h2⟩ => ?_
  have hl : Lib.countB s ⟨#[c]⟩ + 1 = (cutB c s).length := by rw [← splitB_cut c s.size s (Nat.le_refl _), Lib.splitB_all ⟨#[c]⟩ (Nat.le_refl 1) 0 _ s rfl]
  rw [hl] at h1
  rw [splitB_cut c s.size s (Nat.le_refl _)] at h2
  refine ⟨w.heap.size, h1, ⟨rfl, fun k x hx => ⟨w.heap.size, 0, Flat.enc x, rfl, rfl, fun j v hj => ?_⟩⟩, by rw [h2]; exact bl_alloc (bl_refl _) _⟩
  have hj0 : j = 0 := by
    have := (List.getElem?_eq_some_iff.1 hj).1
    have h3 : (Flat.enc x).length = 1 := rfl
    omega
  subst hj0
  have hv : v = .string x := by
    have h3 : (Flat.enc x)[0]? = some (.string x) := rfl
    rw [h3] at hj; injection hj with hj; exact hj.symm
  subst hv
  have e2 : 0 + k * Deep.sz ByteArray + 0 = k := by
    have : Deep.sz ByteArray = 1 := rfl
    rw [this]; omega
  rw [e2, h2, World.cell?_alloc_new]
  simp [hx]
end Go.Proofs.YtjcjedolhejnaaaGreatDoor
