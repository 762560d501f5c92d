/-
  Several texts in one. No conditions.
-/
import Derived.Test.YtpdblmcflniomaaGreatDoorIv20
import Derived.Test.YtpdblmcflniomaaGreatDoorIv15
import Derived.Test.YtpdblmcflniomaaGreatDoorIv17
import Derived.Test.YtpdblmcflniomaaGreatDoorIv4
import Derived.Laws.IdiomCopy
namespace Go.Proofs.YtpdblmcflniomaaGreatDoor
open Go.RowKit

theorem sl_strI {w : World} {b o : Nat} {s : ByteArray} (h : w.cell? ⟨b, o, none⟩ = some (.string s)) : Sl w (some ⟨b, o, none⟩) 1 [s] :=
  ⟨rfl, fun k x hx => by
    have hk : k = 0 := by have := (List.getElem?_eq_some_iff.1 hx).1; simpa using this
    subst hk
    have hx' : s = x := by simpa using hx
    subst hx'
    refine ⟨b, o, [.string s], rfl, rfl, fun j v hv => ?_⟩
    have hj : j = 0 := by have := (List.getElem?_eq_some_iff.1 hv).1; simpa using this
    subst hj
    have hv' : Value.string s = v := by simpa using hv
    subst hv'; simpa using h⟩
theorem own_blk {A : Option Addr} {n m c d : Nat} : Value.ownBlock (.slice A n c) = Value.ownBlock (.slice A m d) := by cases A <;> rfl
theorem own_mem {A : Option Addr} {n m c y : Nat} (h : y ∈ (Value.ownBlock (.slice A m c)).toList) : Value.ownBlock (.slice A n c) = some y := by
  have h1 : Value.ownBlock (.slice A m c) = some y := by simpa only [Option.mem_toList, Option.mem_def] using h
  exact own_blk.trans h1
end Go.Proofs.YtpdblmcflniomaaGreatDoor

namespace Go.Proofs.YtpdblmcflniomaaGreatDoor
open Go.RowKit

def askB (xs : List Incident) (number : Int) (nm : ByteArray) : Bool := incsB xs && decide (0 ≤ openI xs number) && nameB nm
theorem askB_yes {xs : List Incident} {number : Int} {nm : ByteArray} (h : askB xs number nm = true) : incsB xs = true ∧ 0 ≤ openI xs number ∧ nameB nm = true := by
  simp only [askB, Bool.and_eq_true, decide_eq_true_eq] at h; exact ⟨h.1.1, h.1.2, h.2⟩
set_option maxHeartbeats 4000000 in
theorem ixAsked_any (xs : List Incident) (number : Int) (nm : ByteArray) (A : Option Addr) (n c : Nat) (w : World) (hz : nm.size ≤ maxLen) (hn : n ≤ 1048576) (hc : n ≤ c) (hs : Sl w A n xs) (hv : ∀ x, x ∈ xs → ∀ y, y ∈ x.Names → y.size ≤ maxLen) :
    Calls Tryz.prog 101 #[.slice A n c, .int .i64 number, .string nm] w fun e w' => e = .returned (.bool (askB xs number nm)) ∧ Below w.heap.size w w' := by
  have HV := Lib.hid hv
  have HL := Lib.hid hs.1
  have hn' : (n : Int) ≤ 9223372036854775807 := by omega
  clear hv
  go_enter Tryz.func101, Tryz.ntmps101
  have hk0 := bl_refl w
  go_wp2_with fail
  refine (ixGood_any xs _ _ _ _ hn' hc hs HV.out).mono ?_
  rintro e V1 ⟨rfl, hb1⟩
  have hB1 := bl_trans (a := w) (bl_refl _) hb1
  have hk1 := bl_trans hk0 hB1
  have z1 := Lib.hid hB1.size
  cases h0 : incsB xs
  · have Hz : Hid (askB xs number nm = false) := by rw [Hid, askB, h0]; simp
    clear h0
    go_wp2
    go_ret
    exact ⟨ret_bool Hz.out.symm, hk1⟩
  have H0 := Lib.hid h0
  clear h0
  go_wp2_with fail
  refine (ixFind_any xs number _ _ _ _ hn' (hs.below hk1)).mono ?_
  rintro e V2 ⟨rfl, hb2⟩
  have hB2 := bl_trans (a := V1) (bl_refl _) hb2
  have hk2 := bl_trans hk1 hB2
  have z2 := Lib.hid hB2.size
  clear hk1
  cases h1 : decide (openI xs number ≥ 0)
  · have Hz : Hid (askB xs number nm = false) := by rw [Hid, askB, show decide (0 ≤ openI xs number) = false from h1]; simp
    go_wp2
    go_ret
    exact ⟨ret_bool Hz.out.symm, hk2⟩
  have H1 := Lib.hid (show decide (0 ≤ openI xs number) = true from h1)
  go_wp2_with fail
  refine (apName_any nm _ hz).mono ?_
  rintro e V3 ⟨rfl, hb3⟩
  have hB3 := bl_trans (a := V2) (bl_refl _) hb3
  have hk3 := bl_trans hk2 hB3
  have z3 := Lib.hid hB3.size
  clear hk2
  have Hz : Hid (askB xs number nm = nameB nm) := by rw [Hid, askB, H0.out, H1.out]; rfl
  go_wp2
  go_ret
  exact ⟨ret_bool Hz.out.symm, hk3⟩
theorem ixIf_any (xs : List Incident) (b : Bool) (A : Option Addr) (n c : Nat) (w : World) (hn' : (n : Int) ≤ 9223372036854775807) (hc : n ≤ c) (hs : Sl w A n xs) (hv : ∀ x, x ∈ xs → ∀ y, y ∈ x.Names → y.size ≤ maxLen) (hb : incsB xs = b) :
    Calls Tryz.prog 40 #[.slice A n c] w fun e w' => e = .returned (.tuple #[if b then .slice A n c else .slice none 0 0, .bool b]) ∧ Below w.heap.size w w' := by
  have HV := Lib.hid hv
  have HB := Lib.hid hb
  clear hv hb
  go_enter Tryz.func40, Tryz.ntmps40
  go_wp2_with fail
  refine (ixGood_any xs _ _ _ _ hn' hc hs HV.out).mono ?_
  rintro e V ⟨rfl, hV⟩
  rw [HB.out]
  clear hs
  cases b
  · go_wp2
    go_ret2
    exact ⟨rfl, hV⟩
  · go_wp2
    go_ret2
    exact ⟨rfl, hV⟩

end Go.Proofs.YtpdblmcflniomaaGreatDoor

namespace Go.Proofs.YtpdblmcflniomaaGreatDoor
open Go.RowKit

theorem run_copy_cellsN {P : Program} (w : World) (dT sT ty elem : TypeId) (k b o dLen dCap : Nat) (a : Addr) (sLen sCap : Nat) (cs : List Value)
    (hu : P.underlying dT = some (.slice elem)) (hs : (P.info? elem).map (·.size) = some k) (hn : cs.length = Nat.min sLen dLen * k)
    (hsrc : ∀ j v, cs[j]? = some v → w.cell? (a.add j) = some v) (hc : ∀ j, j < cs.length → (w.cell? ⟨b, o + j, none⟩).isSome = true) (hf : ∀ j, j < cs.length → w.frozen? ⟨b, o + j, none⟩ = false) (h1 : ∀ v ∈ cs, v.oneCell' = true) :
    (Builtin.copy_ #[dT, sT] ty #[.slice (some ⟨b, o, none⟩) dLen dCap, .slice (some a) sLen sCap]).run P w = .ok (goInt (Nat.min sLen dLen)) (w.setCells b o cs) := by
  have hl := run_loadCells_list (P := P) w a cs hsrc
  have hst := run_storeCells_cells (P := P) b o cs 0 w (by simpa using hc) (by simpa using hf) h1
  cases hq : P.info? elem with
  | none => simp [hq] at hs
  | some i =>
    have hi : i.size = k := by simpa [hq] using hs
    rw [hn] at hl
    have hn' : Nat.min sLen dLen * k = min sLen dLen * k := rfl
    first
      | (simp [Builtin.copy_, run_underlying hu, Builtin.lenOf, Builtin.firstCells, sizeOf, typeInfo, hq, hi, hl, hst]; done)
      | (rw [hn', Nat.mul_comm] at hl; simp [Builtin.copy_, run_underlying hu, Builtin.lenOf, Builtin.firstCells, sizeOf, typeInfo, hq, hi, hl, hst]; done)

end Go.Proofs.YtpdblmcflniomaaGreatDoor
