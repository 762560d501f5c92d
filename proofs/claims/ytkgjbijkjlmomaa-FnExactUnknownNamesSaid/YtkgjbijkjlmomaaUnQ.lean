/-
  Where an appliance stands in a fleet. No conditions.
-/
import Derived.Test.YtkgjbijkjlmomaaUnP
namespace Go.Proofs.Ytkgjbijkjlmomaa
open Go.RowKit

set_option maxHeartbeats 1000000 in
theorem apFind_any (fs : List Appliance) (s : ByteArray) (A : Option Addr) (n c : Nat) (w : World) (hn : (n : Int) ≤ 9223372036854775807) (hs : Sl w A n fs) :
    Calls Try.prog 60 #[.slice A n c, .string s] w fun e w' => e = .returned (.int .i64 (apF fs s)) ∧ Below w.heap.size w w' := by
  have HL := Lib.hid hs.1
  go_enter Try.func60, Try.ntmps60
  go_wp2
  go_loopw [9] (fun i wr => ∃ k : Nat, k ≤ n ∧ i = .int .i64 k ∧ Below w.heap.size w wr ∧ Hid (∀ j, j < k → ((nth fs j).Name.toList == s.toList) = false)) (fun i _ => n - (intOf i).toNat)
  case atStart => exact ⟨0, Nat.zero_le _, rfl, bl_refl _, fun j hj => absurd hj (by omega)⟩
  case round =>
    obtain ⟨k, hk, rfl, hb, hg⟩ := hrel
    by_cases hlt : k < n
    · obtain ⟨b, o, rfl, _, c0, c1, c2, c3, c4⟩ := (hs.below hb).appliance hlt
      have hkx : Hid (k < fs.length) := by rw [Hid, HL.out]; exact hlt
      clear hs
      cases h0 : ((nth fs k).Name.toList == s.toList)
      · have H0 := Lib.hid h0
        go_wp2
        go_roundw
        case rel => exact ⟨k + 1, by omega, by go_num, bl_alloc hb _, upto_succ hg H0.out⟩
        case measure => simp [intOf]; omega
      · have H0 := Lib.hid h0
        go_wp2
        go_ret
        exact ⟨ret_i64 (indexF_hit (p := fun a : Appliance => a.Name.toList == s.toList) hkx.out H0.out hg.out).symm, bl_alloc hb _⟩
    · obtain rfl : k = n := by omega
      go_wp2
      go_ret
      exact ⟨ret_i64 (indexF_none (p := fun a : Appliance => a.Name.toList == s.toList) (by rw [HL.out]; exact hg.out)).symm, hb⟩
def ApplianceVal (x : Appliance) : Value := .agg #[.string x.Name, .int .i64 x.Kind, .int .i64 x.Node, .int .i64 x.Crew, .int .i64 x.State]
set_option maxHeartbeats 1000000 in
theorem indexFunc_appliance (xs : List Appliance) (A : Option Addr) (n c : Nat) (g : FuncId) (caps : Array Value) (p : Appliance → Bool) (w : World) (hn : (n : Int) ≤ 9223372036854775807) (hs : Sl w A n xs) (hen : Enters Try.prog g) (F : List Nat) (hp : Pred Try.prog w F xs g ApplianceVal caps p) :
    Calls Try.prog 86 #[.slice A n c, .func (.func g) #[] caps] w fun e w' => e = .returned (.int .i64 (indexF p xs)) ∧ Below w.heap.size w w' := by
  have HL := Lib.hid hs.1
  have HP := Lib.hid hp
  clear hp
  have hcf : ∀ (args : Array Value) (W : World), (callFunc g args).run Try.prog W = .ok (.enter g args) W := hen
  clear hen
  go_enter Try.func86, Try.ntmps86
  go_wp2
  go_loopw [8] (fun i wr => ∃ k : Nat, k ≤ n ∧ i = .int .i64 k ∧ Below w.heap.size w wr ∧ Hid (∀ j, j < k → p (nth xs j) = false)) (fun i _ => n - (intOf i).toNat)
  case atStart => exact ⟨0, Nat.zero_le _, rfl, bl_refl _, fun j hj => absurd hj (by omega)⟩
  case round =>
    obtain ⟨k, hk, rfl, hb, hg⟩ := hrel
    by_cases hlt : k < n
    · obtain ⟨b, o, rfl, _, c0, c1, c2, c3, c4⟩ := (hs.below hb).appliance hlt
      clear hs
      go_wp2_with fail
      refine (HP.out _ (nth xs k) (nth_mem (by rw [HL.out]; exact hlt)) (.below hb)).mono ?_
      rintro e V ⟨rfl, hV⟩
      have hbV := bl_trans hb hV
      clear c0 c1 c2 c3 c4
      cases hpk : p (nth xs k)
      · have hpk' := Lib.hid hpk
        clear hpk
        go_wp2
        go_roundw
        case rel => exact ⟨k + 1, by omega, by go_num, hbV, upto_succ hg hpk'.out⟩
        case measure => simp [intOf]; omega
      · have hpk' := Lib.hid hpk
        clear hpk
        go_wp2
        go_ret
        exact ⟨ret_i64 (indexF_hit (by rw [HL.out]; exact hlt) hpk'.out hg).symm, hbV⟩
    · obtain rfl : k = n := by omega
      go_wp2
      go_ret
      exact ⟨ret_i64 (indexF_none (by rw [HL.out]; exact hg)).symm, hb⟩
theorem enters_fA : Enters Try.prog 87 := enters_of Try.func87 (by kernel_rfl) (by kernel_rfl)
theorem pred_fA (w : World) (Bk : Nat) (s : ByteArray) (ha : w.cell? ⟨Bk, 0, none⟩ = some (.string s)) (fs : List Appliance) : Pred Try.prog w [] fs 87 ApplianceVal #[.pointer (some ⟨Bk, 0, none⟩)] (fun a => a.Name.toList == s.toList) := by
  intro W x _ hof
  have ha' := hof.keeps ha (fun hm => by cases hm)
  have hz : Bk < W.heap.size := World.block_lt_of_cell? W _ ha'
  clear ha hof
  show Calls _ _ #[ApplianceVal x, .pointer (some ⟨Bk, 0, none⟩)] W _
  unfold ApplianceVal
  go_enter Try.func87, Try.ntmps87
  go_wp2
  go_ret
  exact ⟨rfl, bl_alloc (bl_refl _) _⟩
theorem findAppliance_any (fs : List Appliance) (s : ByteArray) (A : Option Addr) (n c : Nat) (w : World) (hn : (n : Int) ≤ 9223372036854775807) (hs : Sl w A n fs) :
    Calls Try.prog 64 #[.slice A n c, .string s] w fun e w' => e = .returned (.int .i64 (apF fs s)) ∧ Below w.heap.size w w' := by
  go_enter Try.func64, Try.ntmps64
  go_wp2_with fail
  refine (indexFunc_appliance fs _ _ _ _ _ _ _ hn (hs.below (bl_alloc (bl_refl _) _)) enters_fA [] (pred_fA _ w.heap.size s (by go_simp) fs)).mono ?_
  rintro e V ⟨rfl, hV⟩
  go_wp2
  go_ret
  exact ⟨rfl, bl_trans (bl_alloc (bl_refl w) (.cells #[.string s] 9)) hV⟩

end Go.Proofs.Ytkgjbijkjlmomaa
