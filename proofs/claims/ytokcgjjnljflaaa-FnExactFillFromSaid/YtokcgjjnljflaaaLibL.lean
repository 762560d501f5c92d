/-
  The library's generics over loads. No conditions.
-/
import Derived.Test.YtokcgjjnljflaaaLoadN
import Derived.Test.YtokcgjjnljflaaaMem4
namespace Go.Proofs.Ytokcgjjnljflaaa
open Go.RowKit

/-- What a function value handed to the library does with a Load. -/
def PredLoad (P : Program) (w : World) (xs : List Load) (g : FuncId) (caps : Array Value) (p : Load → Bool) : Prop :=
  ∀ (W : World) (x : Load) (A' : Option Addr) (c' : Nat), x ∈ xs → Below w.heap.size w W → Sl W A' x.Things.length x.Things → x.Things.length ≤ maxLen → Calls P g (#[.agg #[.string (x.Appliance), .slice A' x.Things.length c']] ++ caps) W fun e W' => e = .returned (.bool (p x)) ∧ Below W.heap.size W W'
set_option maxHeartbeats 1000000 in
theorem indexFunc_load (xs : List Load) (A : Option Addr) (n c : Nat) (g : FuncId) (caps : Array Value) (p : Load → Bool) (w : World) (hn : (n : Int) ≤ 9223372036854775807) (hs : Sl w A n xs) (hen : Enters Try.prog g) (hp : PredLoad Try.prog w xs g caps p) :
    Calls Try.prog 74 #[.slice A n c, .func (.func g) #[] caps] w fun e w' => e = .returned (.int .i64 (indexF p xs)) ∧ Below w.heap.size w w' := by
  have HL := Lib.hid hs.1
  have HP := Lib.hid hp
  clear hp
  have hcf : ∀ (args : Array Value) (W : World), (callFunc g args).run Try.prog W = .ok (.enter g args) W := hen
  clear hen
  go_enter Try.func74, Try.ntmps74
  go_wp2
  go_loopw [8] (fun i wr => ∃ k : Nat, k ≤ n ∧ i = .int .i64 k ∧ Below w.heap.size w wr ∧ Hid (∀ j, j < k → p (nth xs j) = false)) (fun i _ => n - (intOf i).toNat)
  case atStart => exact ⟨0, Nat.zero_le _, rfl, bl_refl _, fun j hj => absurd hj (by omega)⟩
  case round =>
    obtain ⟨k, hk, rfl, hb, hg⟩ := hrel
    by_cases hlt : k < n
    · obtain ⟨b, o, A', c', rfl, _, c0, c1, hi, hil⟩ := (hs.below hb).load hlt
      clear hs
      go_wp2_with fail
      refine (HP.out _ (nth xs k) A' c' (nth_mem (by rw [HL.out]; exact hlt)) hb hi hil).mono ?_
      rintro e V ⟨rfl, hV⟩
      have hbV := bl_trans hb hV
      clear hi hil c0 c1
      cases hpk : p (nth xs k)
      · have hpk' := Lib.hid hpk
        clear hpk
        go_wp2
        go_roundw
        case rel => exact ⟨k + 1, by omega, by go_num, hbV, upto_succ hg hpk'.out⟩
        case measure => simp [intOf]; omega
      · have hpk' := Lib.hid hpk
        clear hpk
        go_wp2
        go_ret
        exact ⟨ret_i64 (indexF_hit (by rw [HL.out]; exact hlt) hpk'.out hg).symm, hbV⟩
    · obtain rfl : k = n := by omega
      go_wp2
      go_ret
      exact ⟨ret_i64 (indexF_none (by rw [HL.out]; exact hg)).symm, hb⟩
theorem containsFunc_load (xs : List Load) (A : Option Addr) (n c : Nat) (g : FuncId) (caps : Array Value) (p : Load → Bool) (w : World) (hn : (n : Int) ≤ 9223372036854775807) (hs : Sl w A n xs) (hen : Enters Try.prog g) (hp : PredLoad Try.prog w xs g caps p) :
    Calls Try.prog 65 #[.slice A n c, .func (.func g) #[] caps] w fun e w' => e = .returned (.bool (xs.any p)) ∧ Below w.heap.size w w' := by
  rw [any_index]
  go_enter Try.func65, Try.ntmps65
  go_wp2_with fail
  refine (indexFunc_load xs _ _ _ _ _ _ _ hn hs hen hp).mono ?_
  rintro e V ⟨rfl, hV⟩
  clear hp hen
  go_wp2
  go_ret
  exact ⟨rfl, hV⟩

end Go.Proofs.Ytokcgjjnljflaaa
