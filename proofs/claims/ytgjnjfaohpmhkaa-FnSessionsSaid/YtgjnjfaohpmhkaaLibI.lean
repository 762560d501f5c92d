/-
  The library's generics over ints. No conditions.
-/
import Derived.Test.YtgjnjfaohpmhkaaMem6
import Derived.Test.YtgjnjfaohpmhkaaInts
namespace Go.Proofs.Ytgjnjfaohpmhkaa
open Go.RowKit

set_option maxHeartbeats 1000000 in
theorem indexFunc_int (xs : List Int) (A : Option Addr) (n c : Nat) (g : FuncId) (caps : Array Value) (p : Int → Bool) (w : World) (hn : (n : Int) ≤ 9223372036854775807) (hs : Sl w A n xs) (hen : Enters Try.prog g) (F : List Nat) (hp : Pred Try.prog w F xs g (fun x : Int => Value.int .i64 x) caps p) :
    Calls Try.prog 80 #[.slice A n c, .func (.func g) #[] caps] w fun e w' => e = .returned (.int .i64 (indexF p xs)) ∧ Below w.heap.size w w' := by
  have HL := Lib.hid hs.1
  have HP := Lib.hid hp
  clear hp
  have hcf : ∀ (args : Array Value) (W : World), (callFunc g args).run Try.prog W = .ok (.enter g args) W := hen
  clear hen
  go_enter Try.func80, Try.ntmps80
  go_wp2
  go_loopw [8] (fun i wr => ∃ k : Nat, k ≤ n ∧ i = .int .i64 k ∧ Below w.heap.size w wr ∧ Hid (∀ j, j < k → p (nth xs j) = false)) (fun i _ => n - (intOf i).toNat)
  case atStart => exact ⟨0, Nat.zero_le _, rfl, bl_refl _, fun j hj => absurd hj (by omega)⟩
  case round =>
    obtain ⟨k, hk, rfl, hb, hg⟩ := hrel
    by_cases hlt : k < n
    · obtain ⟨b, o, rfl, _, c0⟩ := (hs.below hb).int hlt
      clear hs
      go_wp2_with fail
      refine (HP.out _ (nth xs k) (nth_mem (by rw [HL.out]; exact hlt)) (.below hb)).mono ?_
      rintro e V ⟨rfl, hV⟩
      have hbV := bl_trans hb hV
      clear c0
      cases hpk : p (nth xs k)
      · have hpk' := Lib.hid hpk
        clear hpk
        go_wp2
        go_roundw
        case rel => exact ⟨k + 1, by omega, by go_num, hbV, upto_succ hg hpk'.out⟩
        case measure => simp [intOf]; omega
      · have hpk' := Lib.hid hpk
        clear hpk
        go_wp2
        go_ret
        exact ⟨ret_i64 (indexF_hit (by rw [HL.out]; exact hlt) hpk'.out hg).symm, hbV⟩
    · obtain rfl : k = n := by omega
      go_wp2
      go_ret
      exact ⟨ret_i64 (indexF_none (by rw [HL.out]; exact hg)).symm, hb⟩
set_option maxHeartbeats 1000000 in
theorem containsFunc_int (xs : List Int) (A : Option Addr) (n c : Nat) (g : FuncId) (caps : Array Value) (p : Int → Bool) (w : World) (hn : (n : Int) ≤ 9223372036854775807) (hs : Sl w A n xs) (hen : Enters Try.prog g) (F : List Nat) (hp : Pred Try.prog w F xs g (fun x : Int => Value.int .i64 x) caps p) :
    Calls Try.prog 58 #[.slice A n c, .func (.func g) #[] caps] w fun e w' => e = .returned (.bool (xs.any p)) ∧ Below w.heap.size w w' := by
  rw [any_index]
  go_enter Try.func58, Try.ntmps58
  go_wp2_with fail
  refine (indexFunc_int xs _ _ _ _ _ _ _ hn hs hen F hp).mono ?_
  rintro e V ⟨rfl, hV⟩
  clear hp hen
  go_wp2
  go_ret
  exact ⟨rfl, hV⟩

end Go.Proofs.Ytgjnjfaohpmhkaa
