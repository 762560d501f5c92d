/-
  The library's generics over skills. No conditions.
-/
import Derived.Test.YtgjnjfaohpmhkaaMem6
import Derived.Test.YtgjnjfaohpmhkaaSkill
namespace Go.Proofs.Ytgjnjfaohpmhkaa
open Go.RowKit

def SkillVal (x : Skill) : Value := .agg #[.string x.Person, .int .i64 x.Kind, .int .i64 x.Until]
theorem ez_skill : ElemZ Try.prog 27 44 (default : Skill) := elemZ_mk Try.underlying27 (by kernel_rfl)
theorem el_skill : Elem Try.prog 27 44 (Flat.sz Skill) := ez_skill.elem
set_option maxHeartbeats 1000000 in
theorem indexFunc_skill (xs : List Skill) (A : Option Addr) (n c : Nat) (g : FuncId) (caps : Array Value) (p : Skill → Bool) (w : World) (hn : (n : Int) ≤ 9223372036854775807) (hs : Sl w A n xs) (hen : Enters Try.prog g) (F : List Nat) (hp : Pred Try.prog w F xs g SkillVal caps p) :
    Calls Try.prog 92 #[.slice A n c, .func (.func g) #[] caps] w fun e w' => e = .returned (.int .i64 (indexF p xs)) ∧ Below w.heap.size w w' := by
  have HL := Lib.hid hs.1
  have HP := Lib.hid hp
  clear hp
  have hcf : ∀ (args : Array Value) (W : World), (callFunc g args).run Try.prog W = .ok (.enter g args) W := hen
  clear hen
  go_enter Try.func92, Try.ntmps92
  go_wp2
  go_loopw [8] (fun i wr => ∃ k : Nat, k ≤ n ∧ i = .int .i64 k ∧ Below w.heap.size w wr ∧ Hid (∀ j, j < k → p (nth xs j) = false)) (fun i _ => n - (intOf i).toNat)
  case atStart => exact ⟨0, Nat.zero_le _, rfl, bl_refl _, fun j hj => absurd hj (by omega)⟩
  case round =>
    obtain ⟨k, hk, rfl, hb, hg⟩ := hrel
    by_cases hlt : k < n
    · obtain ⟨b, o, rfl, _, c0, c1, c2⟩ := (hs.below hb).skill hlt
      clear hs
      go_wp2_with fail
      refine (HP.out _ (nth xs k) (nth_mem (by rw [HL.out]; exact hlt)) (.below hb)).mono ?_
      rintro e V ⟨rfl, hV⟩
      have hbV := bl_trans hb hV
      clear c0 c1 c2
      cases hpk : p (nth xs k)
      · have hpk' := Lib.hid hpk
        clear hpk
        go_wp2
        go_roundw
        case rel => exact ⟨k + 1, by omega, by go_num, hbV, upto_succ hg hpk'.out⟩
        case measure => simp [intOf]; omega
      · have hpk' := Lib.hid hpk
        clear hpk
        go_wp2
        go_ret
        exact ⟨ret_i64 (indexF_hit (by rw [HL.out]; exact hlt) hpk'.out hg).symm, hbV⟩
    · obtain rfl : k = n := by omega
      go_wp2
      go_ret
      exact ⟨ret_i64 (indexF_none (by rw [HL.out]; exact hg)).symm, hb⟩
/-- A call hands back the first n cells' worth of the slice that it was given. -/
def RetPreSkill (w : World) (base : Nat) (A : Option Addr) (n c : Nat) (ys : List Skill) (e : Ending) (w' : World) : Prop :=
  ∃ m, e = .returned (.slice A m c) ∧ Own w' base 44 (.slice A m c) ys ∧ m ≤ n ∧ OnlyF (Value.ownBlock (.slice A n c)).toList w w'
set_option maxHeartbeats 1000000 in
theorem containsFunc_skill (xs : List Skill) (A : Option Addr) (n c : Nat) (g : FuncId) (caps : Array Value) (p : Skill → Bool) (w : World) (hn : (n : Int) ≤ 9223372036854775807) (hs : Sl w A n xs) (hen : Enters Try.prog g) (F : List Nat) (hp : Pred Try.prog w F xs g SkillVal caps p) :
    Calls Try.prog 81 #[.slice A n c, .func (.func g) #[] caps] w fun e w' => e = .returned (.bool (xs.any p)) ∧ Below w.heap.size w w' := by
  rw [any_index]
  go_enter Try.func81, Try.ntmps81
  go_wp2_with fail
  refine (indexFunc_skill xs _ _ _ _ _ _ _ hn hs hen F hp).mono ?_
  rintro e V ⟨rfl, hV⟩
  clear hp hen
  go_wp2
  go_ret
  exact ⟨rfl, hV⟩

end Go.Proofs.Ytgjnjfaohpmhkaa
