/-
  slices.Clone over skills. No conditions.
-/
import Derived.Test.YticgenojelblnaaMem6
import Derived.Test.YticgenojelblnaaSkill
namespace Go.Proofs.Yticgenojelblnaa
open Go.RowKit

def SkillVal (x : Skill) : Value := .agg #[.string x.Person, .int .i64 x.Kind, .int .i64 x.Until]
theorem ez_skill : ElemZ Try.prog 24 34 (default : Skill) := elemZ_mk Try.underlying24 (by kernel_rfl)
theorem el_skill : Elem Try.prog 24 34 (Flat.sz Skill) := ez_skill.elem
set_option maxHeartbeats 1000000 in
theorem clone_skill (xs : List Skill) (A : Option Addr) (n c : Nat) (w : World) (hn : n ≤ 1048576) (hs : Sl w A n xs) :
    Calls Try.prog 20 #[.slice A n c] w (RetOwn w 34 xs) := by
  have HL := Lib.hid hs.1
  cases A with
  | none =>
    obtain ⟨rfl, rfl⟩ := hs.none_len
    have he := fun W => Lib.run_eql_slice_nil (P := Try.prog) W 24 34 none 0 c 0 0 Try.underlying24
    go_enter Try.func20, Try.ntmps20
    go_wp2
    go_ret
    exact retOwn_mk rfl (Own.nil _ _ _) (bl_refl _)
  | some ad =>
    have he := fun W => Lib.run_eql_slice_nil (P := Try.prog) W 24 34 (some ad) n c 0 0 Try.underlying24
    go_enter Try.func20, Try.ntmps20
    go_wp2_with ((at_builtin; refine wpList_appN rfl (.tmp 5) (.tmp 6) _ _ rfl el_skill rfl (Own.built w _ (Nat.le_refl _)) (bl_alloc (bl_refl _) _) rfl (hs.below (bl_alloc (bl_refl _) _)) (by omega) ?_; intro A2 c2 w2 ho2 hb2 hg2))
    go_ret
    exact retOwn_mk HL.out (by simpa using ho2) hb2

end Go.Proofs.Yticgenojelblnaa
