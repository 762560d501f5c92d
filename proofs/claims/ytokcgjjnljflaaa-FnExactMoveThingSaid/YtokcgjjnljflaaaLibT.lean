/-
  The library's generics over things. No conditions.
-/
import Derived.Test.YtokcgjjnljflaaaMem4
import Derived.Test.YtokcgjjnljflaaaThing
namespace Go.Proofs.Ytokcgjjnljflaaa
open Go.RowKit

def ThingVal (x : Thing) : Value := .agg #[.string x.Name, .int .i64 x.Count, .int .i64 x.Day]
theorem el_thing : Elem Try.prog 26 59 (Flat.sz Thing) := elem_mk Try.underlying26 (by kernel_rfl)
set_option maxHeartbeats 1000000 in
theorem indexFunc_thing (xs : List Thing) (A : Option Addr) (n c : Nat) (g : FuncId) (caps : Array Value) (p : Thing → Bool) (w : World) (hn : (n : Int) ≤ 9223372036854775807) (hs : Sl w A n xs) (hen : Enters Try.prog g) (F : List Nat) (hp : Pred Try.prog w F xs g ThingVal caps p) :
    Calls Try.prog 69 #[.slice A n c, .func (.func g) #[] caps] w fun e w' => e = .returned (.int .i64 (indexF p xs)) ∧ Below w.heap.size w w' := by
  have HL := Lib.hid hs.1
  have HP := Lib.hid hp
  clear hp
  have hcf : ∀ (args : Array Value) (W : World), (callFunc g args).run Try.prog W = .ok (.enter g args) W := hen
  clear hen
  go_enter Try.func69, Try.ntmps69
  go_wp2
  go_loopw [8] (fun i wr => ∃ k : Nat, k ≤ n ∧ i = .int .i64 k ∧ Below w.heap.size w wr ∧ Hid (∀ j, j < k → p (nth xs j) = false)) (fun i _ => n - (intOf i).toNat)
  case atStart => exact ⟨0, Nat.zero_le _, rfl, bl_refl _, fun j hj => absurd hj (by omega)⟩
  case round =>
    obtain ⟨k, hk, rfl, hb, hg⟩ := hrel
    by_cases hlt : k < n
    · obtain ⟨b, o, rfl, _, c0, c1, c2⟩ := (hs.below hb).thing hlt
      clear hs
      go_wp2_with fail
      refine (HP.out _ (nth xs k) (nth_mem (by rw [HL.out]; exact hlt)) (.below hb)).mono ?_
      rintro e V ⟨rfl, hV⟩
      have hbV := bl_trans hb hV
      clear c0 c1 c2
      cases hpk : p (nth xs k)
      · have hpk' := Lib.hid hpk
        clear hpk
        go_wp2
        go_roundw
        case rel => exact ⟨k + 1, by omega, by go_num, hbV, upto_succ hg hpk'.out⟩
        case measure => simp [intOf]; omega
      · have hpk' := Lib.hid hpk
        clear hpk
        go_wp2
        go_ret
        exact ⟨ret_i64 (indexF_hit (by rw [HL.out]; exact hlt) hpk'.out hg).symm, hbV⟩
    · obtain rfl : k = n := by omega
      go_wp2
      go_ret
      exact ⟨ret_i64 (indexF_none (by rw [HL.out]; exact hg)).symm, hb⟩
set_option maxHeartbeats 1000000 in
theorem clone_thing (xs : List Thing) (A : Option Addr) (n c : Nat) (w : World) (hn : n ≤ 1048576) (hs : Sl w A n xs) :
    Calls Try.prog 68 #[.slice A n c] w (RetOwn w 59 xs) := by
  have HL := Lib.hid hs.1
  cases A with
  | none =>
    obtain ⟨rfl, rfl⟩ := hs.none_len
    have he := fun W => Lib.run_eql_slice_nil (P := Try.prog) W 26 59 none 0 c 0 0 Try.underlying26
    go_enter Try.func68, Try.ntmps68
    go_wp2
    go_ret
    exact retOwn_mk rfl (Own.nil _ _ _) (bl_refl _)
  | some ad =>
    have he := fun W => Lib.run_eql_slice_nil (P := Try.prog) W 26 59 (some ad) n c 0 0 Try.underlying26
    go_enter Try.func68, Try.ntmps68
    go_wp2_with ((at_builtin; refine wpList_appN rfl (.tmp 5) (.tmp 6) _ _ rfl el_thing rfl (Own.built w _ (Nat.le_refl _)) (bl_alloc (bl_refl _) _) rfl (hs.below (bl_alloc (bl_refl _) _)) (by omega) ?_; intro A2 c2 w2 ho2 hb2 hg2))
    go_ret
    exact retOwn_mk HL.out (by simpa using ho2) hb2

end Go.Proofs.Ytokcgjjnljflaaa
