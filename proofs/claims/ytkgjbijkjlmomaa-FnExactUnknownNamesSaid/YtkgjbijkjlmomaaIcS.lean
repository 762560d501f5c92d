/-
  The library's generics over strings. No conditions.
-/
import Derived.Test.YtkgjbijkjlmomaaIcC
namespace Go.Proofs.Ytkgjbijkjlmomaa
open Go.RowKit

theorem ez_str : ElemZ Try.prog 41 9 (default : ByteArray) := elemZ_mk Try.underlying41 (by kernel_rfl)
set_option maxHeartbeats 1000000 in
theorem indexFunc_str (xs : List ByteArray) (A : Option Addr) (n c : Nat) (g : FuncId) (caps : Array Value) (p : ByteArray → Bool) (w : World) (hn : (n : Int) ≤ 9223372036854775807) (hs : Sl w A n xs) (hen : Enters Try.prog g) (F : List Nat) (hp : Pred Try.prog w F xs g (fun x : ByteArray => Value.string x) caps p) :
    Calls Try.prog 92 #[.slice A n c, .func (.func g) #[] caps] w fun e w' => e = .returned (.int .i64 (indexF p xs)) ∧ Below w.heap.size w w' := by
  have HL := Lib.hid hs.1
  have HP := Lib.hid hp
  clear hp
  have hcf : ∀ (args : Array Value) (W : World), (callFunc g args).run Try.prog W = .ok (.enter g args) W := hen
  clear hen
  go_enter Try.func92, Try.ntmps92
  go_wp2
  go_loopw [8] (fun i wr => ∃ k : Nat, k ≤ n ∧ i = .int .i64 k ∧ Below w.heap.size w wr ∧ Hid (∀ j, j < k → p (nth xs j) = false)) (fun i _ => n - (intOf i).toNat)
  case atStart => exact ⟨0, Nat.zero_le _, rfl, bl_refl _, fun j hj => absurd hj (by omega)⟩
  case round =>
    obtain ⟨k, hk, rfl, hb, hg⟩ := hrel
    by_cases hlt : k < n
    · obtain ⟨b, o, rfl, _, c0⟩ := (hs.below hb).str hlt
      clear hs
      go_wp2_with fail
      refine (HP.out _ (nth xs k) (nth_mem (by rw [HL.out]; exact hlt)) (.below hb)).mono ?_
      rintro e V ⟨rfl, hV⟩
      have hbV := bl_trans hb hV
      clear c0
      cases hpk : p (nth xs k)
      · have hpk' := Lib.hid hpk
        clear hpk
        go_wp2
        go_roundw
        case rel => exact ⟨k + 1, by omega, by go_num, hbV, upto_succ hg hpk'.out⟩
        case measure => simp [intOf]; omega
      · have hpk' := Lib.hid hpk
        clear hpk
        go_wp2
        go_ret
        exact ⟨ret_i64 (indexF_hit (by rw [HL.out]; exact hlt) hpk'.out hg).symm, hbV⟩
    · obtain rfl : k = n := by omega
      go_wp2
      go_ret
      exact ⟨ret_i64 (indexF_none (by rw [HL.out]; exact hg)).symm, hb⟩
/-- A call hands back the first n cells' worth of the slice that it was given. -/
def RetPreByteArray (w : World) (base : Nat) (A : Option Addr) (n c : Nat) (ys : List ByteArray) (e : Ending) (w' : World) : Prop :=
  ∃ m, e = .returned (.slice A m c) ∧ Own w' base 9 (.slice A m c) ys ∧ m ≤ n ∧ OnlyF (Value.ownBlock (.slice A n c)).toList w w'
set_option maxRecDepth 100000 in
set_option maxHeartbeats 2000000 in
theorem deleteFunc_str (xs : List ByteArray) (A : Option Addr) (n c base : Nat) (g : FuncId) (caps : Array Value) (p : ByteArray → Bool) (w : World) (hn : n ≤ 1048576) (ho : Own w base 9 (.slice A n c) xs) (hen : Enters Try.prog g)
    (hp : Pred Try.prog w (Value.ownBlock (.slice A n c)).toList xs g (fun x : ByteArray => Value.string x) caps p) :
    Calls Try.prog 80 #[.slice A n c, .func (.func g) #[] caps] w (RetPreByteArray w base A n c (xs.filter (fun x => !p x))) := by
  have HL := Lib.hid ho.sl.1
  obtain ⟨hcap, hcm⟩ := ho.cap
  unfold maxLen at hcm
  by_cases hm : indexF p xs = -1
  · have HM := Lib.hid hm
    clear hm
    go_enter Try.func80, Try.ntmps80
    go_wp2_with fail
    refine (indexFunc_str xs _ _ _ _ _ _ _ (by omega) ho.sl hen _ hp).mono ?_
    rintro e V ⟨rfl, hV⟩
    rw [HM.out]
    go_wp2
    go_ret
    exact ⟨n, rfl, by rw [indexF_none_filter HM.out]; exact ho.below hV, Nat.le_refl _, .below hV⟩
  have hr := indexF_range p xs
  obtain ⟨k, hk⟩ : ∃ k : Nat, indexF p xs = k := ⟨(indexF p xs).toNat, by omega⟩
  have hkn : k < n := by have := HL.out; omega
  have HK := Lib.hid hk
  have hd : ((k : Int) == -1) = false := by simp
  clear hm hr hk
  obtain ⟨gb, rfl⟩ := ho.form (by omega)
  have HP := Lib.hid hp
  have HE := Lib.hid hen
  clear hp
  go_enter Try.func80, Try.ntmps80
  go_wp2_with fail
  refine (indexFunc_str xs _ _ _ _ _ _ _ (by omega) ho.sl hen _ HP.out).mono ?_
  rintro e V ⟨rfl, hV⟩
  rw [HK.out]
  clear hen
  have hoV := ho.below hV
  have hcf : ∀ (args : Array Value) (W : World), (callFunc g args).run Try.prog W = .ok (.enter g args) W := HE.out
  go_wp2
  go_loopw [5, 6] (fun u v wr => ∃ (i j : Nat) (L : List ByteArray), i < j ∧ j ≤ n ∧ u = .int .i64 i ∧ v = .int .i64 j ∧ Own wr base 9 (.slice (some ⟨gb, 0, none⟩) n c) L ∧ Hid (L.take i = (xs.take j).filter (fun x => !p x)) ∧ Hid (L.drop j = xs.drop j) ∧ OnlyF (Value.ownBlock (.slice (some ⟨gb, 0, none⟩) n c)).toList w wr) (fun _ v _ => n - (intOf v).toNat)
  case atStart => exact ⟨k, k + 1, xs, by omega, by omega, rfl, by go_num, hoV, filt_start HK.out, rfl, .below hV⟩
  case round =>
    obtain ⟨i, j, L, hij, hjn, rfl, rfl, hoL, hf, hdr, hof⟩ := hrel
    have HLL := Lib.hid hoL.sl.1
    by_cases hlt : j < n
    · have en : nth L j = nth xs j := nth_of_drop HL.out HLL.out hlt hdr.out
      have c0 : wr.cell? ⟨gb, j, none⟩ = some (.string (nth L j)) := hoL.str hlt
      rw [en] at c0
      have hgz : gb < wr.heap.size := World.block_lt_of_cell? wr _ c0
      clear en ho hoV
      go_wp2_with fail
      refine (HP.out _ (nth xs j) (nth_mem (by rw [HL.out]; exact hlt)) hof).mono ?_
      rintro e V2 ⟨rfl, hV2⟩
      have hof2 := hof.trans (.below hV2)
      have hoL2 := hoL.below hV2
      clear hV2 hoL c0
      cases hpj : p (nth xs j)
      · have hpj' := Lib.hid hpj
        clear hpj
        have d0 : V2.cell? ⟨gb, i, none⟩ = some (.string (nth L i)) := hoL2.str (by omega : i < n)
        have f0 := hoL2.frozenAt (i)
        go_wp2
        go_roundw
        case rel =>
          refine ⟨i + 1, j + 1, L.set i (nth xs j), by omega, by omega, by go_num, by go_num, hoL2.putstr (by omega) (nth xs j), filt_keep HL.out HLL.out hij hlt hf.out hpj'.out, by rw [Hid, drop_set_lt (by omega)]; exact drop_more hdr.out, hof2.trans (OnlyF.of_gb (v := .slice (some ⟨gb, 0, none⟩) n c) ?_)⟩
          repeat' (first | exact gb_refl _ _ | refine gb_set ?_ _ _)
        case measure => simp [intOf]; omega
      · have hpj' := Lib.hid hpj
        clear hpj
        go_wp2
        go_roundw
        case rel => exact ⟨i, j + 1, L, by omega, by omega, by go_num, by go_num, hoL2, by rw [Hid, filt_drop HL.out hlt hpj'.out]; exact hf.out, drop_more hdr.out, hof2⟩
        case measure => simp [intOf]; omega
    · obtain rfl : j = n := by omega
      have hfin : Hid (L.take i = xs.filter (fun x => !p x)) := by rw [Hid, hf.out, List.take_of_length_le (by rw [HL.out]; exact Nat.le_refl _)]
      have hci : ¬ c = i := by omega
      have hic : i ≤ c := by omega
      clear hoV ho
      obtain ⟨w3, hrun, ho3, hg3⟩ := run_clear_own 41 9 ez_str hoL hij
      have hrun : ∀ ty, (Builtin.clear_ #[41] ty #[.slice (some ⟨gb, i, none⟩) (j - i) (c - i)]).run Try.prog wr = .ok (.tuple #[]) w3 := fun ty => by have h := hrun ty; have e : i * Flat.sz ByteArray = i := Nat.mul_one i; rw [e] at h; exact h
      go_wp2
      go_ret
      exact ⟨i, rfl, by rw [← hfin.out]; exact ho3, by omega, hof.trans (OnlyF.of_gb (v := .slice (some ⟨gb, 0, none⟩) j c) hg3)⟩

end Go.Proofs.Ytkgjbijkjlmomaa
