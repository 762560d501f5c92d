/-
  The library's generics over entries. No conditions.
-/
import Derived.Test.YtfglmghcgoembaaGreatDoorHx8
import Derived.Test.YtfglmghcgoembaaGreatDoorHx1
namespace Go.Proofs.YtfglmghcgoembaaGreatDoor
open Go.RowKit

def EntryVal (x : Entry) : Value := .agg #[.int .i64 x.Room, .int .i64 x.Number, .int .i64 x.Minute, .string x.Text]
theorem ez_entry : ElemZ Tryz.prog 24 40 (default : Entry) := elemZ_mk Tryz.underlying24 (by kernel_rfl)
theorem el_entry : Elem Tryz.prog 24 40 (Flat.sz Entry) := ez_entry.elem
set_option maxHeartbeats 1000000 in
theorem indexFunc_entry (xs : List Entry) (A : Option Addr) (n c : Nat) (g : FuncId) (caps : Array Value) (p : Entry → Bool) (w : World) (hn : (n : Int) ≤ 9223372036854775807) (hs : Sl w A n xs) (hen : Enters Tryz.prog g) (F : List Nat) (hp : Pred Tryz.prog w F xs g EntryVal caps p) :
    Calls Tryz.prog 45 #[.slice A n c, .func (.func g) #[] caps] w fun e w' => e = .returned (.int .i64 (indexF p xs)) ∧ Below w.heap.size w w' := by
  have HL := Lib.hid hs.1
  have HP := Lib.hid hp
  clear hp
  have hcf : ∀ (args : Array Value) (W : World), (callFunc g args).run Tryz.prog W = .ok (.enter g args) W := hen
  clear hen
  go_enter Tryz.func45, Tryz.ntmps45
  go_wp2
  go_loopw [8] (fun i wr => ∃ k : Nat, k ≤ n ∧ i = .int .i64 k ∧ Below w.heap.size w wr ∧ Hid (∀ j, j < k → p (nth xs j) = false)) (fun i _ => n - (intOf i).toNat)
  case atStart => exact ⟨0, Nat.zero_le _, rfl, bl_refl _, fun j hj => absurd hj (by omega)⟩
  case round =>
    obtain ⟨k, hk, rfl, hb, hg⟩ := hrel
    by_cases hlt : k < n
    · obtain ⟨b, o, rfl, _, c0, c1, c2, c3⟩ := (hs.below hb).entry hlt
      clear hs
      go_wp2_with fail
      refine (HP.out _ (nth xs k) (nth_mem (by rw [HL.out]; exact hlt)) (.below hb)).mono ?_
      rintro e V ⟨rfl, hV⟩
      have hbV := bl_trans hb hV
      clear c0 c1 c2 c3
      cases hpk : p (nth xs k)
      · have hpk' := Lib.hid hpk
        clear hpk
        go_wp2
        go_roundw
        case rel => exact ⟨k + 1, by omega, by go_num, hbV, upto_succ hg hpk'.out⟩
        case measure => simp [intOf]; omega
      · have hpk' := Lib.hid hpk
        clear hpk
        go_wp2
        go_ret
        exact ⟨ret_i64 (indexF_hit (by rw [HL.out]; exact hlt) hpk'.out hg).symm, hbV⟩
    · obtain rfl : k = n := by omega
      go_wp2
      go_ret
      exact ⟨ret_i64 (indexF_none (by rw [HL.out]; exact hg)).symm, hb⟩
set_option maxHeartbeats 1000000 in
theorem clone_entry (xs : List Entry) (A : Option Addr) (n c : Nat) (w : World) (hn : n ≤ 1048576) (hs : Sl w A n xs) :
    Calls Tryz.prog 35 #[.slice A n c] w (RetOwn w 40 xs) := by
  have HL := Lib.hid hs.1
  cases A with
  | none =>
    obtain ⟨rfl, rfl⟩ := hs.none_len
    have he := fun W => Lib.run_eql_slice_nil (P := Tryz.prog) W 24 40 none 0 c 0 0 Tryz.underlying24
    go_enter Tryz.func35, Tryz.ntmps35
    go_wp2
    go_ret
    exact retOwn_mk rfl (Own.nil _ _ _) (bl_refl _)
  | some ad =>
    have he := fun W => Lib.run_eql_slice_nil (P := Tryz.prog) W 24 40 (some ad) n c 0 0 Tryz.underlying24
    go_enter Tryz.func35, Tryz.ntmps35
    go_wp2_with ((at_builtin; refine wpList_appN rfl (.tmp 5) (.tmp 6) _ _ rfl el_entry rfl (Own.built w _ (Nat.le_refl _)) (bl_alloc (bl_refl _) _) rfl (hs.below (bl_alloc (bl_refl _) _)) (by omega) ?_; intro A2 c2 w2 ho2 hb2 hg2))
    go_ret
    exact retOwn_mk HL.out (by simpa using ho2) hb2
/-- A call hands back the first n cells' worth of the slice that it was given. -/
def RetPreEntry (w : World) (base : Nat) (A : Option Addr) (n c : Nat) (ys : List Entry) (e : Ending) (w' : World) : Prop :=
  ∃ m, e = .returned (.slice A m c) ∧ Own w' base 40 (.slice A m c) ys ∧ m ≤ n ∧ OnlyF (Value.ownBlock (.slice A n c)).toList w w'
set_option maxRecDepth 100000 in
set_option maxHeartbeats 2000000 in
theorem deleteFunc_entry (xs : List Entry) (A : Option Addr) (n c base : Nat) (g : FuncId) (caps : Array Value) (p : Entry → Bool) (w : World) (hn : n ≤ 1048576) (ho : Own w base 40 (.slice A n c) xs) (hen : Enters Tryz.prog g)
    (hp : Pred Tryz.prog w (Value.ownBlock (.slice A n c)).toList xs g EntryVal caps p) :
    Calls Tryz.prog 34 #[.slice A n c, .func (.func g) #[] caps] w (RetPreEntry w base A n c (xs.filter (fun x => !p x))) := by
  have HL := Lib.hid ho.sl.1
  obtain ⟨hcap, hcm⟩ := ho.cap
  unfold maxLen at hcm
  by_cases hm : indexF p xs = -1
  · have HM := Lib.hid hm
    clear hm
    go_enter Tryz.func34, Tryz.ntmps34
    go_wp2_with fail
    refine (indexFunc_entry xs _ _ _ _ _ _ _ (by omega) ho.sl hen _ hp).mono ?_
    rintro e V ⟨rfl, hV⟩
    rw [HM.out]
    go_wp2
    go_ret
    exact ⟨n, rfl, by rw [indexF_none_filter HM.out]; exact ho.below hV, Nat.le_refl _, .below hV⟩
  have hr := indexF_range p xs
  obtain ⟨k, hk⟩ : ∃ k : Nat, indexF p xs = k := ⟨(indexF p xs).toNat, by omega⟩
  have hkn : k < n := by have := HL.out; omega
  have HK := Lib.hid hk
  have hd : ((k : Int) == -1) = false := by simp
  clear hm hr hk
  obtain ⟨gb, rfl⟩ := ho.form (by omega)
  have HP := Lib.hid hp
  have HE := Lib.hid hen
  clear hp
  go_enter Tryz.func34, Tryz.ntmps34
  go_wp2_with fail
  refine (indexFunc_entry xs _ _ _ _ _ _ _ (by omega) ho.sl hen _ HP.out).mono ?_
  rintro e V ⟨rfl, hV⟩
  rw [HK.out]
  clear hen
  have hoV := ho.below hV
  have hcf : ∀ (args : Array Value) (W : World), (callFunc g args).run Tryz.prog W = .ok (.enter g args) W := HE.out
  go_wp2
  go_loopw [5, 6] (fun u v wr => ∃ (i j : Nat) (L : List Entry), i < j ∧ j ≤ n ∧ u = .int .i64 i ∧ v = .int .i64 j ∧ Own wr base 40 (.slice (some ⟨gb, 0, none⟩) n c) L ∧ Hid (L.take i = (xs.take j).filter (fun x => !p x)) ∧ Hid (L.drop j = xs.drop j) ∧ OnlyF (Value.ownBlock (.slice (some ⟨gb, 0, none⟩) n c)).toList w wr) (fun _ v _ => n - (intOf v).toNat)
  case atStart => exact ⟨k, k + 1, xs, by omega, by omega, rfl, by go_num, hoV, filt_start HK.out, rfl, .below hV⟩
  case round =>
    obtain ⟨i, j, L, hij, hjn, rfl, rfl, hoL, hf, hdr, hof⟩ := hrel
    have HLL := Lib.hid hoL.sl.1
    by_cases hlt : j < n
    · have en : nth L j = nth xs j := nth_of_drop HL.out HLL.out hlt hdr.out
      have c0 : wr.cell? ⟨gb, j * 4, none⟩ = some (.int .i64 (nth L j).Room) := hoL.cellAt hlt 0 _ rfl
      have c1 : wr.cell? ⟨gb, j * 4 + 1, none⟩ = some (.int .i64 (nth L j).Number) := hoL.cellAt hlt 1 _ rfl
      have c2 : wr.cell? ⟨gb, j * 4 + 2, none⟩ = some (.int .i64 (nth L j).Minute) := hoL.cellAt hlt 2 _ rfl
      have c3 : wr.cell? ⟨gb, j * 4 + 3, none⟩ = some (.string (nth L j).Text) := hoL.cellAt hlt 3 _ rfl
      rw [en] at c0 c1 c2 c3
      have hgz : gb < wr.heap.size := World.block_lt_of_cell? wr _ c0
      clear en ho hoV
      go_wp2_with fail
      refine (HP.out _ (nth xs j) (nth_mem (by rw [HL.out]; exact hlt)) (hof.trans (.below (bl_alloc (bl_refl _) _)))).mono ?_
      rintro e V2 ⟨rfl, hV2⟩
      have hof2 := hof.trans (.below (bl_trans (bl_alloc (bl_refl _) _) hV2))
      have hoL2 := (hoL.alloc (.cells #[.int .i64 (nth xs j).Room, .int .i64 (nth xs j).Number, .int .i64 (nth xs j).Minute, .string (nth xs j).Text] 40)).below hV2
      have b0 : V2.cell? ⟨wr.heap.size, 0, none⟩ = some (.int .i64 (nth xs j).Room) := cell_later hV2 (by go_simp)
      have b1 : V2.cell? ⟨wr.heap.size, 1, none⟩ = some (.int .i64 (nth xs j).Number) := cell_later hV2 (by go_simp)
      have b2 : V2.cell? ⟨wr.heap.size, 2, none⟩ = some (.int .i64 (nth xs j).Minute) := cell_later hV2 (by go_simp)
      have b3 : V2.cell? ⟨wr.heap.size, 3, none⟩ = some (.string (nth xs j).Text) := cell_later hV2 (by go_simp)
      clear hV2 hoL c0 c1 c2 c3
      cases hpj : p (nth xs j)
      · have hpj' := Lib.hid hpj
        clear hpj
        have d0 : V2.cell? ⟨gb, i * 4, none⟩ = some (.int .i64 (nth L i).Room) := hoL2.cellAt (by omega : i < n) 0 _ rfl
        have f0 := hoL2.frozenAt (i * 4)
        have d1 : V2.cell? ⟨gb, i * 4 + 1, none⟩ = some (.int .i64 (nth L i).Number) := hoL2.cellAt (by omega : i < n) 1 _ rfl
        have f1 := hoL2.frozenAt (i * 4 + 1)
        have d2 : V2.cell? ⟨gb, i * 4 + 2, none⟩ = some (.int .i64 (nth L i).Minute) := hoL2.cellAt (by omega : i < n) 2 _ rfl
        have f2 := hoL2.frozenAt (i * 4 + 2)
        have d3 : V2.cell? ⟨gb, i * 4 + 3, none⟩ = some (.string (nth L i).Text) := hoL2.cellAt (by omega : i < n) 3 _ rfl
        have f3 := hoL2.frozenAt (i * 4 + 3)
        go_wp2
        go_roundw
        case rel =>
          refine ⟨i + 1, j + 1, L.set i (nth xs j), by omega, by omega, by go_num, by go_num, hoL2.put (by omega) (nth xs j), filt_keep HL.out HLL.out hij hlt hf.out hpj'.out, by rw [Hid, drop_set_lt (by omega)]; exact drop_more hdr.out, hof2.trans (OnlyF.of_gb (v := .slice (some ⟨gb, 0, none⟩) n c) ?_)⟩
          repeat' (first | exact gb_refl _ _ | refine gb_set ?_ _ _)
        case measure => simp [intOf]; omega
      · have hpj' := Lib.hid hpj
        clear hpj
        go_wp2
        go_roundw
        case rel => exact ⟨i, j + 1, L, by omega, by omega, by go_num, by go_num, hoL2, by rw [Hid, filt_drop HL.out hlt hpj'.out]; exact hf.out, drop_more hdr.out, hof2⟩
        case measure => simp [intOf]; omega
    · obtain rfl : j = n := by omega
      have hfin : Hid (L.take i = xs.filter (fun x => !p x)) := by rw [Hid, hf.out, List.take_of_length_le (by rw [HL.out]; exact Nat.le_refl _)]
      have hci : ¬ c = i := by omega
      have hic : i ≤ c := by omega
      clear hoV ho
      obtain ⟨w3, hrun, ho3, hg3⟩ := run_clear_own 24 40 ez_entry hoL hij
      have hrun : ∀ ty, (Builtin.clear_ #[24] ty #[.slice (some ⟨gb, i * 4, none⟩) (j - i) (c - i)]).run Tryz.prog wr = .ok (.tuple #[]) w3 := hrun
      go_wp2
      go_ret
      exact ⟨i, rfl, by rw [← hfin.out]; exact ho3, by omega, hof.trans (OnlyF.of_gb (v := .slice (some ⟨gb, 0, none⟩) j c) hg3)⟩
end Go.Proofs.YtfglmghcgoembaaGreatDoor
