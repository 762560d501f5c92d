/-
  Several texts in one. No conditions.
-/
import Derived.Test.YtnaadihbkiakeaaIcC
import Derived.Test.YtnaadihbkiakeaaIcP
import Derived.Test.YtnaadihbkiakeaaIncM
import Derived.Test.YtnaadihbkiakeaaIncU
import Derived.Test.YtnaadihbkiakeaaMem6
import Derived.Laws.IdiomCopy
import Derived.Test.YtnaadihbkiakeaaMem7
import Derived.Test.YtnaadihbkiakeaaMem4
import Derived.Laws.CopyRow
import Derived.Lib.AppendZerosOnto
import Derived.Lib.Overlaps
import Derived.Laws.Externs
import Derived.Test.YtnaadihbkiakeaaLays
import Derived.Test.YtnaadihbkiakeaaCmp
import Derived.Test.YtnaadihbkiakeaaBytes
import Derived.Shelf.Spec.SearchS
import Derived.Test.YtnaadihbkiakeaaIcLen
import Derived.StillTailTactics
namespace Go.Proofs.Ytnaadihbkiakeaa
open Go.RowKit

theorem ez_str : ElemZ Try.prog 47 9 (default : ByteArray) := elemZ_mk Try.underlying47 (by kernel_rfl)
set_option maxHeartbeats 1000000 in
theorem indexFunc_str (xs : List ByteArray) (A : Option Addr) (n c : Nat) (g : FuncId) (caps : Array Value) (p : ByteArray → Bool) (w : World) (hn : (n : Int) ≤ 9223372036854775807) (hs : Sl w A n xs) (hen : Enters Try.prog g) (F : List Nat) (hp : Pred Try.prog w F xs g (fun x : ByteArray => Value.string x) caps p) :
    Calls Try.prog 149 #[.slice A n c, .func (.func g) #[] caps] w fun e w' => e = .returned (.int .i64 (indexF p xs)) ∧ Below w.heap.size w w' := by
  have HL := Lib.hid hs.1
  have HP := Lib.hid hp
  clear hp
  have hcf : ∀ (args : Array Value) (W : World), (callFunc g args).run Try.prog W = .ok (.enter g args) W := hen
  clear hen
  go_enter Try.func149, Try.ntmps149
  go_wp2
  go_loopw [8] (fun i wr => ∃ k : Nat, k ≤ n ∧ i = .int .i64 k ∧ Below w.heap.size w wr ∧ Hid (∀ j, j < k → p (nth xs j) = false)) (fun i _ => n - (intOf i).toNat)
  case atStart => exact ⟨0, Nat.zero_le _, rfl, bl_refl _, fun j hj => absurd hj (by omega)⟩
  case round =>
    obtain ⟨k, hk, rfl, hb, hg⟩ := hrel
    by_cases hlt : k < n
    · obtain ⟨b, o, rfl, _, c0⟩ := (hs.below hb).str hlt
      clear hs
      go_wp2_with fail
      refine (HP.out _ (nth xs k) (nth_mem (by rw [HL.out]; exact hlt)) (.below hb)).mono ?_
      rintro e V ⟨rfl, hV⟩
      have hbV := bl_trans hb hV
      clear c0
      cases hpk : p (nth xs k)
      · have hpk' := Lib.hid hpk
        clear hpk
        go_wp2
        go_roundw
        case rel => exact ⟨k + 1, by omega, by go_num, hbV, upto_succ hg hpk'.out⟩
        case measure => simp [intOf]; omega
      · have hpk' := Lib.hid hpk
        clear hpk
        go_wp2
        go_ret
        exact ⟨ret_i64 (indexF_hit (by rw [HL.out]; exact hlt) hpk'.out hg).symm, hbV⟩
    · obtain rfl : k = n := by omega
      go_wp2
      go_ret
      exact ⟨ret_i64 (indexF_none (by rw [HL.out]; exact hg)).symm, hb⟩
/-- A call hands back the first n cells' worth of the slice that it was given. -/
def RetPreByteArray (w : World) (base : Nat) (A : Option Addr) (n c : Nat) (ys : List ByteArray) (e : Ending) (w' : World) : Prop :=
  ∃ m, e = .returned (.slice A m c) ∧ Own w' base 9 (.slice A m c) ys ∧ m ≤ n ∧ OnlyF (Value.ownBlock (.slice A n c)).toList w w'
set_option maxRecDepth 100000 in
set_option maxHeartbeats 2000000 in
theorem deleteFunc_str (xs : List ByteArray) (A : Option Addr) (n c base : Nat) (g : FuncId) (caps : Array Value) (p : ByteArray → Bool) (w : World) (hn : n ≤ 1048576) (ho : Own w base 9 (.slice A n c) xs) (hen : Enters Try.prog g)
    (hp : Pred Try.prog w (Value.ownBlock (.slice A n c)).toList xs g (fun x : ByteArray => Value.string x) caps p) :
    Calls Try.prog 135 #[.slice A n c, .func (.func g) #[] caps] w (RetPreByteArray w base A n c (xs.filter (fun x => !p x))) := by
  have HL := Lib.hid ho.sl.1
  obtain ⟨hcap, hcm⟩ := ho.cap
  unfold maxLen at hcm
  by_cases hm : indexF p xs = -1
  · have HM := Lib.hid hm
    clear hm
    go_enter Try.func135, Try.ntmps135
    go_wp2_with fail
    refine (indexFunc_str xs _ _ _ _ _ _ _ (by omega) ho.sl hen _ hp).mono ?_
    rintro e V ⟨rfl, hV⟩
    rw [HM.out]
    go_wp2
    go_ret
    exact ⟨n, rfl, by rw [indexF_none_filter HM.out]; exact ho.below hV, Nat.le_refl _, .below hV⟩
  have hr := indexF_range p xs
  obtain ⟨k, hk⟩ : ∃ k : Nat, indexF p xs = k := ⟨(indexF p xs).toNat, by omega⟩
  have hkn : k < n := by have := HL.out; omega
  have HK := Lib.hid hk
  have hd : ((k : Int) == -1) = false := by simp
  clear hm hr hk
  obtain ⟨gb, rfl⟩ := ho.form (by omega)
  have HP := Lib.hid hp
  have HE := Lib.hid hen
  clear hp
  go_enter Try.func135, Try.ntmps135
  go_wp2_with fail
  refine (indexFunc_str xs _ _ _ _ _ _ _ (by omega) ho.sl hen _ HP.out).mono ?_
  rintro e V ⟨rfl, hV⟩
  rw [HK.out]
  clear hen
  have hoV := ho.below hV
  have hcf : ∀ (args : Array Value) (W : World), (callFunc g args).run Try.prog W = .ok (.enter g args) W := HE.out
  go_wp2
  go_loopw [5, 6] (fun u v wr => ∃ (i j : Nat) (L : List ByteArray), i < j ∧ j ≤ n ∧ u = .int .i64 i ∧ v = .int .i64 j ∧ Own wr base 9 (.slice (some ⟨gb, 0, none⟩) n c) L ∧ Hid (L.take i = (xs.take j).filter (fun x => !p x)) ∧ Hid (L.drop j = xs.drop j) ∧ OnlyF (Value.ownBlock (.slice (some ⟨gb, 0, none⟩) n c)).toList w wr) (fun _ v _ => n - (intOf v).toNat)
  case atStart => exact ⟨k, k + 1, xs, by omega, by omega, rfl, by go_num, hoV, filt_start HK.out, rfl, .below hV⟩
  case round =>
    obtain ⟨i, j, L, hij, hjn, rfl, rfl, hoL, hf, hdr, hof⟩ := hrel
    have HLL := Lib.hid hoL.sl.1
    by_cases hlt : j < n
    · have en : nth L j = nth xs j := nth_of_drop HL.out HLL.out hlt hdr.out
      have c0 : wr.cell? ⟨gb, j, none⟩ = some (.string (nth L j)) := hoL.str hlt
      rw [en] at c0
      have hgz : gb < wr.heap.size := World.block_lt_of_cell? wr _ c0
      clear en ho hoV
      go_wp2_with fail
      refine (HP.out _ (nth xs j) (nth_mem (by rw [HL.out]; exact hlt)) hof).mono ?_
      rintro e V2 ⟨rfl, hV2⟩
      have hof2 := hof.trans (.below hV2)
      have hoL2 := hoL.below hV2
      clear hV2 hoL c0
      cases hpj : p (nth xs j)
      · have hpj' := Lib.hid hpj
        clear hpj
        have d0 : V2.cell? ⟨gb, i, none⟩ = some (.string (nth L i)) := hoL2.str (by omega : i < n)
        have f0 := hoL2.frozenAt (i)
        go_wp2
        go_roundw
        case rel =>
          refine ⟨i + 1, j + 1, L.set i (nth xs j), by omega, by omega, by go_num, by go_num, hoL2.putstr (by omega) (nth xs j), filt_keep HL.out HLL.out hij hlt hf.out hpj'.out, by rw [Hid, drop_set_lt (by omega)]; exact drop_more hdr.out, hof2.trans (OnlyF.of_gb (v := .slice (some ⟨gb, 0, none⟩) n c) ?_)⟩
          repeat' (first | exact gb_refl _ _ | refine gb_set ?_ _ _)
        case measure => simp [intOf]; omega
      · have hpj' := Lib.hid hpj
        clear hpj
        go_wp2
        go_roundw
        case rel => exact ⟨i, j + 1, L, by omega, by omega, by go_num, by go_num, hoL2, by rw [Hid, filt_drop HL.out hlt hpj'.out]; exact hf.out, drop_more hdr.out, hof2⟩
        case measure => simp [intOf]; omega
    · obtain rfl : j = n := by omega
      have hfin : Hid (L.take i = xs.filter (fun x => !p x)) := by rw [Hid, hf.out, List.take_of_length_le (by rw [HL.out]; exact Nat.le_refl _)]
      have hci : ¬ c = i := by omega
      have hic : i ≤ c := by omega
      clear hoV ho
      obtain ⟨w3, hrun, ho3, hg3⟩ := run_clear_own 47 9 ez_str hoL hij
      have hrun : ∀ ty, (Builtin.clear_ #[47] ty #[.slice (some ⟨gb, i, none⟩) (j - i) (c - i)]).run Try.prog wr = .ok (.tuple #[]) w3 := fun ty => by have h := hrun ty; have e : i * Flat.sz ByteArray = i := Nat.mul_one i; rw [e] at h; exact h
      go_wp2
      go_ret
      exact ⟨i, rfl, by rw [← hfin.out]; exact ho3, by omega, hof.trans (OnlyF.of_gb (v := .slice (some ⟨gb, 0, none⟩) j c) hg3)⟩

end Go.Proofs.Ytnaadihbkiakeaa

namespace Go.Proofs.Ytnaadihbkiakeaa
open Go.RowKit

set_option maxHeartbeats 1000000 in
theorem ixFind_any (xs : List Incident) (number : Int) (A : Option Addr) (n c : Nat) (w : World) (hn : (n : Int) ≤ 9223372036854775807) (hs : Sl w A n xs) :
    Calls Try.prog 104 #[.slice A n c, .int .i64 number] w fun e w' => e = .returned (.int .i64 (openI xs number)) ∧ Below w.heap.size w w' := by
  have HL := Lib.hid hs.1
  go_enter Try.func104, Try.ntmps104
  go_wp2
  go_loopw [9] (fun i wr => ∃ k : Nat, k ≤ n ∧ i = .int .i64 k ∧ Below w.heap.size w wr ∧ Hid (∀ j, j < k → isO number (nth xs j) = false)) (fun i _ => n - (intOf i).toNat)
  case atStart => exact ⟨0, Nat.zero_le _, rfl, bl_refl _, fun j hj => absurd hj (by omega)⟩
  case round =>
    obtain ⟨k, hk, rfl, hb, hg⟩ := hrel
    by_cases hlt : k < n
    · obtain ⟨b, o, A', c', rfl, _, c0, c1, c2, c3, hi, hil⟩ := (hs.below hb).incident hlt
      have hkx : Hid (k < xs.length) := by rw [Hid, HL.out]; exact hlt
      clear hs hil hi
      by_cases h0 : ((nth xs k).Number == number) = true
      · cases h1 : (nth xs k).Closed
        · have q : Hid (isO number (nth xs k) = true) := by rw [Hid, isO, h0, h1]; rfl
          rw [h1] at c2
          clear h1
          go_wp2
          go_ret
          exact ⟨ret_i64 (indexF_hit hkx.out q.out hg.out).symm, bl_alloc hb _⟩
        · have q : Hid (isO number (nth xs k) = false) := by rw [Hid, isO, h1]; simp
          rw [h1] at c2
          clear h1
          go_wp2
          go_roundw
          case rel => exact ⟨k + 1, by omega, by go_num, bl_alloc hb _, upto_succ hg q.out⟩
          case measure => simp [intOf]; omega
      · have h0 : ((nth xs k).Number == number) = false := by simpa using h0
        have q : Hid (isO number (nth xs k) = false) := by rw [Hid, isO, h0]; rfl
        go_wp2
        go_roundw
        case rel => exact ⟨k + 1, by omega, by go_num, bl_alloc hb _, upto_succ hg q.out⟩
        case measure => simp [intOf]; omega
    · obtain rfl : k = n := by omega
      go_wp2
      go_ret
      exact ⟨ret_i64 (indexF_none (by rw [HL.out]; exact hg.out)).symm, hb⟩
theorem enters_oA : Enters Try.prog 127 := enters_of Try.func127 (by kernel_rfl) (by kernel_rfl)
theorem pred_oA (w : World) (B : Nat) (number : Int) (ha : w.cell? ⟨B, 0, none⟩ = some (.int .i64 number)) (xs : List Incident) : PredIncident Try.prog w xs 127 #[.pointer (some ⟨B, 0, none⟩)] (isO number) := by
  intro W x A' c' _ hb hi hil
  have ha' := cell_later hb ha
  have hz : B < W.heap.size := World.block_lt_of_cell? W _ ha'
  clear ha hil hi
  show Calls _ _ #[.agg #[.int .i64 x.Number, .int .i64 x.Node, .bool x.Closed, .slice A' x.Names.length c'], .pointer (some ⟨B, 0, none⟩)] W _
  by_cases h0 : (x.Number == number) = true
  · cases h1 : x.Closed
    · have q : Hid (isO number x = true) := by rw [Hid, isO, h0, h1]; rfl
      go_enter Try.func127, Try.ntmps127
      go_wp2
      go_ret
      exact ⟨ret_bool q.out.symm, bl_alloc (bl_refl _) _⟩
    · have q : Hid (isO number x = false) := by rw [Hid, isO, h1]; simp
      go_enter Try.func127, Try.ntmps127
      go_wp2
      go_ret
      exact ⟨ret_bool q.out.symm, bl_alloc (bl_refl _) _⟩
  · have h0 : (x.Number == number) = false := by simpa using h0
    have q : Hid (isO number x = false) := by rw [Hid, isO, h0]; rfl
    go_enter Try.func127, Try.ntmps127
    go_wp2
    go_ret
    exact ⟨ret_bool q.out.symm, bl_alloc (bl_refl _) _⟩
theorem openAt_any (xs : List Incident) (number : Int) (A : Option Addr) (n c : Nat) (w : World) (hn : (n : Int) ≤ 9223372036854775807) (hs : Sl w A n xs) :
    Calls Try.prog 95 #[.slice A n c, .int .i64 number] w fun e w' => e = .returned (.int .i64 (openI xs number)) ∧ Below w.heap.size w w' := by
  go_enter Try.func95, Try.ntmps95
  go_wp2_with fail
  refine (indexFunc_incident xs _ _ _ _ _ _ _ hn (hs.below (bl_alloc (bl_refl _) _)) enters_oA (pred_oA _ w.heap.size number (by go_simp) xs)).mono ?_
  rintro e V ⟨rfl, hV⟩
  go_wp2
  go_ret
  exact ⟨rfl, bl_trans (bl_alloc (bl_refl w) (.cells #[.int .i64 number] 3)) hV⟩

end Go.Proofs.Ytnaadihbkiakeaa

namespace Go.Proofs.Ytnaadihbkiakeaa
open Go.RowKit

theorem sl_strI {w : World} {b o : Nat} {s : ByteArray} (h : w.cell? ⟨b, o, none⟩ = some (.string s)) : Sl w (some ⟨b, o, none⟩) 1 [s] :=
  ⟨rfl, fun k x hx => by
    have hk : k = 0 := by have := (List.getElem?_eq_some_iff.1 hx).1; simpa using this
    subst hk
    have hx' : s = x := by simpa using hx
    subst hx'
    refine ⟨b, o, [.string s], rfl, rfl, fun j v hv => ?_⟩
    have hj : j = 0 := by have := (List.getElem?_eq_some_iff.1 hv).1; simpa using this
    subst hj
    have hv' : Value.string s = v := by simpa using hv
    subst hv'; simpa using h⟩
theorem own_blk {A : Option Addr} {n m c d : Nat} : Value.ownBlock (.slice A n c) = Value.ownBlock (.slice A m d) := by cases A <;> rfl
theorem own_mem {A : Option Addr} {n m c y : Nat} (h : y ∈ (Value.ownBlock (.slice A m c)).toList) : Value.ownBlock (.slice A n c) = some y := by
  have h1 : Value.ownBlock (.slice A m c) = some y := by simpa only [Option.mem_toList, Option.mem_def] using h
  exact own_blk.trans h1
theorem enters_rm : Enters Try.prog 136 := enters_of Try.func136 (by kernel_rfl) (by kernel_rfl)
theorem pred_rm (w : World) (F : List Nat) (B : Nat) (s : ByteArray) (hF : ∀ k, k ∈ F → k < B) (ha : w.cell? ⟨B, 0, none⟩ = some (.string s)) (xs : List ByteArray) : Pred Try.prog w F xs 136 (fun x : ByteArray => Value.string x) #[.pointer (some ⟨B, 0, none⟩)] (fun x => x.toList == s.toList) := by
  intro W x _ hof
  have ha' := hof.keeps ha (fun hm => by have := hF _ hm; simp only [] at this; omega)
  have hz : B < W.heap.size := World.block_lt_of_cell? W _ ha'
  clear ha hof
  show Calls _ _ #[.string x, .pointer (some ⟨B, 0, none⟩)] W _
  go_enter Try.func136, Try.ntmps136
  go_wp2
  go_ret
  exact ⟨rfl, bl_refl _⟩
set_option maxRecDepth 100000 in
set_option maxHeartbeats 4000000 in
theorem remove_any (g o : Nat) (s : ByteArray) (A : Option Addr) (n c base : Nat) (l : List ByteArray) (w : World) (hn : n ≤ 1048576) (hc3 : w.cell? ⟨g, o + 3, none⟩ = some (.slice A n c)) (hf3 : w.frozen? ⟨g, o + 3, none⟩ = false) (ho : Own w base 9 (.slice A n c) l) (hg : ∀ x, Value.ownBlock (.slice A n c) = some x → x ≠ g) :
    Calls Try.prog 106 #[.pointer (some ⟨g, o, none⟩), .string s] w fun e w' => ∃ m V, e = .returned (.tuple #[]) ∧ w' = V.setCell ⟨g, o + 3, none⟩ (.slice A m c) ∧ Own V base 9 (.slice A m c) (dropS l s) ∧ m ≤ n ∧ OnlyF (Value.ownBlock (.slice A n c)).toList w V := by
  have hgz : g < w.heap.size := World.block_lt_of_cell? w _ hc3
  have hlt : ∀ k, k ∈ (Value.ownBlock (.slice A n c)).toList → k < w.heap.size := fun k hk => (ho.lt k (by simpa using hk)).2
  have HG : Hid (∀ k, k ∈ (Value.ownBlock (.slice A n c)).toList → k ≠ g) := fun k hk => hg k (by simpa using hk)
  have HO := Lib.hid ho
  have HLT := Lib.hid hlt
  clear hg hlt ho
  go_enter Try.func106, Try.ntmps106
  go_wp2_with fail
  refine (deleteFunc_str l _ _ _ base _ _ (fun x => x.toList == s.toList) _ hn (HO.out.alloc _) enters_rm (pred_rm _ _ w.heap.size s HLT.out (by go_simp) l)).mono ?_
  rintro e V ⟨m, rfl, ho2, hm, hof⟩
  have hof1 : OnlyF (Value.ownBlock (.slice A n c)).toList w V := (OnlyF.alloc (OnlyF.refl _ _) _).trans hof
  have y3 := hof1.keeps hc3 (fun hm' => HG.out _ hm' rfl)
  have f3 := (hof1.frozen (p := ⟨g, o + 3, none⟩) hgz (fun hm' => HG.out _ hm' rfl)).trans hf3
  have hgV : g < V.heap.size := World.block_lt_of_cell? V _ y3
  have HO2 := Lib.hid ho2
  have HOF := Lib.hid hof1
  clear hof hof1 ho2 hc3 hf3
  go_wp2
  go_end0
  exact ⟨m, V, rfl, rfl, HO2.out, hm, HOF.out⟩
set_option maxRecDepth 100000 in
set_option maxHeartbeats 4000000 in
theorem implReleaseFrom_any (xs : List Incident) (number : Int) (nm : ByteArray) (A : Option Addr) (n c : Nat) (w : World) (hz : nm.size ≤ maxLen) (hn : n ≤ 1048576) (hc : n ≤ c) (hs : Sl w A n xs) (hv : ∀ x, x ∈ xs → ∀ y, y ∈ x.Names → y.size ≤ maxLen) (hin : ∀ x, x ∈ xs → x.Names.length ≤ 1048576) :
    Calls Try.prog 38 #[.slice A n c, .int .i64 number, .string nm] w (RetOwnX2 incidentN w 76 9 (rlF xs number nm)) := by
  have HV := Lib.hid hv
  have HIN := Lib.hid hin
  have HL := Lib.hid hs.1
  have hn' : (n : Int) ≤ 9223372036854775807 := by omega
  clear hv hin
  go_enter Try.func38, Try.ntmps38
  have hk0 := bl_refl w
  go_wp2_with fail
  refine (openAt_any xs number _ _ _ _ hn' hs).mono ?_
  rintro e V1 ⟨rfl, hb1⟩
  have hB1 := bl_trans (a := w) (bl_refl _) hb1
  have hk1 := bl_trans hk0 hB1
  have z1 := Lib.hid hB1.size
  have hge := indexF_range (isO number) xs
  obtain ⟨i, hi⟩ : ∃ i, i = openI xs number := ⟨_, rfl⟩
  have hge2 : -1 ≤ i ∧ i < xs.length := by rw [hi]; exact hge
  rw [← hi]
  have hi' := Lib.hid hi
  clear hi hge
  go_wp2_with fail
  refine (areIncidents_any xs _ _ _ _ hn' hc (hs.below hk1) HV.out).mono ?_
  rintro e V2 ⟨rfl, hb2⟩
  have hB2 := bl_trans (a := V1) (bl_refl _) hb2
  have hk2 := bl_trans hk1 hB2
  have z2 := Lib.hid hB2.size
  clear hk1
  cases h0 : incsB xs
  · have Hz := Lib.hid (rlF_no (xs := xs) (number := number) (s := nm) (by rw [h0]; first | done | simp))
    clear h0
    go_wp2
    go_ret2
    exact retOwnX2_nil (by decide) Hz.out hk2
  have H0 := Lib.hid h0
  clear h0
  by_cases h8 : i < 0
  · have hd : decide (i < 0) = true := by simpa using h8
    have Hz := Lib.hid (rlF_no (xs := xs) (number := number) (s := nm) (by rw [← hi'.out, decide_eq_false (by omega : ¬ 0 ≤ i)]; simp))
    go_wp2
    go_ret2
    exact retOwnX2_nil (by decide) Hz.out hk2
  have hd : decide (i < 0) = false := by simpa using h8
  obtain ⟨j, rfl⟩ := Int.eq_ofNat_of_zero_le (by omega : 0 ≤ i)
  have hjx : j < xs.length := by omega
  clear hge2 h8
  go_wp2_with fail
  refine (isName_any nm _ hz).mono ?_
  rintro e V3 ⟨rfl, hb3⟩
  have hB3 := bl_trans (a := V2) (bl_refl _) hb3
  have hk3 := bl_trans hk2 hB3
  have z3 := Lib.hid hB3.size
  clear hk2
  cases h1 : nameB nm
  · have Hz := Lib.hid (rlF_no (xs := xs) (number := number) (s := nm) (by rw [h1]; first | done | simp))
    clear h1
    go_wp2
    go_ret2
    exact retOwnX2_nil (by decide) Hz.out hk3
  have H1 := Lib.hid h1
  clear h1
  go_wp2_with fail
  refine (committedAt_any xs nm _ _ _ _ hn' (hs.below hk3)).mono ?_
  rintro e V4 ⟨rfl, hb4⟩
  have hB4 := bl_trans (a := V3) (bl_refl _) hb4
  have hk4 := bl_trans hk3 hB4
  have z4 := Lib.hid hB4.size
  clear hk3
  obtain ⟨q, hq⟩ : ∃ q, q = atB xs nm := ⟨_, rfl⟩
  rw [← hq]
  by_cases h9 : q = (j : Int)
  rotate_left
  · have hd2 : (q != (j : Int)) = true := by simpa [bne] using h9
    have Hz := Lib.hid (rlF_no (xs := xs) (number := number) (s := nm) (by rw [← hi'.out, ← hq, decide_eq_false h9]; simp))
    clear hq h9
    go_wp2
    go_ret2
    exact retOwnX2_nil (by decide) Hz.out hk4
  have hd2 : (q != (j : Int)) = false := by simp [bne, h9]
  have Hz := Lib.hid (rlF_yes H0.out H1.out hi'.out.symm (hq.symm.trans h9))
  have hxn : xs.length ≤ 1048576 := by rw [HL.out]; exact hn
  clear hq h9
  go_wp2_with fail
  refine (copyIncidents_any xs _ _ _ _ hn (hs.below hk4) HIN.out).mono ?_
  rintro e V5 ⟨A_c, c_c, F_c, rfl, ho_c, hb5⟩
  have hB5 := bl_trans (a := V4) (bl_refl _) hb5
  have hk5 := bl_trans hk4 hB5
  have z5 := Lib.hid hB5.size
  clear hk4
  obtain ⟨ps, hp, _, hop⟩ := ho_c
  obtain ⟨g, rfl⟩ := hop.out.form (by omega : 0 < xs.length)
  have hjl : j < ps.length := by rw [hop.len]; exact hjx
  obtain ⟨p, hpq⟩ : ∃ p, ps[j]? = some p := ⟨_, List.getElem?_eq_getElem hjl⟩
  have he : nth (ps.map Prod.fst) j = p.1 := nth_get (by rw [List.getElem?_map, hpq]; rfl)
  have hx : Hid (nth xs j = incidentN.of p.1 p.2) := nth_get (by rw [← hp]; unfold Nest.plain; rw [List.getElem?_map, hpq]; rfl)
  have hjc : xs.length ≤ c_c := hop.out.cap.1
  have hjI : (j : Int) < xs.length := by omega
  have hj0 : (0 : Int) ≤ j := by omega
  have HW := Lib.hid hk5
  have d3 : V5.cell? ⟨g, j * 4 + 3, none⟩ = some (.slice (nth (ps.map Prod.fst) j).A (nth (ps.map Prod.fst) j).n (nth (ps.map Prod.fst) j).c) := hop.out.cellAt hjx 3 _ rfl
  have f3 := hop.out.frozenAt (j * 4 + 3)
  rw [he] at d3
  have hin := hop.inn j p hpq
  have hpn : p.2.length = p.1.n := hin.sl.1
  have hpnn : p.1.n ≤ 1048576 := by rw [← hpn]; have := HIN.out _ (nth_mem hjx); rw [hx.out] at this; exact this
  have hsep : ∀ y, (.slice p.1.A p.1.n p.1.c : Value).ownBlock = some y → y ≠ g := fun y hy hyg => hop.sep (k := g) rfl hpq (by rw [← hyg]; exact hy)
  have HOP := Lib.hid hop
  have HSEP := Lib.hid hsep
  have HIN2 := Lib.hid hin
  clear hop hsep hin hs hpn
  go_wp2_with fail
  refine (remove_any g (j * 4) nm p.1.A p.1.n p.1.c w.heap.size p.2 _ hpnn d3 f3 (HIN2.out.mono (by have := z1.out; have := z2.out; have := z3.out; have := z4.out; have := z5.out; omega)) HSEP.out).mono ?_
  rintro e V9 ⟨m, V8, rfl, rfl, ho8, hm8, hof8⟩
  have hg8 : OnlyF (g :: (.slice p.1.A p.1.n p.1.c : Value).ownBlock.toList) V5 (V8.setCell ⟨g, j * 4 + 3, none⟩ (.slice p.1.A m p.1.c)) := OnlyF.set (hof8.mono (fun y hy => List.mem_cons_of_mem _ hy)) List.mem_cons_self _
  have hown8 : Own V8 w.heap.size 76 (.slice (some ⟨g, 0, none⟩) xs.length c_c) (ps.map Prod.fst) := (HOP.out.out.mono (by have := z1.out; have := z2.out; have := z3.out; have := z4.out; have := z5.out; omega)).only hof8 (fun y hy hm' => HSEP.out y (by simpa using hm') (by simpa [Value.ownBlock] using hy))
  have h2 : Own (V8.setCell ⟨g, j * 4 + 3, none⟩ (.slice p.1.A m p.1.c)) w.heap.size 76 (.slice (some ⟨g, 0, none⟩) xs.length c_c) ((ps.map Prod.fst).set j (⟨p.1.Number, p.1.Node, p.1.Closed, p.1.A, m, p.1.c⟩ : IncidentR)) := by
    have hh := hown8.put1 hjx 3 (by decide) (y := (⟨p.1.Number, p.1.Node, p.1.Closed, p.1.A, m, p.1.c⟩ : IncidentR)) (v := .slice p.1.A m p.1.c) (by rw [he]; rfl)
    exact hh
  have ho9 : Own (V8.setCell ⟨g, j * 4 + 3, none⟩ (.slice p.1.A m p.1.c)) w.heap.size 9 (.slice p.1.A m p.1.c) (dropS p.2 nm) := ho8.only (OnlyF.set (OnlyF.refl _ _) (List.mem_singleton.2 rfl) _) (fun y hy hm' => HSEP.out y (own_mem hy) (List.mem_singleton.1 hm'))
  have hup := (HOP.out.mono (b := w.heap.size) (by have := z1.out; have := z2.out; have := z3.out; have := z4.out; have := z5.out; omega)).upd (p' := ((⟨p.1.Number, p.1.Node, p.1.Closed, p.1.A, m, p.1.c⟩ : IncidentR), dropS p.2 nm)) hpq h2 ho9 (fun x hx => .inl ((own_blk (A := p.1.A) (n := p.1.n) (m := m) (c := p.1.c) (d := p.1.c)).trans hx)) hg8
  have hlg := HOP.out.lies
  skip
  have hbk : Below w.heap.size w (V8.setCell ⟨g, j * 4 + 3, none⟩ (.slice p.1.A m p.1.c)) := by
    have hb8 := below_only HW.out hof8 (fun y hy => HIN2.out.lt y (own_mem hy)) (by have := z1.out; have := z2.out; have := z3.out; have := z4.out; have := z5.out; omega)
    exact bl_set hb8 (by have := (HOP.out.out.lt g rfl).1; simp only []; have := z1.out; have := z2.out; have := z3.out; have := z4.out; have := z5.out; omega) _
  have HUP := Lib.hid hup
  clear hg8 hown8 h2 ho9 hup hof8 ho8 d3 f3
  go_wp2
  go_ret2
  refine retOwnX2_mk Hz.out ?_ HUP.out hbk
  unfold Nest.plain at hp ⊢; rw [List.map_set, hp, hx.out]; rfl

end Go.Proofs.Ytnaadihbkiakeaa

namespace Go.Proofs.Ytnaadihbkiakeaa
open Go.RowKit

def askB (xs : List Incident) (number : Int) (nm : ByteArray) : Bool := incsB xs && decide (0 ≤ openI xs number) && nameB nm
theorem askB_yes {xs : List Incident} {number : Int} {nm : ByteArray} (h : askB xs number nm = true) : incsB xs = true ∧ 0 ≤ openI xs number ∧ nameB nm = true := by
  simp only [askB, Bool.and_eq_true, decide_eq_true_eq] at h; exact ⟨h.1.1, h.1.2, h.2⟩
set_option maxHeartbeats 4000000 in
theorem ixAsked_any (xs : List Incident) (number : Int) (nm : ByteArray) (A : Option Addr) (n c : Nat) (w : World) (hz : nm.size ≤ maxLen) (hn : n ≤ 1048576) (hc : n ≤ c) (hs : Sl w A n xs) (hv : ∀ x, x ∈ xs → ∀ y, y ∈ x.Names → y.size ≤ maxLen) :
    Calls Try.prog 100 #[.slice A n c, .int .i64 number, .string nm] w fun e w' => e = .returned (.bool (askB xs number nm)) ∧ Below w.heap.size w w' := by
  have HV := Lib.hid hv
  have HL := Lib.hid hs.1
  have hn' : (n : Int) ≤ 9223372036854775807 := by omega
  clear hv
  go_enter Try.func100, Try.ntmps100
  have hk0 := bl_refl w
  go_wp2_with fail
  refine (ixGood_any xs _ _ _ _ hn' hc hs HV.out).mono ?_
  rintro e V1 ⟨rfl, hb1⟩
  have hB1 := bl_trans (a := w) (bl_refl _) hb1
  have hk1 := bl_trans hk0 hB1
  have z1 := Lib.hid hB1.size
  cases h0 : incsB xs
  · have Hz : Hid (askB xs number nm = false) := by rw [Hid, askB, h0]; simp
    clear h0
    go_wp2
    go_ret
    exact ⟨ret_bool Hz.out.symm, hk1⟩
  have H0 := Lib.hid h0
  clear h0
  go_wp2_with fail
  refine (ixFind_any xs number _ _ _ _ hn' (hs.below hk1)).mono ?_
  rintro e V2 ⟨rfl, hb2⟩
  have hB2 := bl_trans (a := V1) (bl_refl _) hb2
  have hk2 := bl_trans hk1 hB2
  have z2 := Lib.hid hB2.size
  clear hk1
  cases h1 : decide (openI xs number ≥ 0)
  · have Hz : Hid (askB xs number nm = false) := by rw [Hid, askB, show decide (0 ≤ openI xs number) = false from h1]; simp
    go_wp2
    go_ret
    exact ⟨ret_bool Hz.out.symm, hk2⟩
  have H1 := Lib.hid (show decide (0 ≤ openI xs number) = true from h1)
  go_wp2_with fail
  refine (apName_any nm _ hz).mono ?_
  rintro e V3 ⟨rfl, hb3⟩
  have hB3 := bl_trans (a := V2) (bl_refl _) hb3
  have hk3 := bl_trans hk2 hB3
  have z3 := Lib.hid hB3.size
  clear hk2
  have Hz : Hid (askB xs number nm = nameB nm) := by rw [Hid, askB, H0.out, H1.out]; rfl
  go_wp2
  go_ret
  exact ⟨ret_bool Hz.out.symm, hk3⟩
theorem ixIf_any (xs : List Incident) (b : Bool) (A : Option Addr) (n c : Nat) (w : World) (hn' : (n : Int) ≤ 9223372036854775807) (hc : n ≤ c) (hs : Sl w A n xs) (hv : ∀ x, x ∈ xs → ∀ y, y ∈ x.Names → y.size ≤ maxLen) (hb : incsB xs = b) :
    Calls Try.prog 102 #[.slice A n c] w fun e w' => e = .returned (.tuple #[if b then .slice A n c else .slice none 0 0, .bool b]) ∧ Below w.heap.size w w' := by
  have HV := Lib.hid hv
  have HB := Lib.hid hb
  clear hv hb
  go_enter Try.func102, Try.ntmps102
  go_wp2_with fail
  refine (ixGood_any xs _ _ _ _ hn' hc hs HV.out).mono ?_
  rintro e V ⟨rfl, hV⟩
  rw [HB.out]
  clear hs
  cases b
  · go_wp2
    go_ret2
    exact ⟨rfl, hV⟩
  · go_wp2
    go_ret2
    exact ⟨rfl, hV⟩

end Go.Proofs.Ytnaadihbkiakeaa

namespace Go.Proofs.Ytnaadihbkiakeaa
open Go.RowKit

theorem run_copy_cellsN {P : Program} (w : World) (dT sT ty elem : TypeId) (k b o dLen dCap : Nat) (a : Addr) (sLen sCap : Nat) (cs : List Value)
    (hu : P.underlying dT = some (.slice elem)) (hs : (P.info? elem).map (·.size) = some k) (hn : cs.length = Nat.min sLen dLen * k)
    (hsrc : ∀ j v, cs[j]? = some v → w.cell? (a.add j) = some v) (hc : ∀ j, j < cs.length → (w.cell? ⟨b, o + j, none⟩).isSome = true) (hf : ∀ j, j < cs.length → w.frozen? ⟨b, o + j, none⟩ = false) (h1 : ∀ v ∈ cs, v.oneCell' = true) :
    (Builtin.copy_ #[dT, sT] ty #[.slice (some ⟨b, o, none⟩) dLen dCap, .slice (some a) sLen sCap]).run P w = .ok (goInt (Nat.min sLen dLen)) (w.setCells b o cs) := by
  have hl := run_loadCells_list (P := P) w a cs hsrc
  have hst := run_storeCells_cells (P := P) b o cs 0 w (by simpa using hc) (by simpa using hf) h1
  cases hq : P.info? elem with
  | none => simp [hq] at hs
  | some i =>
    have hi : i.size = k := by simpa [hq] using hs
    rw [hn] at hl
    have hn' : Nat.min sLen dLen * k = min sLen dLen * k := rfl
    first
      | (simp [Builtin.copy_, run_underlying hu, Builtin.lenOf, Builtin.firstCells, sizeOf, typeInfo, hq, hi, hl, hst]; done)
      | (rw [hn', Nat.mul_comm] at hl; simp [Builtin.copy_, run_underlying hu, Builtin.lenOf, Builtin.firstCells, sizeOf, typeInfo, hq, hi, hl, hst]; done)

end Go.Proofs.Ytnaadihbkiakeaa

namespace Go.Proofs.Ytnaadihbkiakeaa
open Go.RowKit

/-- append(xs, ys...) onto a slice of the call's own, run. -/
theorem run_appN {α : Type} [Flat α] {P : Program} (t ty e : TypeId) (he : Elem P t e (Flat.sz α)) {base : Nat} {w : World} {A B : Option Addr} {n c m d : Nat} {xs ys : List α}
    (hown : Own w base e (.slice A n c) xs) (hbase : base ≤ w.heap.size) (hy : Sl w B m ys) (hlim : n + m ≤ 274877906944) :
    ∃ A' c' w', (Builtin.append_ #[t, t] ty #[.slice A n c, .slice B m d]).run P w = .ok (.slice A' (n + m) c') w' ∧ Own w' base e (.slice A' (n + m) c') (xs ++ ys) ∧ w.grownBy w' (Value.ownBlock (.slice A n c)) := by
  obtain ⟨i, z, h1, h2, h3, h4, h5, h6⟩ := he
  have hn := hown.sl.1
  have hm := hy.1
  have ho1 : w.ownsRow base e (Flat.sz α) (.slice A n c) n (cellsOf xs) := by
    have := hown
    unfold Own at this
    rwa [hn] at this
  have fin : ∀ (news : List Value) (v' : Value) (w' : World), news = cellsOf ys → w'.ownsRow base e (Flat.sz α) v' (n + m) (cellsOf xs ++ news) → ∃ A' c', v' = .slice A' (n + m) c' ∧ Own w' base e (.slice A' (n + m) c') (xs ++ ys) := by
    intro news v' w' hnw hown'
    subst hnw
    have hnx : (xs ++ ys).length = n + m := by simp [hn, hm]
    have hO : Own w' base e v' (xs ++ ys) := by unfold Own; rw [hnx, cellsOf_append]; exact hown'
    obtain ⟨A', c', rfl⟩ := hO.slice
    rw [hnx] at hO
    exact ⟨A', c', by rw [hnx], hO⟩
  cases B with
  | none =>
    obtain ⟨rfl, rfl⟩ := hy.none_len
    have hrun := run_append_of_nil (P := P) w base t ty e i (Flat.sz α) h1 h2 _ n (cellsOf xs) ho1 d
    exact ⟨A, c, w, hrun, by simpa using hown, gb_refl _ _⟩
  | some ad =>
    by_cases hm0 : m = 0
    · subst hm0
      have hys : ys = [] := List.eq_nil_of_length_eq_zero hm
      subst hys
      obtain ⟨v', w', hr, ho, hg, _⟩ := run_append_own (P := P) w base t ty e i z (Flat.sz α) i.bytes h1 h2 h3 h4 rfl h6 Flat.pos _ n (cellsOf xs) ho1 ad 0 d [] (by simp) (by intro j u hu; simp at hu) (by intro u hu; simp at hu) (by unfold maxLen; omega) (by
        have : (n + 0) * i.bytes ≤ (n + 0) * 256 := Nat.mul_le_mul_left _ h5
        omega) hbase
      obtain ⟨A', c', rfl, hO⟩ := fin [] v' w' rfl ho
      exact ⟨A', c', w', hr, hO, hg⟩
    · have hspot : ∃ b o, ad = ⟨b, o, none⟩ := by
        obtain ⟨b, o, cs, hA, _⟩ := hy.2 0 _ (List.getElem?_eq_getElem (by omega))
        injection hA with hA
        exact ⟨b, o, hA⟩
      obtain ⟨b, off, rfl⟩ := hspot
      obtain ⟨v', w', hr, ho, hg, _⟩ := run_append_own (P := P) w base t ty e i z (Flat.sz α) i.bytes h1 h2 h3 h4 rfl h6 Flat.pos _ n (cellsOf xs) ho1 ⟨b, off, none⟩ m d (cellsOf ys) (by rw [cellsOf_length, hm]) (by
        intro j u hu
        rw [addr_add]
        exact hy.cells j u hu) (cellsOf_oneCell ys) (by unfold maxLen; omega) (by
        have : (n + m) * i.bytes ≤ (n + m) * 256 := Nat.mul_le_mul_left _ h5
        omega) hbase
      obtain ⟨A', c', rfl, hO⟩ := fin _ v' w' rfl ho
      exact ⟨A', c', w', hr, hO, hg⟩
/-- At a step of a region that draws its order. -/
theorem step_appN {α : Type} [Flat α] {P : Program} {ops : Array Oper} {o : Oper} {a : Act} {w : World} {K : Act → World → Prop} {Q : Exit → Act → World → Prop} {E : Prop} (hgd : o.guard = none) (s x : Operand) (t e : TypeId)
    (ho : o.op = .call { callee := .builtin .append, args := #[s, x], argTypes := #[t, t] }) (he : Elem P t e (Flat.sz α)) {base : Nat} {A B : Option Addr} {n c m d : Nat} {xs ys : List α} (hs : a.eval s = .slice A n c) (hx : a.eval x = .slice B m d)
    (hown : Own w base e (.slice A n c) xs) (hbase : base ≤ w.heap.size) (hy : Sl w B m ys) (hlim : n + m ≤ 274877906944)
    (h : ∀ A' c' w', Own w' base e (.slice A' (n + m) c') (xs ++ ys) → w.grownBy w' (Value.ownBlock (.slice A n c)) → K (a.put o.dst (.slice A' (n + m) c')) w') :
    if Region.wanted o (yielded ops a.tmps) = true then Oper.wp P o a w K Q else E := by
  have hw : Region.wanted o (yielded ops a.tmps) = true := by simp [Region.wanted, hgd]
  rw [if_pos hw]
  obtain ⟨A', c', w', hr, h1, h2⟩ := run_appN (P := P) t o.type e he hown hbase hy hlim
  unfold Oper.wp execOp
  simp only [ho, resolve, invoke, builtin, Sem.run_bind, Sem.run_pure, Result.andThen_ok, List.map_toArray, List.map_cons, List.map_nil, hs, hx]
  rw [hr]
  exact h A' c' w' h1 h2

end Go.Proofs.Ytnaadihbkiakeaa

namespace Go.Proofs.Ytnaadihbkiakeaa
open Go.RowKit

/-- copy, its run known, as an operation -/
theorem wp_copy_run {P : Program} (w : World) {o : Oper} {a : Act} {K : Act → World → Prop} {Q : Exit → Act → World → Prop} (d s : Operand) (t t' : TypeId)
    (ho : o.op = .call { callee := .builtin .copy, args := #[d, s], argTypes := #[t, t'] }) (v u : Value) (hd : a.eval d = v) (hs : a.eval s = u) {v' : Value} {w' : World}
    (hr : (Builtin.copy_ #[t, t'] o.type #[v, u]).run P w = .ok v' w') (h : K (a.put o.dst v') w') : o.wp P a w K Q := by
  unfold Oper.wp execOp
  simp only [ho, resolve, invoke, builtin, Sem.run_bind, Sem.run_pure, Result.andThen_ok, List.map_toArray, List.map_cons, List.map_nil, hd, hs, hr]
  exact h
theorem wpList_copy_run {P : Program} (w : World) {ops : Array Oper} {rest : List Oper} {o : Oper} {a : Act} {Q : Exit → Act → World → Prop} (hgd : o.guard = none) (d s : Operand) (t t' : TypeId)
    (ho : o.op = .call { callee := .builtin .copy, args := #[d, s], argTypes := #[t, t'] }) (v u : Value) (hd : a.eval d = v) (hs : a.eval s = u) {v' : Value} {w' : World}
    (hr : (Builtin.copy_ #[t, t'] o.type #[v, u]).run P w = .ok v' w') (h : wpList P ops Q rest (a.put o.dst v') w') : wpList P ops Q (o :: rest) a w :=
  wpList_plain hgd fun _ hK => wp_copy_run w d s t t' ho v u hd hs hr (hK _ _ h)
theorem step_copy_run {P : Program} {ops : Array Oper} {o : Oper} {a : Act} {w : World} {K : Act → World → Prop} {Q : Exit → Act → World → Prop} {E : Prop}
    (hg : o.guard = none) (d x : Operand) (dT sT : TypeId) (hop : o.op = Op.call { callee := Callee.builtin Builtin.copy, args := #[d, x], argTypes := #[dT, sT] })
    (v u : Value) (hd : a.eval d = v) (hx : a.eval x = u) {v' : Value} {w' : World} (hr : (Builtin.copy_ #[dT, sT] o.type #[v, u]).run P w = .ok v' w') (hK : K (a.put o.dst v') w') :
    if Region.wanted o (yielded ops a.tmps) = true then Oper.wp P o a w K Q else E := by
  have hw : Region.wanted o (yielded ops a.tmps) = true := by simp [Region.wanted, hg]
  rw [if_pos hw]
  exact wp_copy_run w d x dT sT hop v u hd hx hr hK

theorem run_copy_row {P : Program} (w : World) (dT sT ty elem t : TypeId) (k g o dLen dCap : Nat) (a : Addr) (sLen sCap : Nat) (cs : List Value) (cur : Array Value)
    (hu : P.underlying dT = some (.slice elem)) (hs : (P.info? elem).map (·.size) = some k) (hn : cs.length = Nat.min sLen dLen * k)
    (hsrc : ∀ j v, cs[j]? = some v → w.cell? (a.add j) = some v) (hg : w.heap[g]? = some (.cells cur t (0, 0))) (hfit : o + cs.length ≤ cur.size) (h1 : ∀ v ∈ cs, v.oneCell' = true) :
    (Builtin.copy_ #[dT, sT] ty #[.slice (some ⟨g, o, none⟩) dLen dCap, .slice (some a) sLen sCap]).run P w = .ok (goInt (Nat.min sLen dLen)) (w.setRow g (cur.toList.take o ++ cs ++ cur.toList.drop (o + cs.length)).toArray) := by
  have hl := run_loadCells_list (P := P) w a cs hsrc
  have hst := run_storeCells_at P g o t cs 0 cur w hg (by simpa using hfit) h1
  simp only [Nat.add_zero] at hst
  cases hq : P.info? elem with
  | none => simp [hq] at hs
  | some i =>
    have hi : i.size = k := by simpa [hq] using hs
    rw [hn] at hl
    have hn' : Nat.min sLen dLen * k = min sLen dLen * k := rfl
    first
      | (simp [Builtin.copy_, run_underlying hu, Builtin.lenOf, Builtin.firstCells, sizeOf, typeInfo, hq, hi, hl, hst]; done)
      | (rw [hn', Nat.mul_comm] at hl; simp [Builtin.copy_, run_underlying hu, Builtin.lenOf, Builtin.firstCells, sizeOf, typeInfo, hq, hi, hl, hst]; done)

/-- one more element at place i -/
def insAt {α : Type} (xs : List α) (i : Nat) (y : α) : List α := xs.take i ++ y :: xs.drop i
theorem insAt_length {α : Type} {xs : List α} {i : Nat} (y : α) (h : i ≤ xs.length) : (insAt xs i y).length = xs.length + 1 := by simp [insAt]; omega
theorem insAt_end {α : Type} (xs : List α) (y : α) : insAt xs xs.length y = xs ++ [y] := by simp [insAt]
section
variable {α : Type} [Flat α]
/-- the row of a slice of the call's own -/
theorem Own.row {w : World} {base g n cap : Nat} {E : TypeId} {xs : List α} (h : Own w base E (.slice (some ⟨g, 0, none⟩) n cap) xs) :
    ∃ cur : Array Value, w.heap[g]? = some (.cells cur E (0, 0)) ∧ xs.length = n ∧ base ≤ g ∧ n ≤ cap ∧ cap ≤ maxLen ∧ cur.size = cap * Flat.sz α ∧ cur.toList.take (n * Flat.sz α) = cellsOf xs := by
  have hn := h.sl.1
  rcases h.2 with ⟨hv, _⟩ | ⟨g', cap', cur, hv, hb, hg, h1, h2, h3, h4⟩
  · cases hv
  · injection hv with e1 e2 e3
    injection e1 with e1
    injection e1 with e1
    subst e1; subst e3
    rw [hn] at h1 h4
    exact ⟨cur, hg, hn, hb, h1, h2, h3, h4⟩
theorem Own.of_row {w : World} {base g n cap : Nat} {E : TypeId} {xs : List α} {cur : Array Value} (hg : w.heap[g]? = some (.cells cur E (0, 0))) (hn : xs.length = n) (hb : base ≤ g) (h1 : n ≤ cap) (h2 : cap ≤ maxLen)
    (h3 : cur.size = cap * Flat.sz α) (h4 : cur.toList.take (n * Flat.sz α) = cellsOf xs) : Own w base E (.slice (some ⟨g, 0, none⟩) n cap) xs := by
  subst hn
  exact ⟨cellsOf_length xs, .inr ⟨g, cap, cur, rfl, hb, hg, h1, h2, h3, h4⟩⟩
/-- first what stands from i on is copied one place up, then y is laid at i -/
def upRow (cur : List Value) (xs : List α) (i : Nat) : List Value := cur.take ((i + 1) * Flat.sz α) ++ cellsOf (xs.drop i) ++ cur.drop ((i + 1) * Flat.sz α + (cellsOf (xs.drop i)).length)
def layRow (cur : List Value) (i : Nat) (y : α) : List Value := cur.take (i * Flat.sz α) ++ Flat.enc y ++ cur.drop (i * Flat.sz α + (Flat.enc y).length)
theorem drop_cells_length {xs : List α} {i n : Nat} (hn : xs.length = n) : (cellsOf (xs.drop i)).length = (n - i) * Flat.sz α := by rw [cellsOf_length, List.length_drop, hn]
theorem upRow_length {cur : List Value} {xs : List α} {i n c : Nat} (hn : xs.length = n) (hi : i ≤ n) (hc : n + 1 ≤ c) (h : cur.length = c * Flat.sz α) : (upRow cur xs i).length = c * Flat.sz α := by
  have e : (i + 1) * Flat.sz α + (n - i) * Flat.sz α = (n + 1) * Flat.sz α := by rw [← Nat.add_mul]; congr 1; omega
  have h2 : (n + 1) * Flat.sz α ≤ c * Flat.sz α := Nat.mul_le_mul_right _ hc
  simp only [upRow, List.length_append, List.length_take, List.length_drop, drop_cells_length hn, h]
  omega
theorem layRow_length {cur : List Value} {y : α} {i c : Nat} (hi : i + 1 ≤ c) (h : cur.length = c * Flat.sz α) : (layRow cur i y).length = c * Flat.sz α := by
  have h2 : (i + 1) * Flat.sz α ≤ c * Flat.sz α := Nat.mul_le_mul_right _ hi
  rw [Nat.add_mul] at h2
  simp only [layRow, List.length_append, List.length_take, List.length_drop, Flat.len, h]
  omega
/-- up, then lay -/
theorem shift_row {cur : List Value} {xs : List α} {i n c : Nat} (y : α) (hn : xs.length = n) (hi : i ≤ n) (hc : n + 1 ≤ c) (h : cur.length = c * Flat.sz α) (ht : cur.take (n * Flat.sz α) = cellsOf xs) :
    (layRow (upRow cur xs i) i y).take ((n + 1) * Flat.sz α) = cellsOf (insAt xs i y) := by
  have hk := Flat.len y
  have e1 : (i + 1) * Flat.sz α = i * Flat.sz α + Flat.sz α := by rw [Nat.add_mul]; omega
  have h2 : (n + 1) * Flat.sz α ≤ c * Flat.sz α := Nat.mul_le_mul_right _ hc
  have h3 : i * Flat.sz α ≤ n * Flat.sz α := Nat.mul_le_mul_right _ hi
  have e2 : (n + 1) * Flat.sz α = n * Flat.sz α + Flat.sz α := by rw [Nat.add_mul]; omega
  have e3 : (n - i) * Flat.sz α = n * Flat.sz α - i * Flat.sz α := Nat.sub_mul _ _ _
  have t1 : cur.take (i * Flat.sz α) = cellsOf (xs.take i) := by
    have : cur.take (i * Flat.sz α) = (cur.take (n * Flat.sz α)).take (i * Flat.sz α) := by rw [List.take_take, Nat.min_eq_left h3]
    rw [this, ht]
    conv => lhs; rw [← List.take_append_drop i xs, cellsOf_append]
    rw [List.take_append_of_le_length (by rw [cellsOf_length, List.length_take]; simp [Nat.min_eq_left (by omega : i ≤ xs.length)]), List.take_of_length_le (by rw [cellsOf_length, List.length_take, Nat.min_eq_left (by omega : i ≤ xs.length)]; exact Nat.le_refl _)]
  have l1 : (cur.take ((i + 1) * Flat.sz α)).length = (i + 1) * Flat.sz α := by rw [List.length_take, h]; omega
  have l2 : (cur.take (i * Flat.sz α)).length = i * Flat.sz α := by rw [List.length_take, h]; omega
  have u1 : (upRow cur xs i).take (i * Flat.sz α) = cellsOf (xs.take i) := by
    unfold upRow
    rw [List.append_assoc, List.take_append_of_le_length (by rw [l1]; omega), List.take_take, Nat.min_eq_left (by omega), t1]
  have u2 : (upRow cur xs i).drop (i * Flat.sz α + (Flat.enc y).length) = cellsOf (xs.drop i) ++ cur.drop ((i + 1) * Flat.sz α + (cellsOf (xs.drop i)).length) := by
    unfold upRow
    rw [List.append_assoc, hk, ← e1, List.drop_append_of_le_length (by rw [l1]; exact Nat.le_refl _), List.drop_of_length_le (by rw [l1]; exact Nat.le_refl _), List.nil_append]
  unfold layRow
  rw [u1, u2]
  have l3 : (cellsOf (xs.take i)).length = i * Flat.sz α := by rw [← t1, l2]
  have l4 := drop_cells_length (i := i) hn
  rw [List.append_assoc, ← List.append_assoc (Flat.enc y), ← List.append_assoc, List.take_append_of_le_length (by simp only [List.length_append, l3, l4, hk]; omega), List.take_of_length_le (by simp only [List.length_append, l3, l4, hk]; omega)]
  rw [insAt, show xs.take i ++ y :: xs.drop i = xs.take i ++ ([y] ++ xs.drop i) from rfl, cellsOf_append, cellsOf_append, cellsOf_one]
/-- lay, then up -/
theorem grow_row {cur : List Value} {xs : List α} {i n c : Nat} (y : α) (hn : xs.length = n) (hi : i ≤ n) (hc : n + 1 ≤ c) (h : cur.length = c * Flat.sz α) (ht : cur.take (i * Flat.sz α) = cellsOf (xs.take i)) :
    (upRow (layRow cur i y) xs i).take ((n + 1) * Flat.sz α) = cellsOf (insAt xs i y) := by
  have hk := Flat.len y
  have e1 : (i + 1) * Flat.sz α = i * Flat.sz α + Flat.sz α := by rw [Nat.add_mul]; omega
  have h2 : (n + 1) * Flat.sz α ≤ c * Flat.sz α := Nat.mul_le_mul_right _ hc
  have h3 : i * Flat.sz α ≤ n * Flat.sz α := Nat.mul_le_mul_right _ hi
  have e2 : (n + 1) * Flat.sz α = n * Flat.sz α + Flat.sz α := by rw [Nat.add_mul]; omega
  have e3 : (n - i) * Flat.sz α = n * Flat.sz α - i * Flat.sz α := Nat.sub_mul _ _ _
  have l2 : (cur.take (i * Flat.sz α)).length = i * Flat.sz α := by rw [List.length_take, h]; omega
  have l3 : (cellsOf (xs.take i)).length = i * Flat.sz α := by rw [← ht, l2]
  have l4 := drop_cells_length (i := i) hn
  have u1 : (layRow cur i y).take ((i + 1) * Flat.sz α) = cellsOf (xs.take i) ++ Flat.enc y := by
    unfold layRow
    rw [List.take_append_of_le_length (by rw [List.length_append, l2, hk]; omega), List.take_of_length_le (by rw [List.length_append, l2, hk]; omega), ht]
  unfold upRow
  rw [u1, List.take_append_of_le_length (by simp only [List.length_append, l3, l4, hk]; omega), List.take_of_length_le (by simp only [List.length_append, l3, l4, hk]; omega)]
  rw [insAt, show xs.take i ++ y :: xs.drop i = xs.take i ++ ([y] ++ xs.drop i) from rfl, cellsOf_append, cellsOf_append, cellsOf_one, List.append_assoc]
end
theorem gb_row (w : World) (g : Nat) (cs : Array Value) : w.grownBy (w.setRow g cs) (some g) :=
  ⟨rfl, rfl, rfl, by simp, fun k _ hk => setRow_other w g k _ (fun e => hk (by rw [e]))⟩
end Go.Proofs.Ytnaadihbkiakeaa

namespace Go.Proofs.Ytnaadihbkiakeaa
open Go.RowKit

theorem cell_row {w : World} {g : Nat} {cur : Array Value} {t : TypeId} {fz : Nat × Nat} (h : w.heap[g]? = some (.cells cur t fz)) (j : Nat) : w.cell? ⟨g, j, none⟩ = cur[j]? := by
  simp [World.cell?, h]
theorem frozen_row {w : World} {g : Nat} {cur : Array Value} {t : TypeId} (h : w.heap[g]? = some (.cells cur t (0, 0))) (j : Nat) : w.frozen? ⟨g, j, none⟩ = false := by
  simp [World.frozen?, h]
theorem shape_row {w : World} {g : Nat} {cur : Array Value} {t : TypeId} {fz : Nat × Nat} (h : w.heap[g]? = some (.cells cur t fz)) : w.shape? g = some (t, cur.size) := by
  simp [World.shape?, h]
section
variable {α : Type} [Flat α]
/-- what stands from i on, read out of the row -/
theorem row_from {cur : Array Value} {xs : List α} {n i : Nat} (hn : xs.length = n) (ht : cur.toList.take (n * Flat.sz α) = cellsOf xs) (hi : i ≤ n) : ∀ (j : Nat) (v : Value), (cellsOf (xs.drop i))[j]? = some v → cur[i * Flat.sz α + j]? = some v := by
  intro j v hv
  have hj : j < (n - i) * Flat.sz α := by
    have := (List.getElem?_eq_some_iff.1 hv).1
    rwa [drop_cells_length hn] at this
  have h1 : cellsOf xs = cellsOf (xs.take i) ++ cellsOf (xs.drop i) := by rw [← cellsOf_append, List.take_append_drop]
  have h2 : (cellsOf (xs.take i)).length = i * Flat.sz α := by rw [cellsOf_length, List.length_take, Nat.min_eq_left (by omega)]
  have e : (n - i) * Flat.sz α = n * Flat.sz α - i * Flat.sz α := Nat.sub_mul _ _ _
  have h3 : (cellsOf xs)[i * Flat.sz α + j]? = some v := by
    rw [h1, List.getElem?_append_right (by omega), h2, Nat.add_sub_cancel_left]; exact hv
  rw [← ht, List.getElem?_take, if_pos (by omega)] at h3
  simpa using h3
theorem row_head {cur : Array Value} {xs : List α} {n i : Nat} (ht : cur.toList.take (n * Flat.sz α) = cellsOf xs) : ∀ (j : Nat) (v : Value), (cellsOf (xs.take i))[j]? = some v → cur[j]? = some v := by
  intro j v hv
  have h1 : cellsOf xs = cellsOf (xs.take i) ++ cellsOf (xs.drop i) := by rw [← cellsOf_append, List.take_append_drop]
  have h3 : (cellsOf xs)[j]? = some v := by rw [h1, List.getElem?_append_left ((List.getElem?_eq_some_iff.1 hv).1)]; exact hv
  have hj := (List.getElem?_eq_some_iff.1 h3).1
  rw [← ht, List.getElem?_take] at h3
  split at h3
  · simpa using h3
  · cases h3
end
/-- A call hands back a slice with one element more, at place i. -/
def RetIns {α : Type} [Flat α] (w : World) (base : Nat) (E : TypeId) (A : Option Addr) (n c : Nat) (ys : List α) (e : Ending) (w' : World) : Prop :=
  ∃ A' c', e = .returned (.slice A' (n + 1) c') ∧ Own w' base E (.slice A' (n + 1) c') ys ∧ w.grownBy w' (Value.ownBlock (.slice A n c))
end Go.Proofs.Ytnaadihbkiakeaa

namespace Go.Proofs.Ytnaadihbkiakeaa
open Go.RowKit

theorem app1_blk {α : Type} [Flat α] {P : Program} (t ty e : TypeId) (he : Elem P t e (Flat.sz α)) {base : Nat} {w : World} {A : Option Addr} {n c b d : Nat} {xs : List α} {y : α}
    (hown : Own w base e (.slice A n c) xs) (hy : Sl w (some ⟨b, 0, none⟩) 1 [y]) (hlim : n ≤ 1048576) {v' : Value} {w' : World} (hr : (Builtin.append_ #[t, t] ty #[.slice A n c, .slice (some ⟨b, 0, none⟩) 1 d]).run P w = .ok v' w') :
    ∀ x, v'.ownBlock = some x → Value.ownBlock (.slice A n c) = some x ∨ w.heap.size ≤ x := by
  obtain ⟨i, z, h1, h2, h3, h4, h5, h6⟩ := he
  have hn := hown.sl.1
  have ho1 : w.ownsRow base e (Flat.sz α) (.slice A n c) n (cellsOf xs) := by
    have := hown
    unfold Own at this
    rwa [hn] at this
  have hl : (cellsOf [y]).length = 1 * Flat.sz α := by rw [cellsOf_length]; rfl
  have hc : ∀ j u, (cellsOf [y])[j]? = some u → w.cell? ((⟨b, 0, none⟩ : Addr).add j) = some u := fun j u hu => by
    rw [addr_add]; exact hy.cells j u hu
  have hb5 : (n + 1) * i.bytes ≤ (n + 1) * 256 := Nat.mul_le_mul_left _ h5
  rcases ho1.2 with ⟨hv, _⟩ | ⟨g, cap, cur, hv, hbg, hg, hnc, hcm, hcs, htk⟩
  · injection hv with e1 e2 e3
    subst e1 e2 e3
    rw [run_append_nil (P := P) w t ty e i z h1 h2 h3 ⟨b, 0, none⟩ 1 d (cellsOf [y]) (by rw [h4]; exact hl) hc (by omega) (by omega) (by omega)] at hr
    injection hr with hr _
    subst hr
    intro x hx
    exact .inr (by have : w.heap.size = x := by simpa [Value.ownBlock] using hx
                   omega)
  · injection hv with e1 e2 e3
    subst e1 e3
    by_cases hroom : n + 1 ≤ c
    · obtain ⟨w2, hr2, _⟩ := run_append_fits (P := P) w base t ty e i (Flat.sz α) h1 h2 h4 g n c (cellsOf xs) ho1 ⟨b, 0, none⟩ 1 d (cellsOf [y]) hl hc (cellsOf_oneCell _) hroom
      rw [hr2] at hr
      injection hr with hr _
      subst hr
      exact fun x hx => .inl hx
    · have hold : ∀ j v, (cellsOf xs)[j]? = some v → w.cell? ((⟨g, 0, none⟩ : Addr).add j) = some v := fun j v hj => by
        rw [addr_add]; exact hown.sl.cells j v hj
      rw [run_append_grow (P := P) w t ty e i z h1 h2 h3 ⟨g, 0, none⟩ n c (cellsOf xs) (by rw [h4]; exact ho1.1) hold ⟨b, 0, none⟩ 1 d (cellsOf [y]) (by rw [h4]; exact hl) hc (by omega) (by omega) (growslice_fits (by omega) (by omega))] at hr
      injection hr with hr _
      subst hr
      intro x hx
      exact .inr (by have : w.heap.size = x := by simpa [Value.ownBlock] using hx
                     omega)
/-- A call hands back a slice with one element more; its block is the old one or a new one. -/
def RetInsB {α : Type} [Flat α] (w : World) (base : Nat) (E : TypeId) (A : Option Addr) (n c : Nat) (ys : List α) (e : Ending) (w' : World) : Prop :=
  ∃ A' c', e = .returned (.slice A' (n + 1) c') ∧ Own w' base E (.slice A' (n + 1) c') ys ∧ w.grownBy w' (Value.ownBlock (.slice A n c)) ∧ ∀ x, Value.ownBlock (.slice A' (n + 1) c') = some x → Value.ownBlock (.slice A n c) = some x ∨ w.heap.size ≤ x
set_option maxRecDepth 100000 in
set_option maxHeartbeats 4000000 in
theorem insert_end_str (xs : List ByteArray) (A : Option Addr) (n c base vb vc : Nat) (y : ByteArray) (w : World) (hn : n ≤ 1048576) (ho : Own w base 9 (.slice A n c) xs) (hbase : base ≤ w.heap.size) (hvb : w.heap[vb]? = some (.cells (Flat.enc y).toArray 9 (0, 0))) :
    Calls Try.prog 132 #[.slice A n c, .int .i64 (n : Int), .slice (some ⟨vb, 0, none⟩) 1 vc] w (RetInsB w base 9 A n c (xs ++ [y])) := by
  have hn' := ho.sl.1
  have hy : Sl w (some ⟨vb, 0, none⟩) 1 [y] := ⟨rfl, fun k x hx => by
    have hk : k = 0 := by have := (List.getElem?_eq_some_iff.1 hx).1; simp at this; exact this
    subst hk
    simp at hx; subst hx
    refine ⟨vb, 0, Flat.enc y, rfl, rfl, fun j v hv => ?_⟩
    rw [cell_row hvb]
    simpa using hv⟩
  obtain ⟨A', c', w', hr, ho', hg⟩ := run_appN (P := Try.prog) 47 47 9 el_str (d := vc) ho hbase hy (by omega)
  have HBK := Lib.hid (app1_blk 47 47 9 el_str ho hy hn hr)
  have HO := Lib.hid ho'
  have HG := Lib.hid hg
  obtain ⟨hcap, hcm⟩ := ho.cap
  unfold maxLen at hcm
  have hAn : A = none → n = 0 := fun e => by subst e; exact ho.sl.none_len.1
  clear ho ho' hg hy hn'
  cases A with
  | none =>
    obtain rfl : n = 0 := hAn rfl
    clear hAn
    go_enter Try.func132, Try.ntmps132
    go_wp2_with ((at_builtin; refine Lib.wpList_append_run _ rfl _ _ _ _ rfl _ _ rfl rfl _ _ hr ?_))
    go_ret
    exact ⟨A', c', rfl, HO.out, HG.out, HBK.out⟩
  | some ad =>
    clear hAn
    go_enter Try.func132, Try.ntmps132
    go_wp2_with ((at_builtin; refine Lib.wpList_append_run _ rfl _ _ _ _ rfl _ _ rfl rfl _ _ hr ?_))
    all_goals (go_ret; exact ⟨A', c', rfl, HO.out, HG.out, HBK.out⟩)
set_option maxRecDepth 100000 in
set_option maxHeartbeats 4000000 in
theorem insert_room_str (xs : List ByteArray) (g n c i base vb vc : Nat) (y : ByteArray) (w : World) (hn : n ≤ 1048576) (hi : i < n) (hroom : n + 1 ≤ c) (ho : Own w base 9 (.slice (some ⟨g, 0, none⟩) n c) xs) (hvb : w.heap[vb]? = some (.cells (Flat.enc y).toArray 9 (0, 0))) (hgv : vb ≠ g) :
    Calls Try.prog 132 #[.slice (some ⟨g, 0, none⟩) n c, .int .i64 (i : Int), .slice (some ⟨vb, 0, none⟩) 1 vc] w (RetInsB w base 9 (some ⟨g, 0, none⟩) n c (insAt xs i y)) := by
  obtain ⟨cur, hg, hxl, hbg, hnc, hcm, hcs, htk⟩ := ho.row
  have hsz : Flat.sz ByteArray = 1 := rfl
  have hl1 : cur.toList.length = c * Flat.sz ByteArray := by rw [Array.length_toList, hcs]
  have hul := upRow_length (xs := xs) (i := i) hxl (by omega) hroom hl1
  have hll := layRow_length (cur := upRow cur.toList xs i) (y := y) (i := i) (c := c) (by omega) hul
  have hfin := shift_row (i := i) y hxl (by omega) hroom hl1 htk
  have hel : (Flat.enc y).length = 1 := Flat.len y
  have hdl := drop_cells_length (xs := xs) (i := i) hxl
  have hinf : (Try.prog.info? 9).map (·.size) = some 1 := by kernel_rfl
  have hov : ∀ lb cb, (callFunc 147 #[.slice (some ⟨vb, 0, none⟩) 1 vc, .slice (some ⟨g, (i + 1) * 1, none⟩) lb cb]).run Try.prog w = .ok (.value (.bool false)) w := fun lb cb => by
    rw [run_callFunc_extern Try.func147 (by kernel_rfl) (by kernel_rfl) (by kernel_rfl) (e := Extern.SlicesOverlaps.overlaps #[47, 47] #[4]) (by kernel_rfl),
      Lib.run_overlaps_apart w 47 4 9 Try.underlying47 1 Try.sizeOf9 ⟨vb, 0, none⟩ ⟨g, (i + 1) * 1, none⟩ 1 vc lb cb hgv _ _ _ _ (shape_row hvb) (shape_row hg) (by rw [hcs, hsz]; omega) (frozen_row hvb _) (frozen_row hvb _)]
    rfl
  have hcp1 : ∀ (W : World), W.heap = w.heap → ∀ ty dl dc sl sc, min sl dl = n - i → (Builtin.copy_ #[47, 47] ty #[.slice (some ⟨g, (i + 1) * 1, none⟩) dl dc, .slice (some ⟨g, i * 1, none⟩) sl sc]).run Try.prog W = .ok (goInt (Nat.min sl dl)) (W.setRow g (upRow cur.toList xs i).toArray) := by
    intro W hW ty dl dc sl sc hm
    have hgW : W.heap[g]? = some (.cells cur 9 (0, 0)) := by rw [hW]; exact hg
    refine run_copy_row W _ _ ty 9 _ 1 g ((i + 1) * 1) dl dc ⟨g, i * 1, none⟩ sl sc (cellsOf (xs.drop i)) cur Try.underlying47 hinf ?_ ?_ hgW ?_ (cellsOf_oneCell _)
    · rw [hdl]; show _ = min sl dl * 1; rw [hm]; rfl
    · intro j v hv
      rw [addr_add, cell_row hgW]
      exact row_from hxl htk (by omega) j v hv
    · rw [hdl, hcs, hsz]; omega
  have hcp2 : ∀ (W : World), W.heap = (w.setRow g (upRow cur.toList xs i).toArray).heap → ∀ ty dl dc, 1 ≤ dl → (Builtin.copy_ #[47, 47] ty #[.slice (some ⟨g, i * 1, none⟩) dl dc, .slice (some ⟨vb, 0, none⟩) 1 vc]).run Try.prog W = .ok (goInt (Nat.min 1 dl)) (W.setRow g (layRow (upRow cur.toList xs i) i y).toArray) := by
    intro W hW ty dl dc hm
    have hgW : W.heap[g]? = some (.cells (upRow cur.toList xs i).toArray 9 (0, 0)) := by rw [hW]; exact setRow_heap w g _ _ _ _ hg
    have hvW : W.heap[vb]? = some (.cells (Flat.enc y).toArray 9 (0, 0)) := by rw [hW, setRow_other w g vb _ hgv]; exact hvb
    have h := run_copy_row (P := Try.prog) W 47 47 ty 9 9 1 g (i * 1) dl dc ⟨vb, 0, none⟩ 1 vc (Flat.enc y) (upRow cur.toList xs i).toArray Try.underlying47 hinf (by rw [hel]; show _ = min 1 dl * 1; omega)
      (by intro j v hv; rw [addr_add, cell_row hvW, Nat.zero_add]; simpa using hv) hgW (by rw [hel, List.size_toArray, hul, hsz]; omega) (Flat.one y)
    exact h
  simp only [Nat.mul_one] at hov hcp1 hcp2
  have HF := Lib.hid hfin
  have HOV := Lib.hid hov
  have HC1 := Lib.hid hcp1
  have HC2 := Lib.hid hcp2
  have HLL := Lib.hid hll
  have HG := Lib.hid hg
  have HX := Lib.hid hxl
  have HCM := Lib.hid hcm
  unfold maxLen at hcm
  have hbn : base ≤ g := hbg
  have w1 : IntKind.i64.wrap ((i : Int) + 1) = (i : Int) + 1 := IntWalk.i64_in _ (by omega)
  have w2 : ((i : Int) + 1).toNat = i + 1 := by omega
  have g1 : (0 : Int) ≤ (i : Int) + 1 := by omega
  have g2 : (i : Int) + 1 ≤ (n : Int) + 1 := by omega
  have g3 : (i : Int) ≤ (n : Int) + 1 := by omega
  have k1 : ¬ (c = i + 1) := by omega
  have k2 : ¬ (c = i) := by omega
  have k3 : ((i : Int) == (n : Int)) = false := by simp; omega
  clear hfin hov hcp1 hcp2 hll hg hxl hul hl1 hcs htk hdl hel hbg ho hvb
  go_enter Try.func132, Try.ntmps132
  go_wp2_with (simp only [HOV.out])
  have e1 := HC1.out w.drew rfl 3 (n - i) (c - (i + 1)) (n + 1 - i) (c - i) (by omega)
  have e2 := HC2.out (w.drew.setRow g (upRow cur.toList xs i).toArray) rfl 3 (n + 1 - i) (c - i) (by omega)
  go_region
  all_goals
    go_wp2
    go_ret
    refine ⟨some ⟨g, 0, none⟩, c, rfl, Own.of_row (cur := (layRow (upRow cur.toList xs i) i y).toArray) ?_ ?_ hbn hroom HCM.out ?_ ?_, ?_, fun x hx => .inl hx⟩
    · exact setRow_heap _ g _ _ _ _ (setRow_heap _ g _ _ _ _ HG.out)
    · rw [insAt_length y (by have := HX.out; omega), HX.out]
    · rw [List.size_toArray]; exact HLL.out
    · have := HF.out; simpa using this
    · refine ⟨rfl, rfl, rfl, by simp, fun k _ hk => ?_⟩
      have hkg : k ≠ g := fun e => hk (by rw [e]; rfl)
      rw [setRow_other _ g k _ hkg, setRow_other _ g k _ hkg]; rfl
set_option maxRecDepth 100000 in
set_option maxHeartbeats 4000000 in
theorem insert_grow_str (xs : List ByteArray) (g n c i base vb vc : Nat) (y : ByteArray) (w : World) (hn : n ≤ 1048576) (hi : i < n) (hroom : c < n + 1) (ho : Own w base 9 (.slice (some ⟨g, 0, none⟩) n c) xs) (hbase : base ≤ w.heap.size) (hvb : w.heap[vb]? = some (.cells (Flat.enc y).toArray 9 (0, 0))) :
    Calls Try.prog 132 #[.slice (some ⟨g, 0, none⟩) n c, .int .i64 (i : Int), .slice (some ⟨vb, 0, none⟩) 1 vc] w (RetInsB w base 9 (some ⟨g, 0, none⟩) n c (insAt xs i y)) := by
  obtain ⟨cur, hg, hxl, hbg, hnc, hcm, hcs, htk⟩ := ho.row
  obtain ⟨ti, z, h1, h2, h3, h4, h5, h6⟩ := ez_str
  have hsz : Flat.sz ByteArray = 1 := rfl
  have hel : (Flat.enc y).length = 1 := Flat.len y
  have hdl := drop_cells_length (xs := xs) (i := i) hxl
  have hinf : (Try.prog.info? 9).map (·.size) = some 1 := by kernel_rfl
  have hzs : z.cells.size = 1 := by rw [← Array.length_toList, h6]; exact Flat.len _
  have hgw : g < w.heap.size := (Array.getElem?_eq_some_iff.1 hg).1
  have hvw : vb < w.heap.size := (Array.getElem?_eq_some_iff.1 hvb).1
  have htl : (cellsOf (xs.take i)).length = i * 1 := by rw [cellsOf_length, List.length_take, Nat.min_eq_left (by omega)]; rfl
  have hold : (Builtin.firstCells ti.size i (.slice (some ⟨g, 0, none⟩) i c)).run Try.prog w.drew = .ok (cellsOf (xs.take i)).toArray w.drew := by
    rw [h4, hsz]
    exact run_firstCells_some w.drew 1 i ⟨g, 0, none⟩ i c (cellsOf (xs.take i)) htl (fun j v hj => by
      rw [addr_add, Nat.zero_add]
      exact (cell_row hg j).trans (row_head htk j v hj))
  obtain ⟨G, hG⟩ : ∃ G, G = grownCap w (n + 1) c 9 := ⟨_, rfl⟩
  have hGn : n + 1 ≤ G := by rw [hG]; exact grownCap_ge w _ _ _
  have hGM : G ≤ maxLen := by rw [hG]; exact grownCap_le_maxLen w (n + 1) c _ (by unfold maxLen; omega)
  obtain ⟨ROW, hROW⟩ : ∃ ROW : Array Value, ROW = (cellsOf (xs.take i)).toArray ++ Builtin.zeroCells z.cells (n + 1 - i) ++ Builtin.zeroCells z.cells (G - (n + 1)) := ⟨_, rfl⟩
  have hik : i + (n + 1 - i) = n + 1 := by omega
  have hrz : ∀ ty, (Builtin.append_ #[47, 3] ty #[.slice (some ⟨g, 0, none⟩) i c, .int .i64 ((n : Int) + 1 - (i : Int))]).run Try.prog w = .ok (.slice (some ⟨w.heap.size, 0, none⟩) (n + 1) G) (w.drew.alloc (.cells ROW 9)) := fun ty => by
    have hb1 : (n + 1) * ti.bytes ≤ (n + 1) * 256 := Nat.mul_le_mul_left _ h5
    have hb2 : (n + 1 - i) * ti.bytes ≤ (n + 1) * ti.bytes := Nat.mul_le_mul_right _ (by omega)
    have h := Lib.run_append_grow_zeros (P := Try.prog) w 47 3 ty 9 ti z .i64 .i64 h1 Try.underlying3 h2 h3 (some ⟨g, 0, none⟩) i c (cellsOf (xs.take i)) hold (n + 1 - i) (by omega) (by rw [h4, hsz]; omega) (by omega) (by omega) (by omega) (by rw [hik]; exact growslice_fits hroom (by omega))
    rw [hik, ← hG, ← hROW] at h
    have hkk : (n : Int) + 1 - (i : Int) = ((n + 1 - i : Nat) : Int) := by omega
    rw [hkk]
    exact h
  have hRl : ROW.toList.length = G * Flat.sz ByteArray := by
    rw [Array.length_toList, hROW, Array.size_append, Array.size_append, size_zeroCells, size_zeroCells, hzs, List.size_toArray, htl, hsz]; omega
  have hRt : ROW.toList.take (i * Flat.sz ByteArray) = cellsOf (xs.take i) := by
    rw [hROW, Array.toList_append, Array.toList_append, List.append_assoc]
    exact List.take_left' htl
  have hll := layRow_length (y := y) (i := i) (by omega : i + 1 ≤ G) hRl
  have hul := upRow_length (xs := xs) (i := i) hxl (by omega) hGn hll
  have hfin := grow_row (i := i) y hxl (by omega) hGn hRl hRt
  have hgN : (w.alloc (.cells ROW 9)).heap[w.heap.size]? = some (.cells ROW 9 (0, 0)) := by
    show (w.heap.push _)[w.heap.size]? = _
    simp
  have hgO : ∀ k, k < w.heap.size → (w.alloc (.cells ROW 9)).heap[k]? = w.heap[k]? := fun k hk => by
    show (w.heap.push _)[k]? = _
    rw [Array.getElem?_push, if_neg (Nat.ne_of_lt hk)]
  have hcpA : ∀ (W : World), W.heap = (w.alloc (.cells ROW 9)).heap → ∀ ty dl dc, 1 ≤ dl → (Builtin.copy_ #[47, 47] ty #[.slice (some ⟨w.heap.size, i * 1, none⟩) dl dc, .slice (some ⟨vb, 0, none⟩) 1 vc]).run Try.prog W = .ok (goInt (Nat.min 1 dl)) (W.setRow w.heap.size (layRow ROW.toList i y).toArray) := by
    intro W hW ty dl dc hm
    have hgW : W.heap[w.heap.size]? = some (.cells ROW 9 (0, 0)) := by rw [hW]; exact hgN
    have hvW : W.heap[vb]? = some (.cells (Flat.enc y).toArray 9 (0, 0)) := by rw [hW, hgO vb hvw]; exact hvb
    exact run_copy_row (P := Try.prog) W 47 47 ty 9 9 1 w.heap.size (i * 1) dl dc ⟨vb, 0, none⟩ 1 vc (Flat.enc y) ROW Try.underlying47 hinf (by rw [hel]; show _ = min 1 dl * 1; omega)
      (by intro j v hv; rw [addr_add, cell_row hvW, Nat.zero_add]; simpa using hv) hgW (by rw [hel, ← Array.length_toList, hRl, hsz]; omega) (Flat.one y)
  have hcpB : ∀ (W : World), W.heap = ((w.alloc (.cells ROW 9)).setRow w.heap.size (layRow ROW.toList i y).toArray).heap → ∀ ty dl dc sl sc, min sl dl = n - i → (Builtin.copy_ #[47, 47] ty #[.slice (some ⟨w.heap.size, (i + 1) * 1, none⟩) dl dc, .slice (some ⟨g, i * 1, none⟩) sl sc]).run Try.prog W = .ok (goInt (Nat.min sl dl)) (W.setRow w.heap.size (upRow (layRow ROW.toList i y) xs i).toArray) := by
    intro W hW ty dl dc sl sc hm
    have hNW : W.heap[w.heap.size]? = some (.cells (layRow ROW.toList i y).toArray 9 (0, 0)) := by rw [hW]; exact setRow_heap _ _ _ _ _ _ hgN
    have hgW : W.heap[g]? = some (.cells cur 9 (0, 0)) := by rw [hW, setRow_other _ _ g _ (by omega), hgO g hgw]; exact hg
    exact run_copy_row (P := Try.prog) W 47 47 ty 9 9 1 w.heap.size ((i + 1) * 1) dl dc ⟨g, i * 1, none⟩ sl sc (cellsOf (xs.drop i)) (layRow ROW.toList i y).toArray Try.underlying47 hinf (by rw [hdl]; show _ = min sl dl * 1; rw [hm]; rfl)
      (by intro j v hv; rw [addr_add, cell_row hgW]; exact row_from hxl htk (by omega) j v hv) hNW (by rw [hdl, List.size_toArray, hll, hsz]; omega) (cellsOf_oneCell _)
  simp only [Nat.mul_one] at hcpA hcpB
  have HF := Lib.hid hfin
  have HGN := Lib.hid hgN
  have HGO := Lib.hid hgO
  have HCA := Lib.hid hcpA
  have HCB := Lib.hid hcpB
  have HUL := Lib.hid hul
  have HX := Lib.hid hxl
  have HGM := Lib.hid hGM
  unfold maxLen at hGM hcm
  have w1 : IntKind.i64.wrap ((i : Int) + 1) = (i : Int) + 1 := IntWalk.i64_in _ (by omega)
  have w2 : ((i : Int) + 1).toNat = i + 1 := by omega
  have g1 : (0 : Int) ≤ (i : Int) + 1 := by omega
  have g2 : (i : Int) + 1 ≤ (n : Int) + 1 := by omega
  have g3 : (i : Int) ≤ (n : Int) + 1 := by omega
  have k1 : ¬ (G = i + 1) := by omega
  have k2 : ¬ (G = i) := by omega
  have k4 : ¬ (c = i) := by omega
  have k3 : ((i : Int) == (n : Int)) = false := by simp; omega
  have hgn2 : ¬ (g = w.heap.size) := by omega
  clear hgN hgO hfin hcpA hcpB hll hul hg hxl hcs htk hdl hel hbg ho hvb hRl hRt hROW hG hold htl hzs h1 h2 h3 h4 h5 h6 hik
  go_enter Try.func132, Try.ntmps132
  have e1 := HCA.out (w.alloc (.cells ROW 9)).drew rfl 3 (n + 1 - i) (G - i) (by omega)
  have e2 := HCB.out ((w.alloc (.cells ROW 9)).drew.setRow w.heap.size (layRow ROW.toList i y).toArray).drew rfl 3 (n - i) (G - (i + 1)) (n - i) (c - i) (by omega)
  go_wp2_with ((at_builtin; refine Lib.wpList_append_run _ rfl _ _ _ _ rfl _ _ rfl rfl _ _ (hrz _) ?_))
  go_region
  all_goals
    go_wp2
    go_ret
    refine ⟨some ⟨w.heap.size, 0, none⟩, G, rfl, Own.of_row (cur := (upRow (layRow ROW.toList i y) xs i).toArray) ?_ ?_ hbase hGn HGM.out ?_ ?_, ?_, fun x hx => .inr (Nat.le_of_eq (by simpa [Value.ownBlock] using hx))⟩
    · exact setRow_heap _ _ _ _ _ _ (setRow_heap _ _ _ _ _ _ HGN.out)
    · rw [insAt_length y (by have := HX.out; omega), HX.out]
    · rw [List.size_toArray]; exact HUL.out
    · have := HF.out; simpa using this
    · refine ⟨rfl, rfl, rfl, by simp, fun k hk _ => ?_⟩
      have hkg : k ≠ w.heap.size := by omega
      rw [setRow_other _ _ k _ hkg]
      exact (setRow_other _ _ k _ hkg).trans (HGO.out k hk)
theorem insert_str (xs : List ByteArray) (A : Option Addr) (n c i base vb vc : Nat) (y : ByteArray) (w : World) (hn : n ≤ 1048576) (hi : i ≤ n) (ho : Own w base 9 (.slice A n c) xs) (hbase : base ≤ w.heap.size) (hvb : w.heap[vb]? = some (.cells (Flat.enc y).toArray 9 (0, 0))) (hgv : ∀ g, A = some ⟨g, 0, none⟩ → vb ≠ g) :
    Calls Try.prog 132 #[.slice A n c, .int .i64 (i : Int), .slice (some ⟨vb, 0, none⟩) 1 vc] w (RetInsB w base 9 A n c (insAt xs i y)) := by
  by_cases he : i = n
  · subst he
    have h := insert_end_str xs A i c base vb vc y w hn ho hbase hvb
    have hl := ho.sl.1
    rw [← hl] at hi ⊢
    rw [insAt_end, hl]
    exact h
  · rcases ho.2 with ⟨hv, h0⟩ | ⟨g, cap, cur, hv, _⟩
    · have hl := ho.sl.1
      omega
    · injection hv with e1 e2 e3
      subst e1
      by_cases hroom : n + 1 ≤ c
      · exact insert_room_str xs g n c i base vb vc y w hn (by omega) hroom ho hvb (hgv g rfl)
      · exact insert_grow_str xs g n c i base vb vc y w hn (by omega) (by omega) ho hbase hvb

end Go.Proofs.Ytnaadihbkiakeaa

namespace Go.Proofs.Ytnaadihbkiakeaa
open Go.RowKit

theorem sl_str {w : World} {b o : Nat} {s : ByteArray} (h : w.cell? ⟨b, o, none⟩ = some (.string s)) : Sl w (some ⟨b, o, none⟩) 1 [s] :=
  ⟨rfl, fun k x hx => by
    have hk : k = 0 := by have := (List.getElem?_eq_some_iff.1 hx).1; simpa using this
    subst hk
    have hx' : s = x := by simpa using hx
    subst hx'
    refine ⟨b, o, [.string s], rfl, rfl, fun j v hv => ?_⟩
    have hj : j = 0 := by have := (List.getElem?_eq_some_iff.1 hv).1; simpa using this
    subst hj
    have hv' : Value.string s = v := by simpa using hv
    subst hv'
    simpa using h⟩
theorem Sl.drop {α : Type} [Flat α] {w : World} {b o n i : Nat} {xs : List α} (h : Sl w (some ⟨b, o, none⟩) n xs) (_hi : i ≤ n) : Sl w (some ⟨b, o + i * Flat.sz α, none⟩) (n - i) (xs.drop i) :=
  ⟨by rw [List.length_drop, h.1], fun k x hx => by
    rw [List.getElem?_drop] at hx
    obtain ⟨b', o', cs, hA, hr, hc⟩ := h.2 (i + k) x hx
    injection hA with hA
    injection hA with h1 h2
    subst h1; subst h2
    refine ⟨b, _, cs, rfl, hr, fun j v hv => ?_⟩
    have := hc j v hv
    have e : o + (i + k) * Deep.sz α + j = o + i * Flat.sz α + k * Deep.sz α + j := by
      have : Deep.sz α = Flat.sz α := rfl
      rw [this, Nat.add_mul]; omega
    rwa [e] at this⟩
/-- As step_appN; all that has turned lies from the first world on. -/
theorem step_appB {α : Type} [Flat α] {P : Program} {ops : Array Oper} {o : Oper} {a : Act} {w : World} {K : Act → World → Prop} {Q : Exit → Act → World → Prop} {E : Prop} (hgd : o.guard = none) (s x : Operand) (t e : TypeId)
    (ho : o.op = .call { callee := .builtin .append, args := #[s, x], argTypes := #[t, t] }) (he : Elem P t e (Flat.sz α)) {w0 : World} {A B : Option Addr} {n c m d : Nat} {xs ys : List α} (hs : a.eval s = .slice A n c) (hx : a.eval x = .slice B m d)
    (hown : Own w w0.heap.size e (.slice A n c) xs) (hb : Below w0.heap.size w0 w) (hy : Sl w B m ys) (hlim : n + m ≤ 274877906944)
    (h : ∀ A' c' w', Own w' w0.heap.size e (.slice A' (n + m) c') (xs ++ ys) → Below w0.heap.size w0 w' → w.grownBy w' (Value.ownBlock (.slice A n c)) → K (a.put o.dst (.slice A' (n + m) c')) w') :
    if Region.wanted o (yielded ops a.tmps) = true then Oper.wp P o a w K Q else E :=
  step_appN hgd s x t e ho he hs hx hown hb.size hy hlim fun A' c' w' h1 h2 => h A' c' w' h1 (bl_grown hb h2 (fun k hk => (hown.lt k hk).1)) h2
set_option maxHeartbeats 4000000 in
theorem rfPut_any (l : List ByteArray) (s : ByteArray) (A : Option Addr) (n c q : Nat) (w : World) (hn : n ≤ 1048576) (hc : n ≤ c) (hcm : (c : Int) ≤ 9223372036854775807) (hs : Sl w A n l) (hqn : q ≤ n) (hlo : ∀ j, j < q → Op.bytesLess (nth l j).toList s.toList = true)
    (hst : q < n → Op.bytesLess (nth l q).toList s.toList = false ∧ ((nth l q).toList == s.toList) = false) :
    Calls Try.prog 84 #[.slice A n c, .string s] w (RetOwn w 9 (l.take q ++ [s] ++ l.drop q)) := by
  have HLo := Lib.hid hlo
  have HL := Lib.hid hs.1
  have HST := Lib.hid hst
  obtain ⟨Y, hY⟩ : ∃ Y, Y = List.take q l ++ [s] ++ List.drop q l := ⟨_, rfl⟩
  rw [← hY]
  have HY := Lib.hid hY
  clear hlo hst hY
  go_enter Try.func84, Try.ntmps84
  go_wp2
  go_loop [5] (fun i => ∃ k : Nat, k ≤ q ∧ i = .int .i64 k) (fun i => q - (intOf i).toNat)
  case atStart => exact ⟨0, Nat.zero_le _, rfl⟩
  case round =>
    obtain ⟨k, hk, rfl⟩ := hrel
    by_cases hlt : k < q
    · obtain ⟨b, o, rfl, _, c0⟩ := hs.str (by omega : k < n)
      clear hs
      have hl := HLo.out k hlt
      go_wp2
      go_round
      case rel => exact ⟨k + 1, by omega, by go_num⟩
      case measure => simp [intOf]; omega
    · obtain rfl : k = q := by omega
      have hkc : (k : Int) ≤ c := by omega
      have hkn : (k : Int) ≤ n := by omega
      have hk0 : (0 : Int) ≤ k := by omega
      have hst1 := Lib.hid (hs.take hqn)
      have hfl : (List.take k l ++ [s] ++ List.drop k l).length = n + 1 := by simp [HL.out]; omega
      have HFL := Lib.hid hfl
      clear hfl
      by_cases hkn2 : k < n
      · obtain ⟨b, o, rfl, _, c0⟩ := hs.str hkn2
        obtain ⟨hl, he⟩ := HST.out hkn2
        have hck : ¬ c = k := by omega
        have hsd : Hid (Sl w (some ⟨b, o + k, none⟩) (n - k) (l.drop k)) := by
          have h := hs.drop hqn
          have e : Flat.sz ByteArray = 1 := rfl
          rw [e, Nat.mul_one] at h
          exact h
        clear hs
        go_wp2_with fail
        clear c0
        go_region_held3 (fun w' => Below w.heap.size w w') (repeat' (first | assumption | exact bl_refl _ | refine bl_alloc ?_ _ | refine bl_drew ?_))
          (first
            | (refine step_appB rfl (.tmp 33) (.tmp 36) _ _ rfl el_str (xs := ([] : List ByteArray)) (ys := l.take k) (w0 := w) rfl rfl ?_ ?_ ?_ (by omega) ?_; (first | (focus (refine Own.below (w := w.alloc (.cells #[] 9)) (Own.built w _ (Nat.le_refl _)) ?_; (repeat' (first | assumption | exact bl_refl _ | refine bl_alloc ?_ _ | refine bl_drew ?_)); done)) | (focus (refine Own.below (w := (w.alloc (.cells #[.string s] 9)).alloc (.cells #[] 9)) ?_ ?_; (focus (have hbu := Own.built (α := ByteArray) (w.alloc (.cells #[.string s] 9)) 9 (base := w.heap.size) (by simp); simpa using hbu)); (repeat' (first | assumption | exact bl_refl _ | refine bl_alloc ?_ _ | refine bl_drew ?_)); done))); (repeat' (first | assumption | exact bl_refl _ | refine bl_alloc ?_ _ | refine bl_drew ?_)); (exact hst1.out.below (by repeat' (first | assumption | exact bl_refl _ | refine bl_alloc ?_ _ | refine bl_drew ?_))); (intro A1 c1 V1 ho1 hB1 hg1))
            | (refine step_appB rfl (.tmp 37) (.tmp 39) _ _ rfl el_str (xs := l.take k) (ys := [s]) (w0 := w) rfl rfl ?_ ?_ ?_ (by omega) ?_; (first | (simpa using ho1) | (exact Own.alloc (by simpa using ho1) _)); (repeat' (first | assumption | exact bl_refl _ | refine bl_alloc ?_ _ | refine bl_drew ?_)); (refine sl_str ?_; (first | (focus (go_simp; done)) | (focus (refine (hg1.cell_far _ ?_ ?_).trans ?_ <;> first | (simp; done) | (simp [Value.ownBlock]; done) | (go_simp; done) | (simp [Value.ownBlock]; omega))))); (intro A2 c2 V2 ho2 hB2 hg2))
            | (refine step_appB rfl (.tmp 40) (.tmp 43) _ _ rfl el_str (xs := l.take k ++ [s]) (ys := l.drop k) (w0 := w) rfl rfl ho2 hB2 (hsd.out.below hB2) (by omega) ?_; (intro A3 c3 V3 ho3 hB3 hg3)))
        all_goals
          (try simp only [Nat.zero_add] at ho3)
          (try simp only [Nat.add_zero] at ho3)
          rw [← HY.out] at ho3
          go_wp2
          all_goals (go_ret; exact retOwn_mk (by rw [HY.out, HFL.out]; first | done | omega) ho3 hB3)
      · obtain rfl : k = n := by omega
        have hsd : ∀ B, Hid (Sl w B 0 (l.drop k)) := fun B => by
          have e : l.drop k = [] := by rw [← HL.out]; simp
          rw [Hid, e]; exact Sl.nil _ _
        clear hs
        go_wp2_with fail
        go_region_held3 (fun w' => Below w.heap.size w w') (repeat' (first | assumption | exact bl_refl _ | refine bl_alloc ?_ _ | refine bl_drew ?_))
          (first
            | (refine step_appB rfl (.tmp 33) (.tmp 36) _ _ rfl el_str (xs := ([] : List ByteArray)) (ys := l.take k) (w0 := w) rfl rfl ?_ ?_ ?_ (by omega) ?_; (first | (focus (refine Own.below (w := w.alloc (.cells #[] 9)) (Own.built w _ (Nat.le_refl _)) ?_; (repeat' (first | assumption | exact bl_refl _ | refine bl_alloc ?_ _ | refine bl_drew ?_)); done)) | (focus (refine Own.below (w := (w.alloc (.cells #[.string s] 9)).alloc (.cells #[] 9)) ?_ ?_; (focus (have hbu := Own.built (α := ByteArray) (w.alloc (.cells #[.string s] 9)) 9 (base := w.heap.size) (by simp); simpa using hbu)); (repeat' (first | assumption | exact bl_refl _ | refine bl_alloc ?_ _ | refine bl_drew ?_)); done))); (repeat' (first | assumption | exact bl_refl _ | refine bl_alloc ?_ _ | refine bl_drew ?_)); (exact hst1.out.below (by repeat' (first | assumption | exact bl_refl _ | refine bl_alloc ?_ _ | refine bl_drew ?_))); (intro A1 c1 V1 ho1 hB1 hg1))
            | (refine step_appB rfl (.tmp 37) (.tmp 39) _ _ rfl el_str (xs := l.take k) (ys := [s]) (w0 := w) rfl rfl ?_ ?_ ?_ (by omega) ?_; (first | (simpa using ho1) | (exact Own.alloc (by simpa using ho1) _)); (repeat' (first | assumption | exact bl_refl _ | refine bl_alloc ?_ _ | refine bl_drew ?_)); (refine sl_str ?_; (first | (focus (go_simp; done)) | (focus (refine (hg1.cell_far _ ?_ ?_).trans ?_ <;> first | (simp; done) | (simp [Value.ownBlock]; done) | (go_simp; done) | (simp [Value.ownBlock]; omega))))); (intro A2 c2 V2 ho2 hB2 hg2))
            | (refine step_appB rfl (.tmp 40) (.tmp 43) _ _ rfl el_str (xs := l.take k ++ [s]) (ys := l.drop k) (w0 := w) rfl rfl ho2 hB2 ((hsd _).out.below hB2) (by omega) ?_; (intro A3 c3 V3 ho3 hB3 hg3)))
        all_goals
          (try simp only [Nat.zero_add] at ho3)
          (try simp only [Nat.add_zero] at ho3)
          rw [← HY.out] at ho3
          go_wp2
          all_goals (go_ret; exact retOwn_mk (by rw [HY.out, HFL.out]; first | done | omega) ho3 hB3)

theorem posS_ge {l : List ByteArray} {s : ByteArray} (h : sortB l = true) {j : Nat} (hj : posS l s ≤ j) (hl : j < l.length) : Op.bytesLess (nth l j).toList s.toList = false := by
  have h0 := posS_hi (l := l) (s := s) (by omega)
  by_cases e : j = posS l s
  · rw [e]; exact h0
  · rw [sort_pw, List.pairwise_iff_getElem] at h
    have h1 := h (posS l s) j (by omega) hl (by omega)
    rw [nth_ge, nth_ge] at h1
    cases hc : Op.bytesLess (nth l j).toList s.toList with
    | false => rfl
    | true => rw [bl_tr h1 hc] at h0; cases h0
theorem tup_i (I P : Nat) (b : Bool) (h : I = P) : Ending.returned (.tuple #[.int .i64 (I : Int), .bool b]) = .returned (.tuple #[.int .i64 (P : Int), .bool b]) := by rw [h]
theorem bsS_any (l : List ByteArray) (s : ByteArray) (A : Option Addr) (n c : Nat) (w : World) (hn : n ≤ 1048576) (hs : Sl w A n l) (hso : sortB l = true) :
    Calls Try.prog 131 #[.slice A n c, .string s] w fun e w' => ∃ b, e = .returned (.tuple #[.int .i64 ((posS l s : Nat) : Int), .bool b]) ∧ Below w.heap.size w w' := by
  have hl := hs.1
  by_cases h0 : n = 0
  · subst h0
    have hl0 : l = [] := List.length_eq_zero_iff.1 hl
    subst hl0
    exact (Any2.slices_BinarySearch_string_empty Try.laysSearchS A c s w).mono fun e w' ⟨he, hw⟩ => ⟨_, he, hw ▸ Below.refl _ _⟩
  · obtain ⟨b, o, rfl, hb, _⟩ := hs.str (k := 0) (by omega)
    have hle : posS l s ≤ n := by rw [← hl]; exact posS_le _ _
    have e := Lib.bsGo_spec (fun t => Op.bytesLess (if t < n then nth l t else s).toList s.toList) (posS l s)
      (fun t ht => by
        show Op.bytesLess (if t < n then nth l t else s).toList s.toList = true
        rw [if_pos (by omega)]; exact posS_lo ht)
      (fun t ht => by
        show Op.bytesLess (if t < n then nth l t else s).toList s.toList = false
        by_cases h : t < n
        · rw [if_pos h]; exact posS_ge hso ht (by omega)
        · rw [if_neg h]; exact bl_irr _) n 0 n (by omega) (by omega) hle
    refine (Any2.slices_BinarySearch_string Try.laysSearchS b o n c (fun t => if t < n then nth l t else s) s w (by omega) (fun j hj => ?_)).mono fun e' w' ⟨he, q, hw⟩ => ⟨_, he.trans (tup_i _ _ _ e), by rw [hw]; exact bl_drewN (bl_refl _) _⟩
    obtain ⟨b', o', e', _, hcell⟩ := hs.str hj
    injection e' with e'
    injection e' with e1 e2
    subst e1 e2
    show _ = some (Value.string (if j < n then nth l j else s))
    rw [if_pos hj]; exact hcell
set_option maxRecDepth 100000 in
set_option maxHeartbeats 4000000 in
theorem add_any (g o : Nat) (s : ByteArray) (A : Option Addr) (n c base : Nat) (l : List ByteArray) (w : World) (hn : n ≤ 1048575) (hc3 : w.cell? ⟨g, o + 3, none⟩ = some (.slice A n c)) (hf3 : w.frozen? ⟨g, o + 3, none⟩ = false) (ho : Own w base 9 (.slice A n c) l) (hg : ∀ x, Value.ownBlock (.slice A n c) = some x → x ≠ g) (hso : sortB l = true) (hbase : base ≤ w.heap.size) :
    Calls Try.prog 99 #[.pointer (some ⟨g, o, none⟩), .string s] w fun e w' => ∃ A' c' V, e = .returned (.tuple #[]) ∧ w' = V.setCell ⟨g, o + 3, none⟩ (.slice A' (n + 1) c') ∧ Own V base 9 (.slice A' (n + 1) c') (insQ l (posS l s) s) ∧ OnlyF (Value.ownBlock (.slice A n c)).toList w V ∧ ∀ x, Value.ownBlock (.slice A' (n + 1) c') = some x → Value.ownBlock (.slice A n c) = some x ∨ w.heap.size ≤ x := by
  have hgz : g < w.heap.size := World.block_lt_of_cell? w _ hc3
  have hple : posS l s ≤ n := by rw [← ho.sl.1]; exact posS_le _ _
  have HG : Hid (∀ k, k ∈ (Value.ownBlock (.slice A n c)).toList → k ≠ g) := fun k hk => hg k (by simpa using hk)
  have HO := Lib.hid ho
  have HLT : Hid (∀ k, Value.ownBlock (.slice A n c) = some k → k < w.heap.size) := fun k hk => (ho.lt k hk).2
  have HSO := Lib.hid hso
  have HQ : Hid (insAt l (posS l s) s = insQ l (posS l s) s) := by rw [Hid]; unfold insAt insQ; simp
  have HP : Hid (∀ V, Sl V A n l → Calls Try.prog 131 #[.slice A n c, .string s] V fun e w' => ∃ b, e = .returned (.tuple #[.int .i64 ((posS l s : Nat) : Int), .bool b]) ∧ Below V.heap.size V w') := fun V hV => bsS_any l s A n c V (by omega) hV hso
  obtain ⟨P, hP⟩ : ∃ P, P = posS l s := ⟨_, rfl⟩
  rw [← hP] at hple HQ HP ⊢
  clear hg ho hso hP
  go_enter Try.func99, Try.ntmps99
  go_wp2_with fail
  refine (HP.out _ HO.out.sl).mono ?_
  rintro e V ⟨bb, rfl, hV⟩
  have y3 := cell_later hV hc3
  have f3 := frozen_later hV hgz hf3
  have hgV : g < V.heap.size := World.block_lt_of_cell? V _ y3
  have HOV := Lib.hid (HO.out.below hV)
  have hVz := hV.size
  have HV1 := Lib.hid hV
  clear hc3 hf3 hV
  go_wp2_with fail
  refine (insert_str l A n c P base V.heap.size 1 s _ (by omega) hple (HOV.out.alloc _) (by simp only [World.size_alloc]; omega) (by simp only [World.alloc, Array.getElem?_push_size]; rfl) (fun g' hA hv => ?_)).mono ?_
  · have := HLT.out g' (by rw [hA]; rfl)
    omega
  rintro e V2 ⟨A2, c2, rfl, ho2, hg2, hbk2⟩
  have HBK : Hid (∀ x, Value.ownBlock (.slice A2 (n + 1) c2) = some x → Value.ownBlock (.slice A n c) = some x ∨ w.heap.size ≤ x) := fun x hx => (hbk2 x hx).imp id (fun h => by simp only [World.size_alloc] at h; omega)
  clear hbk2
  have hof : OnlyF (Value.ownBlock (.slice A n c)).toList V V2 := (OnlyF.alloc (OnlyF.refl _ _) _).trans (OnlyF.of_gb hg2)
  have x3 := hof.keeps y3 (fun hm' => HG.out _ hm' rfl)
  have k3 := (hof.frozen (p := ⟨g, o + 3, none⟩) hgV (fun hm' => HG.out _ hm' rfl)).trans f3
  have hgV2 : g < V2.heap.size := World.block_lt_of_cell? V2 _ x3
  have HOF : Hid (OnlyF (Value.ownBlock (.slice A n c)).toList w V2) := (OnlyF.below HV1.out).trans hof
  have HO2 := Lib.hid ho2
  clear hg2 ho2 y3 f3 hof
  go_wp2
  go_end0
  exact ⟨A2, c2, V2, rfl, rfl, by rw [← HQ.out]; exact HO2.out, HOF.out, HBK.out⟩

end Go.Proofs.Ytnaadihbkiakeaa

namespace Go.Proofs.Ytnaadihbkiakeaa
open Go.RowKit

theorem rfPutQ (l : List ByteArray) (s : ByteArray) (A : Option Addr) (n c : Nat) (w : World) (hn : n ≤ 1048576) (hc : n ≤ c) (hcm : (c : Int) ≤ 9223372036854775807) (hs : Sl w A n l) (hno : s ∉ l) :
    Calls Try.prog 84 #[.slice A n c, .string s] w (RetOwn w 9 (insQ l (posS l s) s)) :=
  rfPut_any l s A n c (posS l s) w hn hc hcm hs (by rw [← hs.1]; exact posS_le _ _) (fun j hj => posS_lo hj) (fun hq => by
    have hq' : posS l s < l.length := by rw [hs.1]; exact hq
    refine ⟨posS_hi hq', ?_⟩
    cases hc : ((nth l (posS l s)).toList == s.toList) with
    | false => rfl
    | true =>
      have h := nth_mem hq'
      rw [bytes_inj (a := nth l (posS l s)) (b := s) (by simpa using hc)] at h
      exact absurd h hno)
theorem hv_ad {xs : List Incident} {j : Nat} {s : ByteArray} (hv : ∀ x, x ∈ xs → ∀ y, y ∈ x.Names → y.size ≤ maxLen) (hz : s.size ≤ maxLen) (hj : j < xs.length) : ∀ x, x ∈ xs.set j (adX (nth xs j) s) → ∀ y, y ∈ x.Names → y.size ≤ maxLen := fun x hx => by
  rcases List.mem_or_eq_of_mem_set hx with hx | rfl
  · exact hv x hx
  · intro y hy
    rcases insQ_mem.1 hy with rfl | hy
    · exact hz
    · exact hv _ (nth_mem hj) y hy
set_option maxRecDepth 100000 in
set_option maxHeartbeats 8000000 in
theorem ixAdd_any (xs : List Incident) (j : Nat) (nm : ByteArray) (A : Option Addr) (n c : Nat) (w : World) (hn : n ≤ 1048576) (hs : Sl w A n xs) (hin : ∀ x, x ∈ xs → x.Names.length ≤ 1048576) (hj : j < n) (hno : nm ∉ (nth xs j).Names) :
    Calls Try.prog 103 #[.slice A n c, .int .i64 j, .string nm] w (RetOwnX incidentN w 76 9 (xs.set j (adX (nth xs j) nm))) := by
  have HIN := Lib.hid hin
  have HL := Lib.hid hs.1
  clear hin
  go_enter Try.func103, Try.ntmps103
  have hk0 := bl_refl w
  go_wp2_with fail
  refine (ixOwn_any xs _ _ _ _ hn hs HIN.out).mono ?_
  rintro e V1 ⟨A_c, c_c, F_c, rfl, ho_c, hb1⟩
  have hB1 := bl_trans (a := w) (bl_refl _) hb1
  have hk1 := bl_trans hk0 hB1
  have z1 := Lib.hid hB1.size
  have hjx : j < xs.length := by rw [HL.out]; exact hj
  obtain ⟨ps, hp, _, hop⟩ := ho_c
  obtain ⟨g, rfl⟩ := hop.out.form (by omega : 0 < xs.length)
  have hjl : j < ps.length := by rw [hop.len]; exact hjx
  obtain ⟨p, hpq⟩ : ∃ p, ps[j]? = some p := ⟨_, List.getElem?_eq_getElem hjl⟩
  have he : nth (ps.map Prod.fst) j = p.1 := nth_get (by rw [List.getElem?_map, hpq]; rfl)
  have hx : Hid (nth xs j = incidentN.of p.1 p.2) := nth_get (by rw [← hp]; unfold Nest.plain; rw [List.getElem?_map, hpq]; rfl)
  have hjc : xs.length ≤ c_c := hop.out.cap.1
  have hjI : (j : Int) < xs.length := by omega
  have hj0 : (0 : Int) ≤ j := by omega
  have HW := Lib.hid hk1
  have hnl : (nth xs j).Names.length ≤ 1048576 := HIN.out _ (nth_mem hjx)
  have d0 : V1.cell? ⟨g, j * 4, none⟩ = some (.int .i64 (nth (ps.map Prod.fst) j).Number) := hop.out.cellAt hjx 0 _ rfl
  have d1 : V1.cell? ⟨g, j * 4 + 1, none⟩ = some (.int .i64 (nth (ps.map Prod.fst) j).Node) := hop.out.cellAt hjx 1 _ rfl
  have d2 : V1.cell? ⟨g, j * 4 + 2, none⟩ = some (.bool (nth (ps.map Prod.fst) j).Closed) := hop.out.cellAt hjx 2 _ rfl
  have d3 : V1.cell? ⟨g, j * 4 + 3, none⟩ = some (.slice (nth (ps.map Prod.fst) j).A (nth (ps.map Prod.fst) j).n (nth (ps.map Prod.fst) j).c) := hop.out.cellAt hjx 3 _ rfl
  have f0 := hop.out.frozenAt (j * 4)
  have f1 := hop.out.frozenAt (j * 4 + 1)
  have f2 := hop.out.frozenAt (j * 4 + 2)
  have f3 := hop.out.frozenAt (j * 4 + 3)
  rw [he] at d0 d1 d2 d3
  have hin := hop.inn j p hpq
  have hpl : (nth xs j).Names = p.2 := by rw [hx.out]; rfl
  have hpn : p.2.length = p.1.n := hin.sl.1
  have hpnn : p.1.n ≤ 1048576 := by rw [← hpn, ← hpl]; exact hnl
  obtain ⟨hpc, hpm⟩ := hin.cap
  have hpm2 : (p.1.c : Int) ≤ 9223372036854775807 := by unfold maxLen at hpm; omega
  have HR : Hid (∀ V, Sl V p.1.A p.1.n p.2 → Calls Try.prog 84 #[.slice p.1.A p.1.n p.1.c, .string nm] V (RetOwn V 9 (insQ p.2 (posS p.2 nm) nm))) := fun V hV => rfPutQ p.2 nm _ _ _ V hpnn hpc hpm2 hV (by rw [← hpl]; exact hno)
  obtain ⟨M, hM⟩ : ∃ M, M = insQ p.2 (posS p.2 nm) nm := ⟨_, rfl⟩
  rw [← hM] at HR
  have HM := Lib.hid hM
  have HPL := Lib.hid hpl
  have HOP := Lib.hid hop
  have HIN2 : Hid (Own V1 w.heap.size 9 (.slice p.1.A p.1.n p.1.c) p.2) := hin
  have hgz : g < V1.heap.size := World.block_lt_of_cell? _ _ d0
  clear hs hin hop hk0 hB1 hk1 hno hpl hpn hpc hpm hpm2 hnl hM
  go_wp2_with fail
  refine (HR.out _ (HIN2.out.sl.below (bl_alloc (bl_refl _) _))).mono ?_
  rintro e V2 ⟨A2, c2, rfl, ho2, hb2⟩
  have y0 : V2.cell? ⟨V1.heap.size, 0, none⟩ = some (.int .i64 p.1.Number) := cell_later hb2 (by go_simp)
  have y1 : V2.cell? ⟨V1.heap.size, 1, none⟩ = some (.int .i64 p.1.Node) := cell_later hb2 (by go_simp)
  have y2 : V2.cell? ⟨V1.heap.size, 2, none⟩ = some (.bool p.1.Closed) := cell_later hb2 (by go_simp)
  have y3 : V2.cell? ⟨V1.heap.size, 3, none⟩ = some (.slice p.1.A p.1.n p.1.c) := cell_later hb2 (by go_simp)
  have z3 : V2.frozen? ⟨V1.heap.size, 3, none⟩ = false := frozen_later hb2 (by simp) (by go_simp)
  have hz2 : V1.heap.size < V2.heap.size := World.block_lt_of_cell? _ _ y0
  have HB2 : Hid (Below V1.heap.size V1 V2) := bl_trans (bl_alloc (bl_refl _) _) hb2
  have HO2 : Hid (Own V2 (V1.heap.size + 1) 9 (.slice A2 M.length c2) M) := Own.mono ho2 (by simp)
  clear ho2 hb2 d0 d1 d2 d3 f0 f1 f2 f3
  go_upto_region 4 with fail
  refine wp_hideI (R := fun X => OnlyF [V1.heap.size] V2 X ∧ V1.heap.size < X.heap.size ∧ X.cell? ⟨V1.heap.size, 0, none⟩ = some (.int .i64 p.1.Number) ∧ X.cell? ⟨V1.heap.size, 1, none⟩ = some (.int .i64 p.1.Node) ∧ X.cell? ⟨V1.heap.size, 2, none⟩ = some (.bool p.1.Closed) ∧ X.cell? ⟨V1.heap.size, 3, none⟩ = some (.slice A2 M.length c2)) ⟨OnlyF.set (OnlyF.refl _ _) (List.mem_singleton.2 rfl) _, by simpa using hz2, by go_simp, by go_simp, by go_simp, by go_simp⟩ (fun X ⟨hfX, hXz, e0, e1, e2, e3⟩ => ?_)
  clear y0 y1 y2 y3 z3
  have hbX : Below V1.heap.size V1 X := below_only HB2.out hfX (fun y hy => by rw [List.mem_singleton.1 hy]; exact ⟨Nat.le_refl _, hz2⟩) (Nat.le_refl _)
  have hop := HOP.out.below hbX
  have d0 : X.cell? ⟨g, j * 4, none⟩ = some (.int .i64 (nth (ps.map Prod.fst) j).Number) := hop.out.cellAt hjx 0 _ rfl
  have d1 : X.cell? ⟨g, j * 4 + 1, none⟩ = some (.int .i64 (nth (ps.map Prod.fst) j).Node) := hop.out.cellAt hjx 1 _ rfl
  have d2 : X.cell? ⟨g, j * 4 + 2, none⟩ = some (.bool (nth (ps.map Prod.fst) j).Closed) := hop.out.cellAt hjx 2 _ rfl
  have d3 : X.cell? ⟨g, j * 4 + 3, none⟩ = some (.slice (nth (ps.map Prod.fst) j).A (nth (ps.map Prod.fst) j).n (nth (ps.map Prod.fst) j).c) := hop.out.cellAt hjx 3 _ rfl
  have f0 := hop.out.frozenAt (j * 4)
  have f1 := hop.out.frozenAt (j * 4 + 1)
  have f2 := hop.out.frozenAt (j * 4 + 2)
  have f3 := hop.out.frozenAt (j * 4 + 3)
  have HOX := Lib.hid hop
  have HOM : Hid (Own X (V1.heap.size + 1) 9 (.slice A2 M.length c2) M) := HO2.out.only hfX (fun y hy hm => by have := (HO2.out.lt y (by simpa using hy)).1; have := List.mem_singleton.1 hm; omega)
  have HBX := Lib.hid hbX
  have hgX : g < X.heap.size := by omega
  have hgB : g ≠ V1.heap.size := by omega
  clear hop hfX hbX
  go_wp2
  go_ret
  refine retOwnX_mk ?_ ((HOX.out.mono (b := w.heap.size) (Nat.le_refl _)).upd (p' := ((⟨p.1.Number, p.1.Node, p.1.Closed, A2, M.length, c2⟩ : IncidentR), M)) hpq (HOX.out.out.put hjx (⟨p.1.Number, p.1.Node, p.1.Closed, A2, M.length, c2⟩ : IncidentR)) ?_ ?_ ?_) ?_
  · unfold Nest.plain at hp ⊢; rw [List.map_set, hp, HM.out]; unfold adX; rw [HPL.out, hx.out]; rfl
  · refine Own.mono (base := V1.heap.size + 1) ?_ (by have := HW.out.size; omega)
    repeat' (first | exact HOM.out | refine Own.set ?_ (by omega) _)
  · intro x hx1
    refine .inr fun q' r hr hx2 => ?_
    have h1 := (HOM.out.lt x hx1).1
    have h2 := ((HOP.out.inn q' r hr).lt x hx2).2
    omega
  · repeat' (first | exact OnlyF.refl _ _ | refine OnlyF.set ?_ List.mem_cons_self _)
  · repeat' (first | exact bl_trans HW.out HBX.out | refine bl_set ?_ (by have := (HOX.out.out.lt g rfl).1; simp only []; omega) _)

end Go.Proofs.Ytnaadihbkiakeaa

namespace Go.Proofs.Ytnaadihbkiakeaa
open Go.RowKit

set_option maxRecDepth 100000 in
set_option maxHeartbeats 4000000 in
theorem specCommit_any (xs : List Incident) (number : Int) (nm : ByteArray) (A : Option Addr) (n c : Nat) (w : World) (hz : nm.size ≤ maxLen) (hn : n ≤ 1048576) (hc : n ≤ c) (hs : Sl w A n xs) (hv : ∀ x, x ∈ xs → ∀ y, y ∈ x.Names → y.size ≤ maxLen) (hin : ∀ x, x ∈ xs → x.Names.length ≤ 1048576) :
    Calls Try.prog 35 #[.slice A n c, .int .i64 number, .string nm] w (RetOwnX2 incidentN w 76 9 (cmF xs number nm)) := by
  have HV := Lib.hid hv
  have HIN := Lib.hid hin
  have HL := Lib.hid hs.1
  have hn' : (n : Int) ≤ 9223372036854775807 := by omega
  clear hv hin
  go_enter Try.func35, Try.ntmps35
  have hk0 := bl_refl w
  go_wp2_with fail
  refine (ixAsked_any xs number nm _ _ _ _ hz hn hc hs HV.out).mono ?_
  rintro e V1 ⟨rfl, hb1⟩
  have hB1 := bl_trans (a := w) (bl_refl _) hb1
  have hk1 := bl_trans hk0 hB1
  have z1 := Lib.hid hB1.size
  cases h0 : askB xs number nm
  · have Hz := Lib.hid (cmF_no (xs := xs) (number := number) (s := nm) (by simp only [askB] at h0; cases e1 : incsB xs <;> cases e2 : nameB nm <;> cases e3 : decide (0 ≤ openI xs number) <;> simp_all))
    clear h0
    go_wp2
    go_ret2
    exact retOwnX2_nil (by decide) Hz.out hk1
  have H0 := Lib.hid (askB_yes h0)
  clear h0
  go_wp2_with fail
  refine (ixOf_any xs nm _ _ _ _ hn' (hs.below hk1)).mono ?_
  rintro e V2 ⟨rfl, hb2⟩
  have hB2 := bl_trans (a := V1) (bl_refl _) hb2
  have hk2 := bl_trans hk1 hB2
  have z2 := Lib.hid hB2.size
  clear hk1
  obtain ⟨q, hq⟩ : ∃ q, q = atB xs nm := ⟨_, rfl⟩
  rw [← hq]
  by_cases h9 : q < 0
  rotate_left
  · have hd2 : decide (q ≥ 0) = true := by simp; omega
    have Hz := Lib.hid (cmF_no (xs := xs) (number := number) (s := nm) (by rw [← hq, decide_eq_false h9]; simp))
    clear hq h9
    go_wp2
    go_ret2
    exact retOwnX2_nil (by decide) Hz.out hk2
  have hd2 : decide (q ≥ 0) = false := by simp; omega
  have HA : Hid (atB xs nm < 0) := by rw [Hid, ← hq]; exact h9
  clear hq h9
  have hge := indexF_range (isO number) xs
  have hge0 : 0 ≤ openI xs number := H0.out.2.1
  go_wp2_with fail
  refine (ixFind_any xs number _ _ _ _ hn' (hs.below hk2)).mono ?_
  rintro e V3 ⟨rfl, hb3⟩
  have hB3 := bl_trans (a := V2) (bl_refl _) hb3
  have hk3 := bl_trans hk2 hB3
  have z3 := Lib.hid hB3.size
  clear hk2
  obtain ⟨i, hi⟩ : ∃ i, i = openI xs number := ⟨_, rfl⟩
  have hge2 : i < xs.length := by rw [hi]; exact hge.2
  rw [← hi] at hge0 ⊢
  have hi' := Lib.hid hi
  clear hi hge
  obtain ⟨j, rfl⟩ := Int.eq_ofNat_of_zero_le hge0
  have hjn : j < n := by have := HL.out; omega
  have hjx : j < xs.length := by omega
  clear hge2 hge0
  have HGd := Lib.hid (commit_good H0.out.1 H0.out.2.2 hi'.out.symm (at_none HA.out))
  have hno : nm ∉ (nth xs j).Names := at_none HA.out j hjx
  have HX := Lib.hid hjx
  clear hjx
  go_wp2_with fail
  refine (ixAdd_any xs j nm _ _ _ _ hn (hs.below hk3) HIN.out hjn hno).mono ?_
  rintro e V4 ⟨A_c, c_c, F_c, rfl, ho_c, hb4⟩
  have hB4 := bl_trans (a := V3) (bl_refl _) hb4
  have hk4 := bl_trans hk3 hB4
  have z4 := Lib.hid hB4.size
  clear hk3
  obtain ⟨ps, hp, _, hop⟩ := ho_c
  have HOP := Lib.hid (hop.mono (b := w.heap.size) (by have := z1.out; have := z2.out; have := z3.out; have := z4.out; omega))
  have hsl := hop.sl
  rw [hp] at hsl
  have hcc := hop.out.cap.1
  have hlx : xs.length ≤ 1048576 := by rw [HL.out]; exact hn
  rw [List.length_set] at hsl hcc
  clear hop hs hno
  go_wp2_with fail
  refine (ixIf_any (xs.set j (adX (nth xs j) nm)) _ _ _ _ _ (by omega) hcc hsl (hv_ad HV.out hz HX.out) HGd.out).mono ?_
  rintro e V9 ⟨rfl, hb9⟩
  have hbk := bl_trans hk4 hb9
  have HO9 := Lib.hid (HOP.out.below hb9)
  clear hsl hcc hb9
  try rw [Hid, List.length_set] at HO9
  cases h8 : decide ((nth xs j).Names.length < 12)
  · have Hz := Lib.hid (cmF_no (xs := xs) (number := number) (s := nm) (by rw [hi'.out.symm]; show (_ && decide ((nth xs j).Names.length < 12)) = false; rw [h8]; simp))
    clear h8 HO9 hlx
    go_wp2
    go_ret2
    exact retOwnX2_nil (by decide) Hz.out hbk
  have Hz := Lib.hid (cmF_yes H0.out.1 H0.out.2.2 hi'.out.symm HA.out (of_decide_eq_true h8))
  clear h8 hlx
  go_wp2
  go_ret2
  exact retOwnX2_mk Hz.out hp HO9 hbk

end Go.Proofs.Ytnaadihbkiakeaa

namespace Go.Proofs.Ytnaadihbkiakeaa
open Go.RowKit

set_option maxRecDepth 100000 in
set_option maxHeartbeats 4000000 in
theorem ixClose_any (xs : List Incident) (j : Nat) (A : Option Addr) (n c : Nat) (w : World) (hn : n ≤ 1048576) (hs : Sl w A n xs) (hin : ∀ x, x ∈ xs → x.Names.length ≤ 1048576) (hj : j < n) :
    Calls Try.prog 109 #[.slice A n c, .int .i64 j] w (RetOwnX incidentN w 76 9 (xs.set j (clX (nth xs j)))) := by
  have HIN := Lib.hid hin
  have HL := Lib.hid hs.1
  clear hin
  go_enter Try.func109, Try.ntmps109
  have hk0 := bl_refl w
  go_wp2_with fail
  refine (ixOwn_any xs _ _ _ _ hn hs HIN.out).mono ?_
  rintro e V1 ⟨A_c, c_c, F_c, rfl, ho_c, hb1⟩
  have hB1 := bl_trans (a := w) (bl_refl _) hb1
  have hk1 := bl_trans hk0 hB1
  have z1 := Lib.hid hB1.size
  have hjx : j < xs.length := by rw [HL.out]; exact hj
  obtain ⟨ps, hp, _, hop⟩ := ho_c
  obtain ⟨g, rfl⟩ := hop.out.form (by omega : 0 < xs.length)
  have hjl : j < ps.length := by rw [hop.len]; exact hjx
  obtain ⟨p, hpq⟩ : ∃ p, ps[j]? = some p := ⟨_, List.getElem?_eq_getElem hjl⟩
  have he : nth (ps.map Prod.fst) j = p.1 := nth_get (by rw [List.getElem?_map, hpq]; rfl)
  have hx : Hid (nth xs j = incidentN.of p.1 p.2) := nth_get (by rw [← hp]; unfold Nest.plain; rw [List.getElem?_map, hpq]; rfl)
  obtain ⟨b, o, A', c', rfl, hbz, c0, c1, c2, c3, _, _⟩ := (hs.below hk1).incident hj
  have hjc : xs.length ≤ c_c := hop.out.cap.1
  have hjI : (j : Int) < xs.length := by omega
  have hjN : (j : Int) < n := by omega
  have hj0 : (0 : Int) ≤ j := by omega
  have HW := Lib.hid hk1
  clear hs c2 c3
  go_wp2_with fail
  go_still_tail 14, (by kernel_rfl)
  change wpList _ _ _ _ _ V1.drew
  obtain ⟨V2, hV2⟩ : ∃ U, U = V1.drew := ⟨_, rfl⟩
  rw [← hV2]
  have hd2 : Below V1.heap.size V1 V2 := by rw [hV2]; exact bl_drew (bl_refl _)
  clear hV2
  have hop := hop.below hd2
  have HW2 := Lib.hid (bl_trans HW.out hd2)
  have d0 : V2.cell? ⟨g, j * 4, none⟩ = some (.int .i64 (nth (ps.map Prod.fst) j).Number) := hop.out.cellAt hjx 0 _ rfl
  have d1 : V2.cell? ⟨g, j * 4 + 1, none⟩ = some (.int .i64 (nth (ps.map Prod.fst) j).Node) := hop.out.cellAt hjx 1 _ rfl
  have d2 : V2.cell? ⟨g, j * 4 + 2, none⟩ = some (.bool (nth (ps.map Prod.fst) j).Closed) := hop.out.cellAt hjx 2 _ rfl
  have d3 : V2.cell? ⟨g, j * 4 + 3, none⟩ = some (.slice (nth (ps.map Prod.fst) j).A (nth (ps.map Prod.fst) j).n (nth (ps.map Prod.fst) j).c) := hop.out.cellAt hjx 3 _ rfl
  have f0 := hop.out.frozenAt (j * 4)
  have f1 := hop.out.frozenAt (j * 4 + 1)
  have f2 := hop.out.frozenAt (j * 4 + 2)
  have f3 := hop.out.frozenAt (j * 4 + 3)
  have HOP := Lib.hid (hop.mono (b := w.heap.size) (by have := z1.out; omega))
  have hgz := (hop.out.lt g rfl).1
  clear hop
  go_wp2
  go_ret
  refine retOwnX_mk ?_ (HOP.out.upd (p' := ((⟨(nth xs j).Number, (nth xs j).Node, true, none, 0, 0⟩ : IncidentR), ([] : List ByteArray))) hpq (HOP.out.out.put hjx (⟨(nth xs j).Number, (nth xs j).Node, true, none, 0, 0⟩ : IncidentR)) (Own.nil _ _ _) (fun x hx => absurd hx (by simp [incidentN, Value.ownBlock])) ?_) ?_
  · unfold Nest.plain at hp ⊢; rw [List.map_set, hp]; rfl
  · repeat' (first | exact OnlyF.refl _ _ | refine OnlyF.set ?_ List.mem_cons_self _)
  · repeat' (first | exact HW2.out | refine bl_set ?_ (by have := (HOP.out.out.lt g rfl).1; simp only []; omega) _)
end Go.Proofs.Ytnaadihbkiakeaa

namespace Go.Proofs.Ytnaadihbkiakeaa
open Go.RowKit

def opE (xs : List Incident) (node : Int) : List Incident × Int × Bool := if (decide (xs.length < 8) && decide (newN xs ≤ 999)) then (xs ++ [newX xs node], newN xs, true) else ([], 0, false)
theorem opE_no {xs : List Incident} {node : Int} (h : (decide (xs.length < 8) && decide (newN xs ≤ 999)) = false) : opE xs node = ([], 0, false) := by unfold opE; rw [if_neg (by rw [h]; exact Bool.false_ne_true)]
theorem opE_yes {xs : List Incident} {node : Int} (h : (decide (xs.length < 8) && decide (newN xs ≤ 999)) = true) : opE xs node = (xs ++ [newX xs node], newN xs, true) := by unfold opE; rw [if_pos h]
theorem opF_E {xs : List Incident} {node : Int} (h : incsB xs = true) (h1 : inB node 0 13 = true) : opF xs node = opE xs node := by unfold opF opE; rw [h, h1]; rfl
theorem opF_0 {xs : List Incident} {node : Int} (h : (incsB xs && inB node 0 13) = false) : opF xs node = ([], 0, false) := opF_no (by rw [h]; rfl)

end Go.Proofs.Ytnaadihbkiakeaa

namespace Go.Proofs.Ytnaadihbkiakeaa
open Go.RowKit

theorem hvn_new {xs : List Incident} {node : Int} (hv : ∀ x, x ∈ xs → ∀ y, y ∈ x.Names → y.size ≤ maxLen) : ∀ x, x ∈ xs ++ [newX xs node] → ∀ y, y ∈ x.Names → y.size ≤ maxLen := fun x hx => by
  rcases List.mem_append.1 hx with hx | hx
  · exact hv x hx
  · rw [List.mem_singleton.1 hx]; intro y hy; cases hy
set_option maxRecDepth 100000 in
set_option maxHeartbeats 4000000 in
theorem specOpenIncident_pos (xs : List Incident) (node : Int) (A : Option Addr) (n c : Nat) (w : World) (hn : n ≤ 1048576) (hc : n ≤ c) (hs : Sl w A n xs) (hv : ∀ x, x ∈ xs → ∀ y, y ∈ x.Names → y.size ≤ maxLen) (hin : ∀ x, x ∈ xs → x.Names.length ≤ 1048576) (h0 : 0 < n) :
    Calls Try.prog 125 #[.slice A n c, .int .i64 node] w (RetOwnX3 incidentN w 76 9 (opF xs node)) := by
  have HV := Lib.hid hv
  have HIN := Lib.hid hin
  have HL := Lib.hid hs.1
  have hn' : (n : Int) ≤ 9223372036854775807 := by omega
  clear hv hin
  have hxn : xs.length ≤ 1048576 := by rw [HL.out]; exact hn
  have hkd : decide ((n : Int) > 0) = true := by simpa using h0
  have i1 : IntKind.i64.wrap ((n : Int) - 1) = (n : Int) - 1 := IntWalk.i64_in _ (by omega)
  have i3 : ((n : Int) - 1).toNat = n - 1 := by omega
  have i2 : 0 ≤ (n : Int) - 1 := by omega
  have i4 : (n : Int) - 1 < n := by omega
  have Hi1 := Lib.hid i1
  clear i1
  go_enter Try.func125, Try.ntmps125
  have hk0 := bl_refl w
  go_wp2_with fail
  refine (ixGood_any xs _ _ _ _ hn' hc hs HV.out).mono ?_
  rintro e V1 ⟨rfl, hb1⟩
  have hB1 := bl_trans (a := w) (bl_refl _) hb1
  have hk1 := bl_trans hk0 hB1
  have z1 := Lib.hid hB1.size
  cases h0 : incsB xs
  · have Hz := Lib.hid (opF_0 (xs := xs) (node := node) (by rw [h0]; first | done | simp))
    clear h0
    go_wp2
    go_ret3
    exact retOwnX3_nil (by decide) Hz.out hk1
  have H0 := Lib.hid h0
  clear h0
  go_wp2_with fail
  refine (apNode_any node _).mono ?_
  rintro _ V1 ⟨rfl, rfl⟩
  cases h1 : inB node 0 13
  · have Hz := Lib.hid (opF_0 (xs := xs) (node := node) (by rw [h1]; first | done | simp))
    clear h1
    go_wp2
    go_ret3
    exact retOwnX3_nil (by decide) Hz.out hk1
  have H1 := Lib.hid h1
  clear h1
  have HE := Lib.hid (opF_E H0.out H1.out)
  have hvi := incs_iff.1 H0.out
  have HGd := Lib.hid (open_good hvi H1.out)
  obtain ⟨b, o, A', c', rfl, hbz, c0, c1, c2, c3, _, _⟩ := (hs.below hk1).incident (k := n - 1) (by omega)
  have hN : newN xs = (nth xs (n - 1)).Number + 1 := by unfold newN; rw [if_pos (by rw [HL.out]; exact h0), HL.out]
  have hnb := incB_num (hvi.one (n - 1) (by rw [HL.out]; omega))
  have i1 := Hi1.out
  have i5 : IntKind.i64.wrap ((nth xs (n - 1)).Number + 1) = (nth xs (n - 1)).Number + 1 := IntWalk.i64_in _ (by omega)
  have HN := Lib.hid hN
  clear c1 c2 c3 hN hvi hnb
  go_wp2_with fail
  refine (ixOwn_any xs _ _ _ _ hn (hs.below hk1) HIN.out).mono ?_
  rintro e V2 ⟨A_c, c_c, F_c, rfl, ho_c, hb2⟩
  have hB2 := bl_trans (a := V1) (bl_refl _) hb2
  have hk2 := bl_trans hk1 hB2
  have z2 := Lib.hid hB2.size
  clear hk1
  obtain ⟨ps, hp, _, hop⟩ := ho_c
  have Hop := Lib.hid (hop.mono (b := w.heap.size) (by have := z1.out; have := z2.out; omega))
  have hB := hk2
  clear hs hop c0
  go_wp2_with ((at_builtin; refine wpList_app1g rfl (.tmp 32) (.tmp 36) _ _ rfl el_inc (⟨((nth xs (n - 1)).Number + 1), node, false, none, 0, 0⟩ : IncidentR) rfl Hop.out.out hB rfl (by simp) (by omega) ?_; intro A2 c2 w2 ho2 hb2 hg2))
  rw [← HN.out] at ho2
  have hsn := Hop.out.snoc (r := (⟨newN xs, node, false, none, 0, 0⟩ : IncidentR)) (l := ([] : List ByteArray)) (m := xs.length + 1) ho2 (Own.nil _ _ _) ((OnlyF.alloc (OnlyF.refl _ _) _).trans (OnlyF.of_gb hg2)) (fun x hx => absurd hx (by simp [incidentN, Value.ownBlock]))
  have hpl : incidentN.plain (ps ++ [((⟨newN xs, node, false, none, 0, 0⟩ : IncidentR), ([] : List ByteArray))]) = xs ++ [newX xs node] := by unfold Nest.plain at hp ⊢; rw [List.map_append, hp]; rfl
  have hs2 : Sl w2 A2 (xs.length + 1) (xs ++ [newX xs node]) := by rw [← hpl]; exact hsn.sl
  have hc2 := hsn.out.cap.1
  refine (ixIf_any (xs ++ [newX xs node]) _ _ _ _ _ (by omega) hc2 hs2 (hvn_new HV.out) HGd.out).mono ?_
  rintro e V9 ⟨rfl, hb9⟩
  have Hsn := Lib.hid (hsn.below hb9)
  have hbb := bl_trans hb2 hb9
  clear hs2 hsn ho2 hg2 hb9
  cases h8 : (decide (xs.length < 8) && decide (newN xs ≤ 999))
  · have H8 := Lib.hid h8
    clear h8
    go_wp2
    go_ret3
    exact retOwnX3_nil (by decide) (HE.out.trans (opE_no H8.out)) hbb
  · have H8 := Lib.hid h8
    clear h8
    go_wp2
    go_ret3
    rw [← HN.out]
    exact retOwnX3_mk (HE.out.trans (opE_yes H8.out)) hpl Hsn.out hbb
set_option maxRecDepth 100000 in
set_option maxHeartbeats 4000000 in
theorem specOpenIncident_zero (xs : List Incident) (node : Int) (A : Option Addr) (n c : Nat) (w : World) (hn : n ≤ 1048576) (hc : n ≤ c) (hs : Sl w A n xs) (hv : ∀ x, x ∈ xs → ∀ y, y ∈ x.Names → y.size ≤ maxLen) (hin : ∀ x, x ∈ xs → x.Names.length ≤ 1048576) (h0 : ¬ 0 < n) :
    Calls Try.prog 125 #[.slice A n c, .int .i64 node] w (RetOwnX3 incidentN w 76 9 (opF xs node)) := by
  have HV := Lib.hid hv
  have HIN := Lib.hid hin
  have HL := Lib.hid hs.1
  have hn' : (n : Int) ≤ 9223372036854775807 := by omega
  clear hv hin
  have hxn : xs.length ≤ 1048576 := by rw [HL.out]; exact hn
  have hkd : decide ((n : Int) > 0) = false := by simp; omega
  go_enter Try.func125, Try.ntmps125
  have hk0 := bl_refl w
  go_wp2_with fail
  refine (ixGood_any xs _ _ _ _ hn' hc hs HV.out).mono ?_
  rintro e V1 ⟨rfl, hb1⟩
  have hB1 := bl_trans (a := w) (bl_refl _) hb1
  have hk1 := bl_trans hk0 hB1
  have z1 := Lib.hid hB1.size
  cases h0 : incsB xs
  · have Hz := Lib.hid (opF_0 (xs := xs) (node := node) (by rw [h0]; first | done | simp))
    clear h0
    go_wp2
    go_ret3
    exact retOwnX3_nil (by decide) Hz.out hk1
  have H0 := Lib.hid h0
  clear h0
  go_wp2_with fail
  refine (apNode_any node _).mono ?_
  rintro _ V1 ⟨rfl, rfl⟩
  cases h1 : inB node 0 13
  · have Hz := Lib.hid (opF_0 (xs := xs) (node := node) (by rw [h1]; first | done | simp))
    clear h1
    go_wp2
    go_ret3
    exact retOwnX3_nil (by decide) Hz.out hk1
  have H1 := Lib.hid h1
  clear h1
  have HE := Lib.hid (opF_E H0.out H1.out)
  have hvi := incs_iff.1 H0.out
  have HGd := Lib.hid (open_good hvi H1.out)
  have hN : newN xs = 1 := by unfold newN; rw [if_neg (by rw [HL.out]; exact h0)]
  have HN := Lib.hid hN
  clear hN hvi
  go_wp2_with fail
  refine (ixOwn_any xs _ _ _ _ hn (hs.below hk1) HIN.out).mono ?_
  rintro e V2 ⟨A_c, c_c, F_c, rfl, ho_c, hb2⟩
  have hB2 := bl_trans (a := V1) (bl_refl _) hb2
  have hk2 := bl_trans hk1 hB2
  have z2 := Lib.hid hB2.size
  clear hk1
  obtain ⟨ps, hp, _, hop⟩ := ho_c
  have Hop := Lib.hid (hop.mono (b := w.heap.size) (by have := z1.out; have := z2.out; omega))
  have hB := hk2
  clear hs hop
  go_wp2_with ((at_builtin; refine wpList_app1g rfl (.tmp 32) (.tmp 36) _ _ rfl el_inc (⟨(1 : Int), node, false, none, 0, 0⟩ : IncidentR) rfl Hop.out.out hB rfl (by simp) (by omega) ?_; intro A2 c2 w2 ho2 hb2 hg2))
  rw [← HN.out] at ho2
  have hsn := Hop.out.snoc (r := (⟨newN xs, node, false, none, 0, 0⟩ : IncidentR)) (l := ([] : List ByteArray)) (m := xs.length + 1) ho2 (Own.nil _ _ _) ((OnlyF.alloc (OnlyF.refl _ _) _).trans (OnlyF.of_gb hg2)) (fun x hx => absurd hx (by simp [incidentN, Value.ownBlock]))
  have hpl : incidentN.plain (ps ++ [((⟨newN xs, node, false, none, 0, 0⟩ : IncidentR), ([] : List ByteArray))]) = xs ++ [newX xs node] := by unfold Nest.plain at hp ⊢; rw [List.map_append, hp]; rfl
  have hs2 : Sl w2 A2 (xs.length + 1) (xs ++ [newX xs node]) := by rw [← hpl]; exact hsn.sl
  have hc2 := hsn.out.cap.1
  refine (ixIf_any (xs ++ [newX xs node]) _ _ _ _ _ (by omega) hc2 hs2 (hvn_new HV.out) HGd.out).mono ?_
  rintro e V9 ⟨rfl, hb9⟩
  have Hsn := Lib.hid (hsn.below hb9)
  have hbb := bl_trans hb2 hb9
  clear hs2 hsn ho2 hg2 hb9
  cases h8 : (decide (xs.length < 8) && decide (newN xs ≤ 999))
  · have H8 := Lib.hid h8
    clear h8
    go_wp2
    go_ret3
    exact retOwnX3_nil (by decide) (HE.out.trans (opE_no H8.out)) hbb
  · have H8 := Lib.hid h8
    clear h8
    go_wp2
    go_ret3
    rw [← HN.out]
    exact retOwnX3_mk (HE.out.trans ((opE_yes H8.out).trans (by rw [HN.out]))) (hpl.trans rfl) Hsn.out hbb
set_option maxRecDepth 100000 in
set_option maxHeartbeats 4000000 in
theorem specOpenIncident_any (xs : List Incident) (node : Int) (A : Option Addr) (n c : Nat) (w : World) (hn : n ≤ 1048576) (hc : n ≤ c) (hs : Sl w A n xs) (hv : ∀ x, x ∈ xs → ∀ y, y ∈ x.Names → y.size ≤ maxLen) (hin : ∀ x, x ∈ xs → x.Names.length ≤ 1048576) :
    Calls Try.prog 125 #[.slice A n c, .int .i64 node] w (RetOwnX3 incidentN w 76 9 (opF xs node)) := by
  by_cases h0 : 0 < n
  · exact specOpenIncident_pos xs node A n c w hn hc hs hv hin h0
  · exact specOpenIncident_zero xs node A n c w hn hc hs hv hin h0

end Go.Proofs.Ytnaadihbkiakeaa
