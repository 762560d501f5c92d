/-
  Incidents: to which one a name is committed. No conditions.
-/
import Derived.Test.YtnaadihbkiakeaaIncN
import Derived.Test.YtnaadihbkiakeaaNamesI
namespace Go.Proofs.Ytnaadihbkiakeaa
open Go.RowKit

def hasS (l : List ByteArray) (s : ByteArray) : Bool := l.any (fun p => p.toList == s.toList)
theorem any_no {α : Type} [Inhabited α] {p : α → Bool} {xs : List α} (h : ∀ j, j < xs.length → p (nth xs j) = false) : xs.any p = false := by
  rw [any_index, indexF_none h]; rfl
theorem any_yes {α : Type} [Inhabited α] {p : α → Bool} {xs : List α} {k : Nat} (hk : k < xs.length) (h : p (nth xs k) = true) : xs.any p = true := by
  rw [List.any_eq_true]; exact ⟨_, nth_mem hk, h⟩
set_option maxHeartbeats 1000000 in
theorem dsHas_any (L : List ByteArray) (v : ByteArray) (A : Option Addr) (n c : Nat) (w : World) (hn : (n : Int) ≤ 9223372036854775807) (hs : Sl w A n L) :
    Calls Try.prog 133 #[.slice A n c, .string v] w fun e w' => e = .returned (.bool (hasS L v)) ∧ w' = w := by
  have HL := Lib.hid hs.1
  go_enter Try.func133, Try.ntmps133
  go_wp2
  go_loop [9] (fun i => ∃ k : Nat, k ≤ n ∧ i = .int .i64 k ∧ Hid (∀ j, j < k → ((nth L j).toList == v.toList) = false)) (fun i => n - (intOf i).toNat)
  case atStart => exact ⟨0, Nat.zero_le _, rfl, fun j hj => absurd hj (by omega)⟩
  case round =>
    obtain ⟨k, hk, rfl, hg⟩ := hrel
    by_cases hlt : k < n
    · obtain ⟨b, o, rfl, _, c0⟩ := hs.str hlt
      clear hs
      cases hp : (nth L k).toList == v.toList
      · have hp' := Lib.hid hp
        go_wp2
        go_round
        case rel => exact ⟨k + 1, by omega, by go_num, upto_succ hg hp'.out⟩
        case measure => simp [intOf]; omega
      · have hp' := Lib.hid hp
        go_wp2
        go_ret
        exact ⟨ret_bool (any_yes (p := fun p : ByteArray => p.toList == v.toList) (by rw [HL.out]; exact hlt) hp'.out).symm, rfl⟩
    · obtain rfl : k = n := by omega
      go_wp2
      go_ret
      exact ⟨ret_bool (any_no (p := fun p : ByteArray => p.toList == v.toList) (by rw [HL.out]; exact hg.out)).symm, rfl⟩
set_option maxHeartbeats 1000000 in
theorem indexS_any (L : List ByteArray) (v : ByteArray) (A : Option Addr) (n c : Nat) (w : World) (hn : (n : Int) ≤ 9223372036854775807) (hs : Sl w A n L) :
    Calls Try.prog 117 #[.slice A n c, .string v] w fun e w' => e = .returned (.int .i64 (indexF (fun p => p.toList == v.toList) L)) ∧ w' = w := by
  have HL := Lib.hid hs.1
  go_enter Try.func117, Try.ntmps117
  go_wp2
  go_loop [8] (fun i => ∃ k : Nat, k ≤ n ∧ i = .int .i64 k ∧ Hid (∀ j, j < k → ((nth L j).toList == v.toList) = false)) (fun i => n - (intOf i).toNat)
  case atStart => exact ⟨0, Nat.zero_le _, rfl, fun j hj => absurd hj (by omega)⟩
  case round =>
    obtain ⟨k, hk, rfl, hg⟩ := hrel
    by_cases hlt : k < n
    · obtain ⟨b, o, rfl, _, c0⟩ := hs.str hlt
      clear hs
      cases hp : (nth L k).toList == v.toList
      · have hp' := Lib.hid hp
        have hp2 : (v.toList == (nth L k).toList) = false := by rw [BEq.comm]; exact hp
        clear hp
        go_wp2
        go_round
        case rel => exact ⟨k + 1, by omega, by go_num, upto_succ hg hp'.out⟩
        case measure => simp [intOf]; omega
      · have hp' := Lib.hid hp
        have hp2 : (v.toList == (nth L k).toList) = true := by rw [BEq.comm]; exact hp
        clear hp
        go_wp2
        go_ret
        exact ⟨ret_i64 (indexF_hit (p := fun p : ByteArray => p.toList == v.toList) (by rw [HL.out]; exact hlt) hp'.out hg.out).symm, rfl⟩
    · obtain rfl : k = n := by omega
      go_wp2
      go_ret
      exact ⟨ret_i64 (indexF_none (p := fun p : ByteArray => p.toList == v.toList) (by rw [HL.out]; exact hg.out)).symm, rfl⟩
theorem containsS_any (L : List ByteArray) (v : ByteArray) (A : Option Addr) (n c : Nat) (w : World) (hn : (n : Int) ≤ 9223372036854775807) (hs : Sl w A n L) :
    Calls Try.prog 76 #[.slice A n c, .string v] w fun e w' => e = .returned (.bool (hasS L v)) ∧ w' = w := by
  unfold hasS
  rw [any_index]
  go_enter Try.func76, Try.ntmps76
  go_wp2_with fail
  refine (indexS_any L v _ _ _ _ hn hs).mono ?_
  rintro e w ⟨rfl, rfl⟩
  go_wp2
  go_ret
  exact ⟨rfl, rfl⟩
/-- What a function value handed to the library does with a Incident. -/
def PredIncident (P : Program) (w : World) (xs : List Incident) (g : FuncId) (caps : Array Value) (p : Incident → Bool) : Prop :=
  ∀ (W : World) (x : Incident) (A' : Option Addr) (c' : Nat), x ∈ xs → Below w.heap.size w W → Sl W A' x.Names.length x.Names → x.Names.length ≤ maxLen → Calls P g (#[.agg #[.int .i64 (x.Number), .int .i64 (x.Node), .bool (x.Closed), .slice A' x.Names.length c']] ++ caps) W fun e W' => e = .returned (.bool (p x)) ∧ Below W.heap.size W W'
set_option maxHeartbeats 1000000 in
theorem indexFunc_incident (xs : List Incident) (A : Option Addr) (n c : Nat) (g : FuncId) (caps : Array Value) (p : Incident → Bool) (w : World) (hn : (n : Int) ≤ 9223372036854775807) (hs : Sl w A n xs) (hen : Enters Try.prog g) (hp : PredIncident Try.prog w xs g caps p) :
    Calls Try.prog 126 #[.slice A n c, .func (.func g) #[] caps] w fun e w' => e = .returned (.int .i64 (indexF p xs)) ∧ Below w.heap.size w w' := by
  have HL := Lib.hid hs.1
  have HP := Lib.hid hp
  clear hp
  have hcf : ∀ (args : Array Value) (W : World), (callFunc g args).run Try.prog W = .ok (.enter g args) W := hen
  clear hen
  go_enter Try.func126, Try.ntmps126
  go_wp2
  go_loopw [8] (fun i wr => ∃ k : Nat, k ≤ n ∧ i = .int .i64 k ∧ Below w.heap.size w wr ∧ Hid (∀ j, j < k → p (nth xs j) = false)) (fun i _ => n - (intOf i).toNat)
  case atStart => exact ⟨0, Nat.zero_le _, rfl, bl_refl _, fun j hj => absurd hj (by omega)⟩
  case round =>
    obtain ⟨k, hk, rfl, hb, hg⟩ := hrel
    by_cases hlt : k < n
    · obtain ⟨b, o, A', c', rfl, _, c0, c1, c2, c3, hi, hil⟩ := (hs.below hb).incident hlt
      clear hs
      go_wp2_with fail
      refine (HP.out _ (nth xs k) A' c' (nth_mem (by rw [HL.out]; exact hlt)) hb hi hil).mono ?_
      rintro e V ⟨rfl, hV⟩
      have hbV := bl_trans hb hV
      clear hi hil c0 c1 c2 c3
      cases hpk : p (nth xs k)
      · have hpk' := Lib.hid hpk
        clear hpk
        go_wp2
        go_roundw
        case rel => exact ⟨k + 1, by omega, by go_num, hbV, upto_succ hg hpk'.out⟩
        case measure => simp [intOf]; omega
      · have hpk' := Lib.hid hpk
        clear hpk
        go_wp2
        go_ret
        exact ⟨ret_i64 (indexF_hit (by rw [HL.out]; exact hlt) hpk'.out hg).symm, hbV⟩
    · obtain rfl : k = n := by omega
      go_wp2
      go_ret
      exact ⟨ret_i64 (indexF_none (by rw [HL.out]; exact hg)).symm, hb⟩
/-- where the first incident stands to which a name is committed -/
def atB (xs : List Incident) (nm : ByteArray) : Int := indexF (fun y => hasS y.Names nm) xs
theorem enters_cA : Enters Try.prog 129 := enters_of Try.func129 (by kernel_rfl) (by kernel_rfl)
theorem pred_cA (w : World) (B : Nat) (nm : ByteArray) (ha : w.cell? ⟨B, 0, none⟩ = some (.string nm)) (xs : List Incident) : PredIncident Try.prog w xs 129 #[.pointer (some ⟨B, 0, none⟩)] (fun y => hasS y.Names nm) := by
  intro W x A' c' _ hb hi hil
  have ha' := cell_later hb ha
  have hz : B < W.heap.size := World.block_lt_of_cell? W _ ha'
  have hil2 : (x.Names.length : Int) ≤ 9223372036854775807 := by unfold maxLen at hil; omega
  clear ha hil
  show Calls _ _ #[.agg #[.int .i64 x.Number, .int .i64 x.Node, .bool x.Closed, .slice A' x.Names.length c'], .pointer (some ⟨B, 0, none⟩)] W _
  go_enter Try.func129, Try.ntmps129
  go_wp2_with fail
  refine (containsS_any x.Names nm _ _ _ _ hil2 (hi.below (bl_alloc (bl_refl _) _))).mono ?_
  rintro e V ⟨rfl, rfl⟩
  go_wp2
  go_ret
  exact ⟨rfl, bl_alloc (bl_refl _) _⟩
theorem committedAt_any (xs : List Incident) (nm : ByteArray) (A : Option Addr) (n c : Nat) (w : World) (hn : (n : Int) ≤ 9223372036854775807) (hs : Sl w A n xs) :
    Calls Try.prog 97 #[.slice A n c, .string nm] w fun e w' => e = .returned (.int .i64 (atB xs nm)) ∧ Below w.heap.size w w' := by
  go_enter Try.func97, Try.ntmps97
  go_wp2_with fail
  refine (indexFunc_incident xs _ _ _ _ _ _ _ hn (hs.below (bl_alloc (bl_refl _) _)) enters_cA (pred_cA _ w.heap.size nm (by go_simp) xs)).mono ?_
  rintro e V ⟨rfl, hV⟩
  go_wp2
  go_ret
  exact ⟨rfl, bl_trans (bl_alloc (bl_refl w) (.cells #[.string nm] 9)) hV⟩
set_option maxHeartbeats 1000000 in
theorem ixOf_any (xs : List Incident) (nm : ByteArray) (A : Option Addr) (n c : Nat) (w : World) (hn : (n : Int) ≤ 9223372036854775807) (hs : Sl w A n xs) :
    Calls Try.prog 101 #[.slice A n c, .string nm] w fun e w' => e = .returned (.int .i64 (atB xs nm)) ∧ Below w.heap.size w w' := by
  have HL := Lib.hid hs.1
  go_enter Try.func101, Try.ntmps101
  go_wp2
  go_loopw [9] (fun i wr => ∃ k : Nat, k ≤ n ∧ i = .int .i64 k ∧ Below w.heap.size w wr ∧ Hid (∀ j, j < k → hasS (nth xs j).Names nm = false)) (fun i _ => n - (intOf i).toNat)
  case atStart => exact ⟨0, Nat.zero_le _, rfl, bl_refl _, fun j hj => absurd hj (by omega)⟩
  case round =>
    obtain ⟨k, hk, rfl, hb, hg⟩ := hrel
    by_cases hlt : k < n
    · obtain ⟨b, o, A', c', rfl, _, c0, c1, c2, c3, hi, hil⟩ := (hs.below hb).incident hlt
      have hil2 : ((nth xs k).Names.length : Int) ≤ 9223372036854775807 := by unfold maxLen at hil; omega
      clear hs hil
      go_wp2_with fail
      refine (dsHas_any (nth xs k).Names nm _ _ _ _ hil2 (hi.below (bl_alloc (bl_refl _) _))).mono ?_
      rintro e V ⟨rfl, rfl⟩
      cases hp : hasS (nth xs k).Names nm
      · have hp' := Lib.hid hp
        clear hp
        go_wp2
        go_roundw
        case rel => exact ⟨k + 1, by omega, by go_num, bl_alloc hb _, upto_succ hg hp'.out⟩
        case measure => simp [intOf]; omega
      · have hp' := Lib.hid hp
        clear hp
        go_wp2
        go_ret
        exact ⟨ret_i64 (indexF_hit (p := fun y : Incident => hasS y.Names nm) (by rw [HL.out]; exact hlt) hp'.out hg.out).symm, bl_alloc hb _⟩
    · obtain rfl : k = n := by omega
      go_wp2
      go_ret
      exact ⟨ret_i64 (indexF_none (p := fun y : Incident => hasS y.Names nm) (by rw [HL.out]; exact hg.out)).symm, hb⟩

end Go.Proofs.Ytnaadihbkiakeaa
