/-
  Who is qualified: both texts answer hasB. No conditions.
-/
import Derived.Test.YtgjnjfaohpmhkaaSkillB
import Derived.Test.YtgjnjfaohpmhkaaLibK
namespace Go.Proofs.Ytgjnjfaohpmhkaa
open Go.RowKit

def hasP (person : ByteArray) (kind day : Int) (x : Skill) : Bool := x.Person.toList == person.toList && x.Kind == kind && decide (x.Until ≥ day)
def hasB (xs : List Skill) (person : ByteArray) (kind day : Int) : Bool := xs.any (hasP person kind day)
theorem any_no {α : Type} [Inhabited α] {p : α → Bool} {xs : List α} (h : ∀ j, j < xs.length → p (nth xs j) = false) : xs.any p = false := by
  rw [any_index, indexF_none h]; rfl
theorem any_yes {α : Type} [Inhabited α] {p : α → Bool} {xs : List α} {k : Nat} (hk : k < xs.length) (h : p (nth xs k) = true) : xs.any p = true := by
  rw [List.any_eq_true]; exact ⟨_, nth_mem hk, h⟩
set_option maxHeartbeats 2000000 in
theorem drHas_any (xs : List Skill) (person : ByteArray) (kind day : Int) (A : Option Addr) (n c : Nat) (w : World) (hn : (n : Int) ≤ 9223372036854775807) (hs : Sl w A n xs) :
    Calls Try.prog 64 #[.slice A n c, .string person, .int .i64 kind, .int .i64 day] w fun e w' => e = .returned (.bool (hasB xs person kind day)) ∧ Below w.heap.size w w' := by
  have HL := Lib.hid hs.1
  go_enter Try.func64, Try.ntmps64
  go_wp2
  go_loopw [13] (fun i wr => ∃ k : Nat, k ≤ n ∧ i = .int .i64 k ∧ Below w.heap.size w wr ∧ Hid (∀ j, j < k → hasP person kind day (nth xs j) = false)) (fun i _ => n - (intOf i).toNat)
  case atStart => exact ⟨0, Nat.zero_le _, rfl, bl_refl _, fun j hj => absurd hj (by omega)⟩
  case round =>
    obtain ⟨k, hk, rfl, hb, hg⟩ := hrel
    by_cases hlt : k < n
    · obtain ⟨b, o, rfl, hbz, c0, c1, c2⟩ := (hs.below hb).skill hlt
      have hkx : Hid (k < xs.length) := by rw [Hid, HL.out]; exact hlt
      clear hs
      cases e0 : (nth xs k).Person.toList == person.toList
      · have q : Hid (hasP person kind day (nth xs k) = false) := by rw [Hid, hasP, e0]; simp
        go_wp2
        go_roundw
        case rel => exact ⟨k + 1, by omega, by go_num, bl_alloc hb _, upto_succ hg q.out⟩
        case measure => simp [intOf]; omega
      cases e1 : (nth xs k).Kind == kind
      · have q : Hid (hasP person kind day (nth xs k) = false) := by rw [Hid, hasP, e0, e1]; simp
        go_wp2
        go_roundw
        case rel => exact ⟨k + 1, by omega, by go_num, bl_alloc hb _, upto_succ hg q.out⟩
        case measure => simp [intOf]; omega
      cases e2 : decide ((nth xs k).Until ≥ day)
      · have q : Hid (hasP person kind day (nth xs k) = false) := by rw [Hid, hasP, e0, e1, e2]; simp
        go_wp2
        go_roundw
        case rel => exact ⟨k + 1, by omega, by go_num, bl_alloc hb _, upto_succ hg q.out⟩
        case measure => simp [intOf]; omega
      have q : Hid (hasP person kind day (nth xs k) = true) := by rw [Hid, hasP, e0, e1, e2]; rfl
      go_wp2
      go_ret
      exact ⟨ret_bool (any_yes hkx.out q.out).symm, bl_alloc hb _⟩
    · obtain rfl : k = n := by omega
      go_wp2
      go_ret
      exact ⟨ret_bool (any_no (by rw [HL.out]; exact hg.out)).symm, hb⟩
theorem enters_isQ : Enters Try.prog 82 := enters_of Try.func82 (by kernel_rfl) (by kernel_rfl)
set_option maxHeartbeats 1000000 in
theorem pred_isQ (w : World) (a b c : Addr) (person : ByteArray) (kind day : Int) (ha : w.cell? a = some (.string person)) (hb : w.cell? b = some (.int .i64 kind)) (hc : w.cell? c = some (.int .i64 day)) (xs : List Skill) :
    Pred Try.prog w [] xs 82 SkillVal #[.pointer (some a), .pointer (some b), .pointer (some c)] (hasP person kind day) := by
  intro W x _ hb0
  have hbb := hb0.nil_below
  have ha' := cell_later hbb ha
  have hb' := cell_later hbb hb
  have hc' := cell_later hbb hc
  have hz1 := World.block_lt_of_cell? W _ ha'
  have hz2 := World.block_lt_of_cell? W _ hb'
  have hz3 := World.block_lt_of_cell? W _ hc'
  clear ha hb hc hbb hb0
  show Calls _ _ #[SkillVal x, .pointer (some a), .pointer (some b), .pointer (some c)] W _
  unfold SkillVal
  cases e0 : x.Person.toList == person.toList
  · have q : Hid (hasP person kind day x = false) := by rw [Hid, hasP, e0]; simp
    go_enter Try.func82, Try.ntmps82
    go_wp2
    go_ret
    exact ⟨ret_bool q.out.symm, bl_alloc (bl_refl _) _⟩
  cases e1 : x.Kind == kind
  · have q : Hid (hasP person kind day x = false) := by rw [Hid, hasP, e0, e1]; simp
    go_enter Try.func82, Try.ntmps82
    go_wp2
    go_ret
    exact ⟨ret_bool q.out.symm, bl_alloc (bl_refl _) _⟩
  cases e2 : decide (x.Until ≥ day)
  · have q : Hid (hasP person kind day x = false) := by rw [Hid, hasP, e0, e1, e2]; simp
    go_enter Try.func82, Try.ntmps82
    go_wp2
    go_ret
    exact ⟨ret_bool q.out.symm, bl_alloc (bl_refl _) _⟩
  have q : Hid (hasP person kind day x = true) := by rw [Hid, hasP, e0, e1, e2]; rfl
  go_enter Try.func82, Try.ntmps82
  go_wp2
  go_ret
  exact ⟨ret_bool q.out.symm, bl_alloc (bl_refl _) _⟩
theorem isQualified_any (xs : List Skill) (person : ByteArray) (kind day : Int) (A : Option Addr) (n c : Nat) (w : World) (hn : (n : Int) ≤ 9223372036854775807) (hs : Sl w A n xs) :
    Calls Try.prog 60 #[.slice A n c, .string person, .int .i64 kind, .int .i64 day] w fun e w' => e = .returned (.bool (hasB xs person kind day)) ∧ Below w.heap.size w w' := by
  have hk := bl_alloc (bl_alloc (bl_alloc (bl_refl w) (.cells #[.string person] 9)) (.cells #[.int .i64 kind] 3)) (.cells #[.int .i64 day] 3)
  go_enter Try.func60, Try.ntmps60
  go_wp2_with fail
  refine (containsFunc_skill xs _ _ _ _ _ _ _ hn (hs.below hk) enters_isQ _ (pred_isQ _ ⟨w.heap.size, 0, none⟩ ⟨w.heap.size + 1, 0, none⟩ ⟨w.heap.size + 1 + 1, 0, none⟩ person kind day (by go_simp) (by go_simp) (by go_simp) xs)).mono ?_
  rintro e V ⟨rfl, hV⟩
  go_wp2
  go_ret
  exact ⟨rfl, bl_trans hk hV⟩

end Go.Proofs.Ytgjnjfaohpmhkaa
