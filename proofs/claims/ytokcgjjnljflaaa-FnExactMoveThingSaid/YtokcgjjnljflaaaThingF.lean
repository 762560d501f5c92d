/-
  Things: finding a thing by its name. No conditions.
-/
import Derived.Test.YtokcgjjnljflaaaThingC
import Derived.Test.YtokcgjjnljflaaaBytes
import Derived.Test.YtokcgjjnljflaaaLibT
namespace Go.Proofs.Ytokcgjjnljflaaa
open Go.RowKit

theorem things_rise {xs : List Thing} (h : thingsB xs = true) : Rises Thing.Name xs := by
  refine rises_of fun k h0 hk => ?_
  have h1 := thingsB_at h hk
  unfold okThing at h1
  simp only [Bool.and_eq_true, decide_eq_true h0, Bool.true_and, Bool.not_eq_true', decide_eq_false_iff_not, Bool.not_eq_false] at h1
  exact h1.2
abbrev nmT := isNm Thing.Name
def FindPost (w : World) (xs : List Thing) (nm : ByteArray) (e : Ending) (w' : World) : Prop :=
  ∃ (k : Nat) (b : Bool), e = .returned (.tuple #[.int .i64 k, .bool b]) ∧ Below w.heap.size w w' ∧ ((b = true ∧ indexF (nmT nm) xs = k) ∨ (b = false ∧ indexF (nmT nm) xs = -1))
set_option maxHeartbeats 1000000 in
theorem eqFind_any (xs : List Thing) (A : Option Addr) (n c : Nat) (nm : ByteArray) (w : World) (hn : (n : Int) ≤ 9223372036854775807) (hs : Sl w A n xs) (hr : Rises Thing.Name xs) :
    Calls Try.prog 50 #[.slice A n c, .string nm] w (FindPost w xs nm) := by
  have HL := Lib.hid hs.1
  have HR := Lib.hid hr
  clear hr
  go_enter Try.func50, Try.ntmps50
  go_wp2
  go_loopw [6] (fun i wr => ∃ k : Nat, k ≤ n ∧ i = .int .i64 k ∧ Below w.heap.size w wr ∧ Hid (∀ j, j < k → Op.bytesLess (nth xs j).Name.toList nm.toList = true)) (fun i _ => n - (intOf i).toNat)
  case atStart => exact ⟨0, Nat.zero_le _, rfl, bl_refl _, fun j hj => absurd hj (by omega)⟩
  case round =>
    obtain ⟨k, hk, rfl, hb, hg⟩ := hrel
    by_cases hlt : k < n
    · obtain ⟨b, o, rfl, hbz, c0, c1, c2⟩ := (hs.below hb).thing hlt
      clear hs c1 c2
      cases hl : Op.bytesLess (nth xs k).Name.toList nm.toList
      · have hl' := Lib.hid hl
        cases he : (nth xs k).Name.toList == nm.toList
        · have he' := Lib.hid he
          go_wp2_with fail
          go_quiet (fail)
          go_wp2
          go_ret2
          exact ⟨k, false, rfl, bl_drewN hb _, .inr ⟨rfl, low_miss HR.out hg.out fun _ => ⟨hl'.out, he'.out⟩⟩⟩
        · have he' := Lib.hid he
          go_wp2_with fail
          go_quiet (fail)
          go_wp2
          go_ret2
          exact ⟨k, true, rfl, bl_drewN hb _, .inl ⟨rfl, low_hit hg.out (by rw [HL.out]; exact hlt) he'.out⟩⟩
      · have hl' := Lib.hid hl
        go_wp2
        go_roundw
        case rel => exact ⟨k + 1, by omega, by go_num, hb, fun j hj => by
          by_cases e : j = k
          · subst e; exact hl'.out
          · exact hg.out j (by omega)⟩
        case measure => simp [intOf]; omega
    · obtain rfl : k = n := by omega
      clear hs
      go_wp2_with fail
      go_quiet (fail)
      go_wp2
      go_ret2
      exact ⟨k, false, rfl, bl_drewN hb _, .inr ⟨rfl, low_miss HR.out hg.out fun h => absurd h (by rw [HL.out]; omega)⟩⟩
/-- how many of a thing a list holds -/
def countF (xs : List Thing) (nm : ByteArray) : Int := if 0 ≤ indexF (nmT nm) xs then (nth xs (indexF (nmT nm) xs).toNat).Count else 0
theorem countF_no {xs : List Thing} {nm : ByteArray} (h : indexF (nmT nm) xs = -1) : countF xs nm = 0 := by unfold countF; rw [h]; simp
theorem countF_at {xs : List Thing} {nm : ByteArray} {k : Nat} (h : indexF (nmT nm) xs = k) : countF xs nm = (nth xs k).Count := by unfold countF; rw [h]; simp
set_option maxHeartbeats 1000000 in
theorem eqHas_any (xs : List Thing) (A : Option Addr) (n c : Nat) (nm : ByteArray) (w : World) (hn : (n : Int) ≤ 9223372036854775807) (hs : Sl w A n xs) (hr : Rises Thing.Name xs) :
    Calls Try.prog 46 #[.slice A n c, .string nm] w fun e w' => e = .returned (.int .i64 (countF xs nm)) ∧ Below w.heap.size w w' := by
  have HL := Lib.hid hs.1
  go_enter Try.func46, Try.ntmps46
  go_wp2_with fail
  refine (eqFind_any xs _ _ _ _ _ hn hs hr).mono ?_
  rintro e V ⟨k, b, rfl, hV, ⟨rfl, hi⟩ | ⟨rfl, hi⟩⟩
  · have hk := (indexF_at hi).1
    rw [HL.out] at hk
    have hi' := Lib.hid hi
    clear hi hr
    obtain ⟨b, o, rfl, hbz, c0, c1, c2⟩ := (hs.below hV).thing hk
    clear hs c0 c2
    go_wp2
    go_ret
    exact ⟨ret_i64 (countF_at hi'.out).symm, hV⟩
  · have hi' := Lib.hid hi
    clear hi hr
    go_wp2
    go_ret
    exact ⟨ret_i64 (countF_no hi'.out).symm, hV⟩
theorem enters_tAt : Enters Try.prog 70 := enters_of Try.func70 (by kernel_rfl) (by kernel_rfl)
theorem pred_tAt (w : World) (a : Addr) (nm : ByteArray) (ha : w.cell? a = some (.string nm)) (xs : List Thing) : Pred Try.prog w [] xs 70 ThingVal #[.pointer (some a)] (nmT nm) := by
  intro W x _ hb0
  have hb := hb0.nil_below
  have ha' := cell_later hb ha
  have hz := World.block_lt_of_cell? W _ ha'
  show Calls _ _ #[ThingVal x, .pointer (some a)] W _
  unfold ThingVal nmT isNm
  go_enter Try.func70, Try.ntmps70
  go_wp2
  go_ret
  exact ⟨rfl, bl_alloc (bl_refl _) _⟩
theorem thingAt_any (xs : List Thing) (A : Option Addr) (n c : Nat) (nm : ByteArray) (w : World) (hn : (n : Int) ≤ 9223372036854775807) (hs : Sl w A n xs) :
    Calls Try.prog 57 #[.slice A n c, .string nm] w fun e w' => e = .returned (.int .i64 (indexF (nmT nm) xs)) ∧ Below w.heap.size w w' := by
  go_enter Try.func57, Try.ntmps57
  go_wp2_with fail
  refine (indexFunc_thing xs _ _ _ _ _ _ _ hn (hs.below (bl_alloc (bl_refl _) _)) enters_tAt _ (pred_tAt _ ⟨w.heap.size, 0, none⟩ nm (by go_simp) xs)).mono ?_
  rintro e V ⟨rfl, hV⟩
  go_wp2
  go_ret
  exact ⟨rfl, bl_trans (bl_alloc (bl_refl _) _) hV⟩
set_option maxHeartbeats 1000000 in
theorem countOf_any (xs : List Thing) (A : Option Addr) (n c : Nat) (nm : ByteArray) (w : World) (hn : (n : Int) ≤ 9223372036854775807) (hs : Sl w A n xs) :
    Calls Try.prog 55 #[.slice A n c, .string nm] w fun e w' => e = .returned (.int .i64 (countF xs nm)) ∧ Below w.heap.size w w' := by
  have HL := Lib.hid hs.1
  go_enter Try.func55, Try.ntmps55
  go_wp2_with fail
  refine (thingAt_any xs _ _ _ _ _ hn hs).mono ?_
  rintro e V ⟨rfl, hV⟩
  have hr := indexF_range (nmT nm) xs
  obtain ⟨i, hi⟩ : ∃ i, i = indexF (nmT nm) xs := ⟨_, rfl⟩
  rw [← hi] at hr ⊢
  by_cases h0 : i < 0
  · have hc := Lib.hid (countF_no (xs := xs) (nm := nm) (by omega))
    have hge : decide (i ≥ 0) = false := by simp; omega
    clear hi
    go_wp2
    go_ret
    exact ⟨ret_i64 hc.out.symm, hV⟩
  obtain ⟨j, rfl⟩ := Int.eq_ofNat_of_zero_le (by omega : 0 ≤ i)
  have hj : j < n := by have := HL.out; omega
  have hc := Lib.hid (countF_at (xs := xs) (nm := nm) hi.symm)
  obtain ⟨b', o', rfl, hbz', e0, e1, e2⟩ := (hs.below hV).thing hj
  have hge : decide ((j : Int) ≥ 0) = true := by simp
  clear hs hi h0 hr e0 e2
  go_wp2
  go_ret
  exact ⟨ret_i64 hc.out.symm, hV⟩

end Go.Proofs.Ytokcgjjnljflaaa
