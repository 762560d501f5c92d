/-
  Loads: the reference's test of a list of them. No conditions.
-/
import Derived.Test.YtokcgjjnljflaaaLibL
import Derived.Test.YtokcgjjnljflaaaLoadA
import Derived.Test.YtokcgjjnljflaaaThingG
namespace Go.Proofs.Ytokcgjjnljflaaa
open Go.RowKit

theorem beqL_comm (a b : List UInt8) : (a == b) = (b == a) := BEq.comm
def okLd (xs : List Load) (k : Nat) : Bool := loadB (nth xs k).Appliance (nth xs k).Things && !(xs.take k).any (fun y => y.Appliance.toList == (nth xs k).Appliance.toList)
def loadsB (most : Int) (xs : List Load) : Bool := allB xs.length (okLd xs) && decide ((xs.length : Int) ≤ most)
theorem okLd_0 {xs : List Load} {k : Nat} (h : loadB (nth xs k).Appliance (nth xs k).Things = false) : okLd xs k = false := by simp only [okLd, h]; rfl
theorem okLd_1 {xs : List Load} {k : Nat} (h : (xs.take k).any (fun y => y.Appliance.toList == (nth xs k).Appliance.toList) = true) : okLd xs k = false := by simp only [okLd, h]; simp
theorem okLd_y {xs : List Load} {k : Nat} (h : loadB (nth xs k).Appliance (nth xs k).Things = true) (h' : (xs.take k).any (fun y => y.Appliance.toList == (nth xs k).Appliance.toList) = false) : okLd xs k = true := by simp only [okLd, h, h']; rfl
theorem loadsB_no {most : Int} {xs : List Load} {k : Nat} (hk : k < xs.length) (h : okLd xs k = false) : loadsB most xs = false := by simp [loadsB, allB_false hk h]
theorem loadsB_all {most : Int} {xs : List Load} (h : ∀ j, j < xs.length → okLd xs j = true) : loadsB most xs = decide ((xs.length : Int) ≤ most) := by simp [loadsB, allB_true h]
theorem loadsB_long {most : Int} {xs : List Load} (h : ¬ (xs.length : Int) ≤ most) : loadsB most xs = false := by simp only [loadsB, decide_eq_false h]; simp
theorem loadsB_len {most : Int} {xs : List Load} (h : loadsB most xs = true) : (xs.length : Int) ≤ most := by simp [loadsB] at h; exact h.2
theorem loadsB_at {most : Int} {xs : List Load} (h : loadsB most xs = true) {k : Nat} (hk : k < xs.length) : loadB (nth xs k).Appliance (nth xs k).Things = true := by
  simp only [loadsB, Bool.and_eq_true] at h
  have := allB_iff.1 h.1 k hk
  simp only [okLd, Bool.and_eq_true] at this
  exact this.1
theorem any_take_no {α : Type} [Inhabited α] {xs : List α} {p : α → Bool} {k : Nat} (hk : k ≤ xs.length) (h : ∀ j, j < k → p (nth xs j) = false) : (xs.take k).any p = false := by
  rw [List.any_eq_false]
  intro x hx
  obtain ⟨j, hj, rfl⟩ := List.getElem_of_mem hx
  rw [List.length_take] at hj
  have := h j (by omega)
  rw [nth_get (List.getElem?_eq_getElem (by omega : j < xs.length))] at this
  rw [List.getElem_take, this]; simp
theorem any_take_yes {α : Type} [Inhabited α] {xs : List α} {p : α → Bool} {j k : Nat} (hk : k ≤ xs.length) (hj : j < k) (h : p (nth xs j) = true) : (xs.take k).any p = true := by
  rw [List.any_eq_true]
  refine ⟨nth xs j, ?_, h⟩
  rw [nth_get (List.getElem?_eq_getElem (by omega : j < xs.length))]
  rw [List.mem_iff_getElem?]
  exact ⟨j, by rw [List.getElem?_take, if_pos hj]; exact List.getElem?_eq_getElem _⟩
set_option maxHeartbeats 4000000 in
theorem eqLoads_any (xs : List Load) (most : Int) (A : Option Addr) (n c : Nat) (w : World) (hn : (n : Int) ≤ 9223372036854775807) (hc : n ≤ c) (hs : Sl w A n xs) (hv : ∀ x, x ∈ xs → x.Appliance.size ≤ maxLen ∧ ∀ y, y ∈ x.Things → y.Name.size ≤ maxLen) :
    Calls Try.prog 37 #[.slice A n c, .int .i64 most] w fun e w' => e = .returned (.bool (loadsB most xs)) ∧ Below w.heap.size w w' := by
  have HL := Lib.hid hs.1
  have HV := Lib.hid hv
  clear hv
  go_enter Try.func37, Try.ntmps37
  go_wp2
  go_loopw [11] (fun i wr => ∃ k : Nat, k ≤ n ∧ i = .int .i64 k ∧ Below w.heap.size w wr ∧ Hid (∀ j, j < k → okLd xs j = true)) (fun i _ => n - (intOf i).toNat)
  case atStart => exact ⟨0, Nat.zero_le _, rfl, bl_refl _, fun j hj => absurd hj (by omega)⟩
  case round =>
    obtain ⟨k, hk, rfl, hb, hg⟩ := hrel
    by_cases hlt : k < n
    · obtain ⟨wo, rfl⟩ : ∃ wo : World, wo = wr := ⟨_, rfl⟩
      obtain ⟨b, o, A', c', rfl, hbz, c0, c1, hi, hil⟩ := (hs.below hb).load hlt
      have hil2 : ((nth xs k).Things.length : Int) ≤ 9223372036854775807 := by unfold maxLen at hil; omega
      have hkx : Hid (k < xs.length) := by rw [Hid, HL.out]; exact hlt
      have hm2 := Lib.hid (nth_mem hkx.out)
      have hs' := Lib.hid hs
      clear hs hil
      go_wp2_with fail
      refine (eqLd_any (nth xs k).Appliance (nth xs k).Things A' _ c' _ (HV.out _ hm2.out).1 hil2 (hi.below (bl_alloc (bl_refl _) _)) (HV.out _ hm2.out).2).mono ?_
      rintro e V ⟨rfl, hV⟩
      have hbV := bl_trans hb (bl_trans (bl_alloc (bl_refl wo) (.cells #[.string (nth xs k).Appliance, .slice A' (nth xs k).Things.length c'] 28)) hV)
      have x0 : V.cell? ⟨wo.heap.size, 0, none⟩ = some (.string (nth xs k).Appliance) := cell_later hV (by go_simp)
      clear hi c0 c1
      cases h1 : loadB (nth xs k).Appliance (nth xs k).Things
      · have h1' := Lib.hid h1
        clear h1
        go_wp2
        go_ret
        exact ⟨ret_bool (loadsB_no hkx.out (okLd_0 h1'.out)).symm, hbV⟩
      have h1' := Lib.hid h1
      have hkc : (k : Int) ≤ c := by omega
      have hkc2 : k ≤ c := by omega
      have hk0 : (0 : Int) ≤ k := by omega
      clear h1
      go_wp2
      go_loopw [23] (fun i wr => ∃ j : Nat, j ≤ k ∧ i = .int .i64 j ∧ Below w.heap.size w wr ∧ wr.cell? ⟨wo.heap.size, 0, none⟩ = some (.string (nth xs k).Appliance) ∧ Hid (∀ q, q < j → ((nth xs q).Appliance.toList == (nth xs k).Appliance.toList) = false)) (fun i _ => k - (intOf i).toNat)
      case atStart => exact ⟨0, Nat.zero_le _, rfl, hbV, x0, fun j hj => absurd hj (by omega)⟩
      case round =>
        obtain ⟨j, hj, rfl, hb2, x2, hg2⟩ := hrel
        have hwz := World.block_lt_of_cell? wr _ x2
        clear x0
        by_cases hjk : j < k
        · obtain ⟨b', o', A'', c'', e, hbz', d0, d1, _, _⟩ := (hs'.out.below hb2).load (by omega : j < n)
          injection e with e
          injection e with e1 e2
          subst e1 e2
          cases he : ((nth xs k).Appliance.toList == (nth xs j).Appliance.toList)
          · have he2 : Hid (((nth xs j).Appliance.toList == (nth xs k).Appliance.toList) = false) := by rw [Hid, beqL_comm]; exact he
            go_wp2
            go_roundw
            case rel => exact ⟨j + 1, by omega, by go_num, bl_alloc hb2 _, by go_simp, upto_succ hg2 he2.out⟩
            case measure => simp [intOf]; omega
          · have he2 : Hid (((nth xs j).Appliance.toList == (nth xs k).Appliance.toList) = true) := by rw [Hid, beqL_comm]; exact he
            go_wp2
            go_ret
            exact ⟨ret_bool (loadsB_no hkx.out (okLd_1 (any_take_yes (p := fun y : Load => y.Appliance.toList == (nth xs k).Appliance.toList) (by have := hkx.out; omega) hjk he2.out))).symm, bl_alloc hb2 _⟩
        · obtain rfl : j = k := by omega
          have hq : Hid (okLd xs j = true) := okLd_y h1'.out (any_take_no (by have := hkx.out; omega) hg2.out)
          clear x2
          go_wp2
          go_roundw
          case rel => exact ⟨j + 1, by omega, by go_num, hb2, upto_succ hg hq.out⟩
          case measure => simp [intOf]; omega
    · obtain rfl : k = n := by omega
      have hfin : Hid (loadsB most xs = decide ((k : Int) ≤ most)) := by rw [Hid, loadsB_all (by rw [HL.out]; exact hg.out), HL.out]
      go_wp2
      go_ret
      exact ⟨ret_bool hfin.out.symm, hb⟩

end Go.Proofs.Ytokcgjjnljflaaa
