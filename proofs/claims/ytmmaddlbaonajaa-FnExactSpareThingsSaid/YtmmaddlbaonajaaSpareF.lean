/-
  SpareThings: both texts answer spareF. No conditions.
-/
import Derived.Test.YtmmaddlbaonajaaThingG
namespace Go.Proofs.Ytmmaddlbaonajaa
open Go.RowKit

def spareF (ys xs : List Thing) : List Thing × Bool := if thingsB xs && thingsB ys then (moreL true ys xs, true) else ([], false)
theorem spareF_yes {xs ys : List Thing} (h : thingsB xs = true) (h' : thingsB ys = true) : spareF ys xs = (moreL true ys xs, true) := by unfold spareF; rw [h, h']; rfl
theorem spareF_no {xs ys : List Thing} (h : thingsB xs = false ∨ thingsB ys = false) : spareF ys xs = ([], false) := by unfold spareF; rcases h with h | h <;> rw [h] <;> simp
theorem spareF_len (ys xs : List Thing) : (spareF ys xs).1.length ≤ 1048576 := by
  unfold spareF; split
  · rename_i h; simp only [Bool.and_eq_true] at h
    have h1 := moreL_len true (ys := ys) h.1
    simp only; omega
  · simp
set_option maxHeartbeats 2000000 in
theorem specSpareThings_any (ys xs : List Thing) (B A : Option Addr) (m d n c : Nat) (w : World) (hm : (m : Int) ≤ 9223372036854775807) (hn : (n : Int) ≤ 9223372036854775807) (ht : Sl w B m ys) (hs : Sl w A n xs) (hv' : ∀ x, x ∈ ys → x.Name.size ≤ maxLen) (hv : ∀ x, x ∈ xs → x.Name.size ≤ maxLen) :
    Calls Try.prog 23 #[.slice B m d, .slice A n c] w (RetOwn2 w 72 (spareF ys xs)) := by
  have HX := Lib.hid hs.1
  have HY := Lib.hid ht.1
  have HV := Lib.hid hv
  have HV' := Lib.hid hv'
  clear hv hv'
  cases h1 : thingsB ys
  · have Hz := Lib.hid (spareF_no (xs := xs) (ys := ys) (.inr h1))
    go_enter Try.func23, Try.ntmps23
    go_wp2_with fail
    refine (eqGood_any ys _ _ _ _ hm ht HV'.out).mono ?_
    rintro e V1 ⟨rfl, hb1⟩
    go_wp2
    go_ret2
    exact retOwn2_mk Hz.out (Own.nil _ _ _) hb1
  cases h2 : thingsB xs
  · have Hz := Lib.hid (spareF_no (xs := xs) (ys := ys) (.inl h2))
    go_enter Try.func23, Try.ntmps23
    go_wp2_with fail
    refine (eqGood_any ys _ _ _ _ hm ht HV'.out).mono ?_
    rintro e V1 ⟨rfl, hb1⟩
    go_wp2_with fail
    refine (eqGood_any xs _ _ _ _ hn (hs.below hb1) HV.out).mono ?_
    rintro e V2 ⟨rfl, hb2⟩
    go_wp2
    go_ret2
    exact retOwn2_mk Hz.out (Own.nil _ _ _) (bl_trans hb1 hb2)
  have Hz := Lib.hid (spareF_yes (xs := xs) (ys := ys) (by first | exact h1 | exact h2) (by first | exact h2 | exact h1))
  have hlx : n ≤ 1048576 := by have := HX.out; have := thingsB_len (xs := xs) (by first | exact h1 | exact h2); omega
  have hly : m ≤ 1048576 := by have := HY.out; have := thingsB_len (xs := ys) (by first | exact h2 | exact h1); omega
  have HA := Lib.hid h1
  have HB := Lib.hid h2
  go_enter Try.func23, Try.ntmps23
  go_wp2_with fail
  refine (eqGood_any ys _ _ _ _ hm ht HV'.out).mono ?_
  rintro e V1 ⟨rfl, hb1⟩
  go_wp2_with fail
  refine (eqGood_any xs _ _ _ _ hn (hs.below hb1) HV.out).mono ?_
  rintro e V2 ⟨rfl, hb2⟩
  have hbk := bl_trans hb1 hb2
  have HL := HX
  clear hb1 hb2 HX HY
  have HX := HB
  have HY := HA
  clear HA HB
  go_wp2
  clear h1 h2
  go_loopw [6, 20] (fun v i wr => ∃ (k q c' : Nat) (A' : Option Addr), k ≤ n ∧ i = .int .i64 k ∧ v = .slice A' q c' ∧ q ≤ k ∧ Own wr w.heap.size 72 (.slice A' q c') ((xs.take k).filterMap (moreF true ys)) ∧ Below w.heap.size w wr) (fun _ i _ => n - (intOf i).toNat)
  case atStart => exact ⟨0, 0, 0, none, Nat.zero_le _, rfl, rfl, Nat.le_refl _, Own.nil _ _ _, hbk⟩
  case round =>
    obtain ⟨k, q, c', A', hk, rfl, rfl, hq, ho, hb⟩ := hrel
    by_cases hlt : k < n
    · obtain ⟨b, o, rfl, hbz, c0, c1, c2⟩ := (hs.below hb).thing hlt
      have hyr := ht.below hb
      have hkx : Hid (k < xs.length) := by rw [Hid, HL.out]; exact hlt
      obtain ⟨u1, u2⟩ := count_in HX.out hkx.out
      obtain ⟨v, hv⟩ : ∃ v, v = countF ys (nth xs k).Name := ⟨_, rfl⟩
      obtain ⟨v1, v2⟩ := countF_in HY.out (nth xs k).Name
      rw [← hv] at v1 v2
      have HV := Lib.hid hv.symm
      clear hv hs ht
      go_wp2_with fail
      refine wp_region_grow (by kernel_rfl) (by kernel_rfl) (fun X hX => ?_)
      have hbX : Below wr.heap.size wr X := by rw [hX]; exact bl_alloc (bl_refl _) _
      have r0 : X.cell? ⟨wr.heap.size, 0, none⟩ = some (.string (nth xs k).Name) := by rw [hX]; go_simp
      have r1 : X.cell? ⟨wr.heap.size, 1, none⟩ = some (.int .i64 (nth xs k).Count) := by rw [hX]; go_simp
      have r2 : X.cell? ⟨wr.heap.size, 2, none⟩ = some (.int .i64 (nth xs k).Day) := by rw [hX]; go_simp
      have q0 := Gw.cell r0
      have q1 := Gw.cell r1
      have hyX := hyr.below hbX
      have hc : ∀ V, Below X.heap.size X V → Calls Try.prog 58 #[.slice B m d, .string (nth xs k).Name] V fun e w' => e = .returned (.int .i64 v) ∧ Below V.heap.size V w' := fun V hV => by
        have := eqHas_any ys B m d (nth xs k).Name V (by omega) (hyX.below hV) (things_rise HY.out)
        rwa [HV.out] at this
      have hc' := Lib.hid hc
      have hXX := Lib.hid hX
      clear hX hyr hyX hc c0 c1 c2
      repeat (go_big_quiet_step ((go_at_call 58; exact Calls.grow_of (hc'.out _ (Subtype.property _)))))
      refine wpGrow_nil (fun V hV => ?_)
      have v0 := cell_later hV r0
      have w2 := cell_later hV r2
      have vz := World.block_lt_of_cell? V _ v0
      have hbV := bl_trans hb (bl_trans hbX hV)
      have hoV := ho.below (bl_trans hbX hV)
      clear q0 q1 r0 r1 hbX hV ho hb hc' hXX
      by_cases hd : v < (nth xs k).Count
      · have hp := Lib.hid (moreF_yes (keep := true) HV.out hd)
        have hgt : decide ((nth xs k).Count - v > 0) = true := by simp; omega
        go_wp2_with ((at_builtin; refine wpList_app1 rfl (.tmp 33) (.tmp 40) _ _ rfl el_thing (⟨(nth xs k).Name, (nth xs k).Count - v, (nth xs k).Day⟩ : Thing) rfl hoV hbV rfl (by omega) ?_; intro A2 c2 w2 ho2 hb2 hg2))
        go_roundw
        case rel => exact ⟨k + 1, q + 1, c2, A2, by omega, by go_num, rfl, by omega, by rw [fmap_yes hkx.out hp.out]; exact ho2, hb2⟩
        case measure => simp [intOf]; omega
      · have hp := Lib.hid (moreF_no (keep := true) HV.out hd)
        have hgt : decide ((nth xs k).Count - v > 0) = false := by simp; omega
        go_wp2
        go_roundw
        case rel => exact ⟨k + 1, q, c', A', by omega, by go_num, rfl, by omega, by rw [fmap_no hkx.out hp.out]; exact hoV, hbV⟩
        case measure => simp [intOf]; omega
    · obtain rfl : k = n := by omega
      have hfin : Hid ((xs.take k).filterMap (moreF true ys) = moreL true ys xs) := by rw [Hid, List.take_of_length_le (by rw [HL.out]; exact Nat.le_refl _)]; rfl
      have hq2 := ho.sl.1
      rw [hfin.out] at ho hq2
      have hq3 := Lib.hid hq2
      clear hq2
      go_wp2
      go_ret2
      exact retOwn2_mk Hz.out ho hb
set_option maxHeartbeats 2000000 in
theorem implSpareThings_any (ys xs : List Thing) (B A : Option Addr) (m d n c : Nat) (w : World) (hm : (m : Int) ≤ 9223372036854775807) (hn : (n : Int) ≤ 9223372036854775807) (ht : Sl w B m ys) (hs : Sl w A n xs) (hv' : ∀ x, x ∈ ys → x.Name.size ≤ maxLen) (hv : ∀ x, x ∈ xs → x.Name.size ≤ maxLen) :
    Calls Try.prog 24 #[.slice B m d, .slice A n c] w (RetOwn2 w 72 (spareF ys xs)) := by
  have HX := Lib.hid hs.1
  have HY := Lib.hid ht.1
  have HV := Lib.hid hv
  have HV' := Lib.hid hv'
  clear hv hv'
  cases h1 : thingsB ys
  · have Hz := Lib.hid (spareF_no (xs := xs) (ys := ys) (.inr h1))
    go_enter Try.func24, Try.ntmps24
    go_wp2_with fail
    refine (areThings_any ys _ _ _ _ hm ht HV'.out).mono ?_
    rintro e V1 ⟨rfl, hb1⟩
    go_wp2
    go_ret2
    exact retOwn2_mk Hz.out (Own.nil _ _ _) hb1
  cases h2 : thingsB xs
  · have Hz := Lib.hid (spareF_no (xs := xs) (ys := ys) (.inl h2))
    go_enter Try.func24, Try.ntmps24
    go_wp2_with fail
    refine (areThings_any ys _ _ _ _ hm ht HV'.out).mono ?_
    rintro e V1 ⟨rfl, hb1⟩
    go_wp2_with fail
    refine (areThings_any xs _ _ _ _ hn (hs.below hb1) HV.out).mono ?_
    rintro e V2 ⟨rfl, hb2⟩
    go_wp2
    go_ret2
    exact retOwn2_mk Hz.out (Own.nil _ _ _) (bl_trans hb1 hb2)
  have Hz := Lib.hid (spareF_yes (xs := xs) (ys := ys) (by first | exact h1 | exact h2) (by first | exact h2 | exact h1))
  have hlx : n ≤ 1048576 := by have := HX.out; have := thingsB_len (xs := xs) (by first | exact h1 | exact h2); omega
  have hly : m ≤ 1048576 := by have := HY.out; have := thingsB_len (xs := ys) (by first | exact h2 | exact h1); omega
  have HA := Lib.hid h1
  have HB := Lib.hid h2
  go_enter Try.func24, Try.ntmps24
  go_wp2_with fail
  refine (areThings_any ys _ _ _ _ hm ht HV'.out).mono ?_
  rintro e V1 ⟨rfl, hb1⟩
  go_wp2_with fail
  refine (areThings_any xs _ _ _ _ hn (hs.below hb1) HV.out).mono ?_
  rintro e V2 ⟨rfl, hb2⟩
  have hbk := bl_trans hb1 hb2
  have HL := HX
  clear hb1 hb2 HX HY
  have HX := HB
  have HY := HA
  clear HA HB
  go_wp2
  clear h1 h2
  go_loopw [6, 20] (fun v i wr => ∃ (k q c' : Nat) (A' : Option Addr), k ≤ n ∧ i = .int .i64 k ∧ v = .slice A' q c' ∧ q ≤ k ∧ Own wr w.heap.size 72 (.slice A' q c') ((xs.take k).filterMap (moreF true ys)) ∧ Below w.heap.size w wr) (fun _ i _ => n - (intOf i).toNat)
  case atStart => exact ⟨0, 0, 0, none, Nat.zero_le _, rfl, rfl, Nat.le_refl _, Own.nil _ _ _, hbk⟩
  case round =>
    obtain ⟨k, q, c', A', hk, rfl, rfl, hq, ho, hb⟩ := hrel
    by_cases hlt : k < n
    · obtain ⟨b, o, rfl, hbz, c0, c1, c2⟩ := (hs.below hb).thing hlt
      have hyr := ht.below hb
      have hkx : Hid (k < xs.length) := by rw [Hid, HL.out]; exact hlt
      obtain ⟨u1, u2⟩ := count_in HX.out hkx.out
      obtain ⟨v, hv⟩ : ∃ v, v = countF ys (nth xs k).Name := ⟨_, rfl⟩
      obtain ⟨v1, v2⟩ := countF_in HY.out (nth xs k).Name
      rw [← hv] at v1 v2
      have HV := Lib.hid hv.symm
      clear hv hs ht
      go_wp2_with fail
      refine wp_region_grow (by kernel_rfl) (by kernel_rfl) (fun X hX => ?_)
      have hbX : Below wr.heap.size wr X := by rw [hX]; exact bl_alloc (bl_refl _) _
      have r0 : X.cell? ⟨wr.heap.size, 0, none⟩ = some (.string (nth xs k).Name) := by rw [hX]; go_simp
      have r1 : X.cell? ⟨wr.heap.size, 1, none⟩ = some (.int .i64 (nth xs k).Count) := by rw [hX]; go_simp
      have r2 : X.cell? ⟨wr.heap.size, 2, none⟩ = some (.int .i64 (nth xs k).Day) := by rw [hX]; go_simp
      have q0 := Gw.cell r0
      have q1 := Gw.cell r1
      have hyX := hyr.below hbX
      have hc : ∀ V, Below X.heap.size X V → Calls Try.prog 59 #[.slice B m d, .string (nth xs k).Name] V fun e w' => e = .returned (.int .i64 v) ∧ Below V.heap.size V w' := fun V hV => by
        have := countOf_any ys B m d (nth xs k).Name V (by omega) (hyX.below hV)
        rwa [HV.out] at this
      have hc' := Lib.hid hc
      have hXX := Lib.hid hX
      clear hX hyr hyX hc c0 c1 c2
      repeat (go_big_quiet_step ((go_at_call 59; exact Calls.grow_of (hc'.out _ (Subtype.property _)))))
      refine wpGrow_nil (fun V hV => ?_)
      have v0 := cell_later hV r0
      have w2 := cell_later hV r2
      have vz := World.block_lt_of_cell? V _ v0
      have hbV := bl_trans hb (bl_trans hbX hV)
      have hoV := ho.below (bl_trans hbX hV)
      clear q0 q1 r0 r1 hbX hV ho hb hc' hXX
      by_cases hd : v < (nth xs k).Count
      · have hp := Lib.hid (moreF_yes (keep := true) HV.out hd)
        have hgt : decide ((nth xs k).Count - v > 0) = true := by simp; omega
        go_wp2_with ((at_builtin; refine wpList_app1 rfl (.tmp 33) (.tmp 40) _ _ rfl el_thing (⟨(nth xs k).Name, (nth xs k).Count - v, (nth xs k).Day⟩ : Thing) rfl hoV hbV rfl (by omega) ?_; intro A2 c2 w2 ho2 hb2 hg2))
        go_roundw
        case rel => exact ⟨k + 1, q + 1, c2, A2, by omega, by go_num, rfl, by omega, by rw [fmap_yes hkx.out hp.out]; exact ho2, hb2⟩
        case measure => simp [intOf]; omega
      · have hp := Lib.hid (moreF_no (keep := true) HV.out hd)
        have hgt : decide ((nth xs k).Count - v > 0) = false := by simp; omega
        go_wp2
        go_roundw
        case rel => exact ⟨k + 1, q, c', A', by omega, by go_num, rfl, by omega, by rw [fmap_no hkx.out hp.out]; exact hoV, hbV⟩
        case measure => simp [intOf]; omega
    · obtain rfl : k = n := by omega
      have hfin : Hid ((xs.take k).filterMap (moreF true ys) = moreL true ys xs) := by rw [Hid, List.take_of_length_le (by rw [HL.out]; exact Nat.le_refl _)]; rfl
      have hq2 := ho.sl.1
      rw [hfin.out] at ho hq2
      have hq3 := Lib.hid hq2
      clear hq2
      go_wp2
      go_ret2
      exact retOwn2_mk Hz.out ho hb

end Go.Proofs.Ytmmaddlbaonajaa
