/-
  Things: how many more of each thing one list holds. No conditions.
-/
import Derived.Test.YtokcgjjnljflaaaThingF
namespace Go.Proofs.Ytokcgjjnljflaaa
open Go.RowKit

def moreF (keep : Bool) (ys : List Thing) (x : Thing) : Option Thing := if countF ys x.Name < x.Count then some ⟨x.Name, x.Count - countF ys x.Name, if keep then x.Day else 0⟩ else none
/-- what a list holds more than another -/
def moreL (keep : Bool) (ys xs : List Thing) : List Thing := xs.filterMap (moreF keep ys)
theorem moreF_yes {keep : Bool} {ys : List Thing} {x : Thing} {q : Int} (hq : countF ys x.Name = q) (h : q < x.Count) : moreF keep ys x = some ⟨x.Name, x.Count - q, if keep then x.Day else 0⟩ := by unfold moreF; rw [hq, if_pos h]
theorem moreF_no {keep : Bool} {ys : List Thing} {x : Thing} {q : Int} (hq : countF ys x.Name = q) (h : ¬ q < x.Count) : moreF keep ys x = none := by unfold moreF; rw [hq, if_neg h]
theorem fmap_yes {α β : Type} [Inhabited α] {f : α → Option β} {xs : List α} {k : Nat} {y : β} (hk : k < xs.length) (h : f (nth xs k) = some y) : (xs.take (k + 1)).filterMap f = (xs.take k).filterMap f ++ [y] := by
  rw [take_succ hk, List.filterMap_append]; simp [h]
theorem fmap_no {α β : Type} [Inhabited α] {f : α → Option β} {xs : List α} {k : Nat} (hk : k < xs.length) (h : f (nth xs k) = none) : (xs.take (k + 1)).filterMap f = (xs.take k).filterMap f := by
  rw [take_succ hk, List.filterMap_append]; simp [h]
theorem count_in {xs : List Thing} (h : thingsB xs = true) {k : Nat} (hk : k < xs.length) : 1 ≤ (nth xs k).Count ∧ (nth xs k).Count ≤ 99 := by
  have h1 := thingsB_at h hk
  unfold okThing inB at h1
  simp only [Bool.and_eq_true, decide_eq_true_eq] at h1
  exact h1.1.1.2
theorem countF_in {xs : List Thing} (h : thingsB xs = true) (nm : ByteArray) : 0 ≤ countF xs nm ∧ countF xs nm ≤ 99 := by
  have hr := indexF_range (nmT nm) xs
  by_cases h0 : indexF (nmT nm) xs = -1
  · rw [countF_no h0]; omega
  · obtain ⟨k, hk⟩ : ∃ k : Nat, indexF (nmT nm) xs = k := ⟨(indexF (nmT nm) xs).toNat, by omega⟩
    rw [countF_at hk]
    have := count_in h (indexF_at hk).1
    omega
theorem moreL_len (keep : Bool) {ys xs : List Thing} (h : thingsB xs = true) : (moreL keep ys xs).length ≤ 12 := Nat.le_trans (List.length_filterMap_le _ _) (thingsB_len h)
set_option maxHeartbeats 2000000 in
theorem eqMissing_any (xs ys : List Thing) (A B : Option Addr) (n c m d : Nat) (w : World) (hn : n ≤ 1048576) (hm : m ≤ 1048576) (hs : Sl w A n xs) (ht : Sl w B m ys) (hx : thingsB xs = true) (hy : thingsB ys = true) :
    Calls Try.prog 44 #[.slice A n c, .slice B m d] w (RetOwn w 59 (moreL false ys xs)) := by
  have HL := Lib.hid hs.1
  have HX := Lib.hid hx
  have HY := Lib.hid hy
  clear hx hy
  go_enter Try.func44, Try.ntmps44
  go_wp2
  go_loopw [5, 11] (fun v i wr => ∃ (k q c' : Nat) (A' : Option Addr), k ≤ n ∧ i = .int .i64 k ∧ v = .slice A' q c' ∧ q ≤ k ∧ Own wr w.heap.size 59 (.slice A' q c') ((xs.take k).filterMap (moreF false ys)) ∧ Below w.heap.size w wr) (fun _ i _ => n - (intOf i).toNat)
  case atStart => exact ⟨0, 0, 0, none, Nat.zero_le _, rfl, rfl, Nat.le_refl _, Own.nil _ _ _, bl_refl _⟩
  case round =>
    obtain ⟨k, q, c', A', hk, rfl, rfl, hq, ho, hb⟩ := hrel
    by_cases hlt : k < n
    · obtain ⟨b, o, rfl, hbz, c0, c1, c2⟩ := (hs.below hb).thing hlt
      have hyr := ht.below hb
      have hkx : Hid (k < xs.length) := by rw [Hid, HL.out]; exact hlt
      obtain ⟨u1, u2⟩ := count_in HX.out hkx.out
      obtain ⟨v, hv⟩ : ∃ v, v = countF ys (nth xs k).Name := ⟨_, rfl⟩
      obtain ⟨v1, v2⟩ := countF_in HY.out (nth xs k).Name
      rw [← hv] at v1 v2
      have HV := Lib.hid hv.symm
      clear hv hs ht
      go_wp2_with fail
      refine wp_region_grow (by kernel_rfl) (by kernel_rfl) (fun X hX => ?_)
      have hbX : Below wr.heap.size wr X := by rw [hX]; exact bl_alloc (bl_refl _) _
      have r0 : X.cell? ⟨wr.heap.size, 0, none⟩ = some (.string (nth xs k).Name) := by rw [hX]; go_simp
      have r1 : X.cell? ⟨wr.heap.size, 1, none⟩ = some (.int .i64 (nth xs k).Count) := by rw [hX]; go_simp
      have q0 := Gw.cell r0
      have q1 := Gw.cell r1
      have hyX := hyr.below hbX
      have hc : ∀ V, Below X.heap.size X V → Calls Try.prog 46 #[.slice B m d, .string (nth xs k).Name] V fun e w' => e = .returned (.int .i64 v) ∧ Below V.heap.size V w' := fun V hV => by
        have := eqHas_any ys B m d (nth xs k).Name V (by omega) (hyX.below hV) (things_rise HY.out)
        rwa [HV.out] at this
      have hc' := Lib.hid hc
      have hXX := Lib.hid hX
      clear hX hyr hyX hc c0 c1 c2
      repeat (go_big_quiet_step ((go_at_call 46; exact Calls.grow_of (hc'.out _ (Subtype.property _)))))
      refine wpGrow_nil (fun V hV => ?_)
      have v0 := cell_later hV r0
      have vz := World.block_lt_of_cell? V _ v0
      have hbV := bl_trans hb (bl_trans hbX hV)
      have hoV := ho.below (bl_trans hbX hV)
      clear q0 q1 r0 r1 hbX hV ho hb hc' hXX
      by_cases hd : v < (nth xs k).Count
      · have hp := Lib.hid (moreF_yes (keep := false) HV.out hd)
        have hgt : decide ((nth xs k).Count - v > 0) = true := by simp; omega
        go_wp2_with ((at_builtin; refine wpList_app1 rfl (.tmp 24) (.tmp 29) _ _ rfl el_thing (⟨(nth xs k).Name, (nth xs k).Count - v, 0⟩ : Thing) rfl hoV hbV rfl (by omega) ?_; intro A2 c2 w2 ho2 hb2 hg2))
        go_roundw
        case rel => exact ⟨k + 1, q + 1, c2, A2, by omega, by go_num, rfl, by omega, by rw [fmap_yes hkx.out hp.out]; exact ho2, hb2⟩
        case measure => simp [intOf]; omega
      · have hp := Lib.hid (moreF_no (keep := false) HV.out hd)
        have hgt : decide ((nth xs k).Count - v > 0) = false := by simp; omega
        go_wp2
        go_roundw
        case rel => exact ⟨k + 1, q, c', A', by omega, by go_num, rfl, by omega, by rw [fmap_no hkx.out hp.out]; exact hoV, hbV⟩
        case measure => simp [intOf]; omega
    · obtain rfl : k = n := by omega
      have hfin : Hid ((xs.take k).filterMap (moreF false ys) = moreL false ys xs) := by rw [Hid, List.take_of_length_le (by rw [HL.out]; exact Nat.le_refl _)]; rfl
      have hq2 := ho.sl.1
      rw [hfin.out] at ho hq2
      have hq3 := Lib.hid hq2
      clear hq2
      go_wp2
      go_ret
      exact retOwn_mk hq3.out ho hb
set_option maxHeartbeats 2000000 in
theorem missingThings_any (xs ys : List Thing) (A B : Option Addr) (n c m d : Nat) (w : World) (hn : n ≤ 1048576) (hm : m ≤ 1048576) (hs : Sl w A n xs) (ht : Sl w B m ys) (hx : thingsB xs = true) (hy : thingsB ys = true) :
    Calls Try.prog 67 #[.slice A n c, .slice B m d] w (RetOwn w 59 (moreL false ys xs)) := by
  have HL := Lib.hid hs.1
  have HX := Lib.hid hx
  have HY := Lib.hid hy
  clear hx hy
  go_enter Try.func67, Try.ntmps67
  go_wp2
  go_loopw [5, 11] (fun v i wr => ∃ (k q c' : Nat) (A' : Option Addr), k ≤ n ∧ i = .int .i64 k ∧ v = .slice A' q c' ∧ q ≤ k ∧ Own wr w.heap.size 59 (.slice A' q c') ((xs.take k).filterMap (moreF false ys)) ∧ Below w.heap.size w wr) (fun _ i _ => n - (intOf i).toNat)
  case atStart => exact ⟨0, 0, 0, none, Nat.zero_le _, rfl, rfl, Nat.le_refl _, Own.nil _ _ _, bl_refl _⟩
  case round =>
    obtain ⟨k, q, c', A', hk, rfl, rfl, hq, ho, hb⟩ := hrel
    by_cases hlt : k < n
    · obtain ⟨b, o, rfl, hbz, c0, c1, c2⟩ := (hs.below hb).thing hlt
      have hyr := ht.below hb
      have hkx : Hid (k < xs.length) := by rw [Hid, HL.out]; exact hlt
      obtain ⟨u1, u2⟩ := count_in HX.out hkx.out
      obtain ⟨v, hv⟩ : ∃ v, v = countF ys (nth xs k).Name := ⟨_, rfl⟩
      obtain ⟨v1, v2⟩ := countF_in HY.out (nth xs k).Name
      rw [← hv] at v1 v2
      have HV := Lib.hid hv.symm
      clear hv hs ht
      go_wp2_with fail
      refine wp_region_grow (by kernel_rfl) (by kernel_rfl) (fun X hX => ?_)
      have hbX : Below wr.heap.size wr X := by rw [hX]; exact bl_alloc (bl_refl _) _
      have r0 : X.cell? ⟨wr.heap.size, 0, none⟩ = some (.string (nth xs k).Name) := by rw [hX]; go_simp
      have r1 : X.cell? ⟨wr.heap.size, 1, none⟩ = some (.int .i64 (nth xs k).Count) := by rw [hX]; go_simp
      have q0 := Gw.cell r0
      have q1 := Gw.cell r1
      have hyX := hyr.below hbX
      have hc : ∀ V, Below X.heap.size X V → Calls Try.prog 55 #[.slice B m d, .string (nth xs k).Name] V fun e w' => e = .returned (.int .i64 v) ∧ Below V.heap.size V w' := fun V hV => by
        have := countOf_any ys B m d (nth xs k).Name V (by omega) (hyX.below hV)
        rwa [HV.out] at this
      have hc' := Lib.hid hc
      have hXX := Lib.hid hX
      clear hX hyr hyX hc c0 c1 c2
      repeat (go_big_quiet_step ((go_at_call 55; exact Calls.grow_of (hc'.out _ (Subtype.property _)))))
      refine wpGrow_nil (fun V hV => ?_)
      have v0 := cell_later hV r0
      have vz := World.block_lt_of_cell? V _ v0
      have hbV := bl_trans hb (bl_trans hbX hV)
      have hoV := ho.below (bl_trans hbX hV)
      clear q0 q1 r0 r1 hbX hV ho hb hc' hXX
      by_cases hd : v < (nth xs k).Count
      · have hp := Lib.hid (moreF_yes (keep := false) HV.out hd)
        have hgt : decide ((nth xs k).Count - v > 0) = true := by simp; omega
        go_wp2_with ((at_builtin; refine wpList_app1 rfl (.tmp 24) (.tmp 29) _ _ rfl el_thing (⟨(nth xs k).Name, (nth xs k).Count - v, 0⟩ : Thing) rfl hoV hbV rfl (by omega) ?_; intro A2 c2 w2 ho2 hb2 hg2))
        go_roundw
        case rel => exact ⟨k + 1, q + 1, c2, A2, by omega, by go_num, rfl, by omega, by rw [fmap_yes hkx.out hp.out]; exact ho2, hb2⟩
        case measure => simp [intOf]; omega
      · have hp := Lib.hid (moreF_no (keep := false) HV.out hd)
        have hgt : decide ((nth xs k).Count - v > 0) = false := by simp; omega
        go_wp2
        go_roundw
        case rel => exact ⟨k + 1, q, c', A', by omega, by go_num, rfl, by omega, by rw [fmap_no hkx.out hp.out]; exact hoV, hbV⟩
        case measure => simp [intOf]; omega
    · obtain rfl : k = n := by omega
      have hfin : Hid ((xs.take k).filterMap (moreF false ys) = moreL false ys xs) := by rw [Hid, List.take_of_length_le (by rw [HL.out]; exact Nat.le_refl _)]; rfl
      have hq2 := ho.sl.1
      rw [hfin.out] at ho hq2
      have hq3 := Lib.hid hq2
      clear hq2
      go_wp2
      go_ret
      exact retOwn_mk hq3.out ho hb

end Go.Proofs.Ytokcgjjnljflaaa
