/-
  Lists of loads: their reading, and the helpers of the laws over them. No conditions.
-/
import Derived.Test.YtokcgjjnljflaaaLoadZ
import Derived.Test.YtokcgjjnljflaaaNest
namespace Go.Proofs.Ytokcgjjnljflaaa
open Go.RowKit

/-- What a size function answers where the elements are counted in. -/
def SzPostN (w : World) (left : Int) (n : Nat) (e : Ending) (w' : World) : Prop :=
  ∃ r : Int, e = .returned (.int .i64 r) ∧ (r = -1 ∨ (0 ≤ r ∧ r + n ≤ left)) ∧ Below w.heap.size w w'
instance : Deep Load where
  sz := 2
  pos := by omega
  rep := fun w cs x => ∃ A c, cs = [.string (x.Appliance), .slice A x.Things.length c] ∧ Sl w A x.Things.length x.Things ∧ x.Things.length ≤ maxLen
  len := fun {_ _ _} h => by obtain ⟨A, c, rfl, _⟩ := h; rfl
  keep := fun {_ _ _ _} k h => by obtain ⟨A, c, e, hs, hl⟩ := h; exact ⟨A, c, e, hs.keep k, hl⟩
structure LoadR where
  Appliance : ByteArray
  A : Option Addr
  n : Nat
  c : Nat
instance : Inhabited LoadR := ⟨⟨ByteArray.empty, none, 0, 0⟩⟩
instance : Flat LoadR where
  sz := 2
  pos := by omega
  enc := fun x => [.string (x.Appliance), .slice x.A x.n x.c]
  len := fun _ => rfl
  one := fun _ u h => by simp at h; rcases h with rfl | rfl <;> rfl
def loadN : Nest LoadR Thing Load where
  hdr := fun r => .slice r.A r.n r.c
  of := fun r l => ⟨r.Appliance, l⟩
  szs := rfl
  rep := fun {w base E r l} h => by
    have hl := h.sl.1
    have hc := h.cap
    refine ⟨r.A, r.c, ?_, ?_, ?_⟩
    · show ([.string (r.Appliance), .slice r.A r.n r.c] : List Value) = [.string (r.Appliance), .slice r.A l.length r.c]
      rw [hl]
    · show Sl w r.A l.length l
      rw [hl]; exact h.sl
    · show l.length ≤ maxLen
      omega
theorem Sl.load {w : World} {A : Option Addr} {n : Nat} {xs : List Load} (h : Sl w A n xs) {k : Nat} (hk : k < n) :
    ∃ b o A' c', A = some ⟨b, o, none⟩ ∧ b < w.heap.size ∧ w.cell? ⟨b, o + k * 2, none⟩ = some (.string ((nth xs k).Appliance)) ∧ w.cell? ⟨b, o + k * 2 + 1, none⟩ = some (.slice A' (nth xs k).Things.length c') ∧ Sl w A' (nth xs k).Things.length (nth xs k).Things ∧ (nth xs k).Things.length ≤ maxLen := by
  obtain ⟨b, o, cs, rfl, ⟨A', c', rfl, hs, hl⟩, hc⟩ := h.at hk
  have h0 := hc 0 _ rfl
  exact ⟨b, o, A', c', rfl, World.block_lt_of_cell? w _ h0, hc 0 _ rfl, hc 1 _ rfl, hs, hl⟩
/-- how many there are inside, all told -/
def sumLoad (xs : List Load) : Nat := (xs.map fun x => x.Things.length).sum
theorem sumLoad_succ {xs : List Load} {k : Nat} (hk : k < xs.length) : sumLoad (xs.take (k + 1)) = sumLoad (xs.take k) + (nth xs k).Things.length := by
  unfold sumLoad; rw [take_succ hk, List.map_append, List.sum_append]; simp
theorem sumLoad_at {xs : List Load} {x : Load} (h : x ∈ xs) : x.Things.length ≤ sumLoad xs := by
  unfold sumLoad
  induction xs with
  | nil => cases h
  | cons y ys ih =>
    simp only [List.map_cons, List.sum_cons]
    rcases List.mem_cons.1 h with rfl | h
    · omega
    · have := ih h; omega
set_option maxHeartbeats 1000000 in
theorem szThingS_sum (A : Option Addr) (n c : Nat) (xs : List Thing) (left : Int) (w : World) (hn : (n : Int) ≤ 9223372036854775807) (hs : Sl w A n xs) (hv : ∀ x, x ∈ xs → x.Name.size ≤ maxLen) (h0 : 0 ≤ left) (h1 : left ≤ 1048576) :
    Calls Try.prog 13 #[.slice A n c, .int .i64 left] w (SzPostN w left n) := by
  have HL := Lib.hid hs.1
  have HV := Lib.hid hv
  clear hv
  by_cases hlt : left < n
  · go_enter Try.func13, Try.ntmps13
    go_wp2
    go_ret
    exact ⟨-1, rfl, .inl rfl, bl_refl _⟩
  go_enter Try.func13, Try.ntmps13
  go_wp2
  go_loopw [1, 5] (fun u v wr => ∃ (k : Nat) (r : Int), k ≤ n ∧ v = .int .i64 k ∧ u = .int .i64 r ∧ 0 ≤ r ∧ r + n ≤ left ∧ Below w.heap.size w wr) (fun _ v _ => n - (intOf v).toNat)
  case atStart => exact ⟨0, left - n, Nat.zero_le _, rfl, rfl, by omega, by omega, bl_refl _⟩
  case round =>
    obtain ⟨k, r, hk, rfl, rfl, hr0, hr1, hb⟩ := hrel
    by_cases hkn : k < n
    · have hkx : Hid (k < xs.length) := by rw [Hid, HL.out]; exact hkn
      obtain ⟨b, o, rfl, hbz, c0, c1, c2⟩ := (hs.below hb).thing hkn
      clear hs
      have hm2 := Lib.hid (nth_mem hkx.out)
      go_wp2_with fail
      refine (szThing_any (nth xs k) r _ (HV.out _ hm2.out) hr0 (by omega)).mono ?_
      rintro e V ⟨q, rfl, hq, hV⟩
      clear c0 c1 c2
      rcases hq with rfl | ⟨q0, q1, q2⟩
      · go_wp2
        go_ret
        exact ⟨-1, rfl, .inl rfl, bl_trans hb hV⟩
      · go_wp2
        go_roundw
        case rel => exact ⟨k + 1, q, by omega, by go_num, rfl, q0, by omega, bl_trans hb hV⟩
        case measure => simp [intOf]; omega
    · obtain rfl : k = n := by omega
      go_wp2
      go_ret
      exact ⟨r, rfl, .inr ⟨hr0, hr1⟩, hb⟩
set_option maxHeartbeats 1000000 in
theorem szLoad_sum (appliance : ByteArray) (A : Option Addr) (n c : Nat) (xs : List Thing) (left : Int) (w : World) (hzappliance : appliance.size ≤ maxLen) (hn : (n : Int) ≤ 9223372036854775807) (hs : Sl w A n xs) (hv : ∀ x, x ∈ xs → x.Name.size ≤ maxLen) (h0 : 0 ≤ left) (h1 : left ≤ 1048576) :
    Calls Try.prog 6 #[.agg #[.string (appliance), .slice A n c], .int .i64 left] w (SzPostN w left n) := by
  unfold maxLen at hzappliance
  by_cases hlt : left < appliance.size
  · go_enter Try.func6, Try.ntmps6
    go_wp2
    go_ret
    exact ⟨-1, rfl, .inl rfl, bl_alloc (bl_refl _) _⟩
  have HV := Lib.hid hv
  clear hv
  go_enter Try.func6, Try.ntmps6
  go_wp2_with fail
  refine (szThingS_sum A n c xs (left - appliance.size) _ hn (hs.below (bl_alloc (bl_refl _) _)) HV.out (by omega) (by omega)).mono ?_
  rintro e V ⟨q, rfl, hq, hV⟩
  have hb := bl_trans (bl_alloc (bl_refl w) (.cells #[.string (appliance), .slice A n c] 24)) hV
  rcases hq with rfl | ⟨q0, q1⟩
  · go_wp2
    go_ret
    exact ⟨-1, rfl, .inl rfl, hb⟩
  · go_wp2
    go_ret
    exact ⟨q, rfl, .inr ⟨q0, by omega⟩, hb⟩
set_option maxHeartbeats 1000000 in
theorem szLoadS_any (A : Option Addr) (n c : Nat) (xs : List Load) (left : Int) (w : World) (hn : (n : Int) ≤ 9223372036854775807) (hs : Sl w A n xs) (hv : ∀ x, x ∈ xs → x.Appliance.size ≤ maxLen ∧ ∀ y, y ∈ x.Things → y.Name.size ≤ maxLen) (h0 : 0 ≤ left) (h1 : left ≤ 1048576) :
    Calls Try.prog 14 #[.slice A n c, .int .i64 left] w (SzPost w left ((n : Int) + sumLoad xs ≤ left)) := by
  have HL := Lib.hid hs.1
  have HV := Lib.hid hv
  clear hv
  by_cases hlt : left < n
  · go_enter Try.func14, Try.ntmps14
    go_wp2
    go_ret
    exact ⟨-1, rfl, .inl rfl, bl_refl _⟩
  have h00 : sumLoad (xs.take 0) = 0 := rfl
  have H00 := Lib.hid h00
  clear h00
  go_enter Try.func14, Try.ntmps14
  go_wp2
  go_loopw [1, 5] (fun u v wr => ∃ (k : Nat) (r : Int), k ≤ n ∧ v = .int .i64 k ∧ u = .int .i64 r ∧ 0 ≤ r ∧ r ≤ left ∧ Hid (r + n + sumLoad (xs.take k) ≤ left) ∧ Below w.heap.size w wr) (fun _ v _ => n - (intOf v).toNat)
  case atStart => exact ⟨0, left - n, Nat.zero_le _, rfl, rfl, by omega, by omega, by rw [Hid, H00.out]; omega, bl_refl _⟩
  case round =>
    obtain ⟨k, r, hk, rfl, rfl, hr0, hr1, hg, hb⟩ := hrel
    by_cases hkn : k < n
    · have hkx : Hid (k < xs.length) := by rw [Hid, HL.out]; exact hkn
      obtain ⟨b, o, A', c', rfl, hbz, c0, c1, hi, hil⟩ := (hs.below hb).load hkn
      clear hs
      have hm2 := Lib.hid (nth_mem hkx.out)
      have hil2 : ((nth xs k).Things.length : Int) ≤ 9223372036854775807 := by unfold maxLen at hil; omega
      have HS := Lib.hid (sumLoad_succ hkx.out)
      clear hil
      go_wp2_with fail
      refine (szLoad_sum (nth xs k).Appliance A' _ c' (nth xs k).Things r _ (HV.out _ hm2.out).1 hil2 hi (HV.out _ hm2.out).2 hr0 (by omega)).mono ?_
      rintro e V ⟨q, rfl, hq, hV⟩
      clear hi c0 c1
      rcases hq with rfl | ⟨q0, q1⟩
      · go_wp2
        go_ret
        exact ⟨-1, rfl, .inl rfl, bl_trans hb hV⟩
      · have HQ := Lib.hid q1
        have q2 : q ≤ r := by omega
        clear q1
        go_wp2
        go_roundw
        case rel => exact ⟨k + 1, q, by omega, by go_num, rfl, q0, by omega, by have h1 := HQ.out; have h2 := HS.out; have h3 := hg.out; rw [Hid, h2]; omega, bl_trans hb hV⟩
        case measure => simp [intOf]; omega
    · obtain rfl : k = n := by omega
      have hfin : Hid (r + (k : Int) + sumLoad xs ≤ left) := by have := hg.out; rw [List.take_of_length_le (by rw [HL.out]; exact Nat.le_refl _)] at this; exact this
      go_wp2
      go_ret
      exact ⟨r, rfl, .inr ⟨hr0, hr1, by have := hfin.out; omega⟩, hb⟩
theorem load_info : (Try.prog.info? 28).map (fun i => (i.zero, i.size, i.bytes)) = some (some (.agg #[.string (ByteArray.empty), .slice none 0 0]), 2, 40) := by kernel_rfl
set_option maxHeartbeats 4000000 in
theorem toLoadS_any (A : Option Addr) (n c : Nat) (xs : List Load) (w : World) (hn : n ≤ 1048576) (hx : Sl w A n xs) (hin : ∀ x, x ∈ xs → x.Things.length ≤ 1048576) :
    Calls Try.prog 17 #[.slice A n c] w (RetOwnX loadN w 28 59 xs) := by
  have Hx := Lib.hid hx.1
  have Hin := Lib.hid hin
  clear hin
  obtain ⟨i0, hi, hz0, hz1, hz2⟩ := info_parts load_info
  have hmk := fun W => run_make_rowN (P := Try.prog) 41 28 i0 _ Try.underlying41 hi hz0 .i64 .i64 n n (Nat.le_refl _) (by rw [hz2]; omega) (by omega) W
  rw [hz1] at hmk
  clear hi hz0 hz1 hz2
  go_enter Try.func17, Try.ntmps17
  go_wp2
  clear hmk
  go_loopw [4] (fun i wr => ∃ (k : Nat) (ps : List (LoadR × List Thing)), k ≤ n ∧ i = .int .i64 k ∧ Below w.heap.size w wr ∧ OwnP loadN wr w.heap.size 28 59 (.slice (some ⟨w.heap.size, 0, none⟩) n n) ps ∧ Hid (loadN.plain ps = xs.take k ++ List.replicate (n - k) (default : Load))) (fun i _ => n - (intOf i).toNat)
  case atStart =>
    refine ⟨0, List.replicate n (default, []), Nat.zero_le _, rfl, bl_alloc (bl_refl _) _, OwnP.fresh (by rw [List.map_replicate]; exact Own.made w _ default rfl n (by unfold maxLen; omega)) ?_ (by decide), ?_⟩
    · intro i p hp
      rw [List.getElem?_replicate] at hp
      split at hp
      · injection hp with hp; subst hp; exact ⟨rfl, rfl⟩
      · cases hp
    · rw [Hid]; unfold Nest.plain; rw [List.map_replicate]; rfl
  case round =>
    obtain ⟨k, ps, hk, rfl, hb, ho, HL⟩ := hrel
    by_cases hlt : k < n
    · obtain ⟨b, o, A', c', rfl, _, c0, c1, hi, _⟩ := (hx.below hb).load hlt
      have hkx : Hid (k < xs.length) := by rw [Hid, Hx.out]; exact hlt
      have hm2 := Lib.hid (nth_mem hkx.out)
      clear hx
      go_wp2_with fail
      refine (toLoad_any (nth xs k).Appliance A' _ c' (nth xs k).Things _ (Hin.out _ hm2.out) hi).mono ?_
      rintro e V ⟨A2, cc2, rfl, ho1, hV⟩
      have hoV := ho.below hV
      have hz1 : w.heap.size < wr.heap.size := (ho.out.lt _ rfl).2
      have Ho := Lib.hid ho
      have d0 : V.cell? ⟨w.heap.size, k * 2, none⟩ = some (.string ((nth (ps.map Prod.fst) k).Appliance)) := hoV.out.cellAt hlt 0 _ rfl
      have f0 := hoV.out.frozenAt (k * 2)
      have d1 : V.cell? ⟨w.heap.size, k * 2 + 1, none⟩ = some (.slice (nth (ps.map Prod.fst) k).A (nth (ps.map Prod.fst) k).n (nth (ps.map Prod.fst) k).c) := hoV.out.cellAt hlt 1 _ rfl
      have f1 := hoV.out.frozenAt (k * 2 + 1)
      have HO : Hid (Own V wr.heap.size 59 (.slice A2 (nth xs k).Things.length cc2) (nth xs k).Things) := ho1
      clear hi c0 c1 ho ho1
      dsimp only
      go_wp2
      go_roundw
      case rel =>
        have hpl : k < ps.length := by rw [hoV.len]; exact hlt
        obtain ⟨p, hp⟩ : ∃ p, ps[k]? = some p := ⟨_, List.getElem?_eq_getElem hpl⟩
        refine ⟨k + 1, ps.set k (⟨(nth xs k).Appliance, A2, (nth xs k).Things.length, cc2⟩, (nth xs k).Things), by omega, by go_num, ?_, hoV.upd hp (hoV.out.put hlt (⟨(nth xs k).Appliance, A2, (nth xs k).Things.length, cc2⟩ : LoadR)) ?_ ?_ ?_, ?_⟩
        · repeat' (first | exact bl_trans hb hV | refine bl_set ?_ (Nat.le_refl _) _)
        · refine Own.mono (base := w.heap.size + 1) ?_ (by omega)
          have hb1 : w.heap.size + 1 ≤ wr.heap.size := hz1
          have h2 := HO.out.mono hb1
          repeat' (first | exact h2 | refine Own.set ?_ (Nat.lt_succ_self _) _)
        · intro x hx
          refine .inr fun j q hq hx' => ?_
          have h1 := (HO.out.lt x hx).1
          have h2 := ((Ho.out.inn j q hq).lt x hx').2
          omega
        · refine (OnlyF.of_gb (v := .slice (some ⟨w.heap.size, 0, none⟩) n n) ?_).mono (fun k hk => by simp [Value.ownBlock] at hk; subst hk; exact List.mem_cons_self)
          repeat' (first | exact gb_refl _ _ | refine gb_set ?_ _ _)
        · rw [Hid]; unfold Nest.plain at HL ⊢; rw [List.map_set]; exact set_take Hx.out hlt HL.out (get_nth hkx.out)
      case measure => simp [intOf]; omega
    · obtain rfl : k = n := by omega
      have HL2 : Hid (loadN.plain ps = xs) := by rw [Hid, HL.out, ← Hx.out]; simp
      go_wp2
      go_ret
      exact retOwnX_mk HL2.out ho hb
set_option maxHeartbeats 2000000 in
theorem eqLoadS_any (A B : Option Addr) (n m c d : Nat) (xs ys : List Load) (w : World) (hn : (n : Int) ≤ 9223372036854775807) (hx : Sl w A n xs) (hy : Sl w B m ys) :
    Calls Try.prog 20 #[.slice A n c, .slice B m d] w fun e w' => e = .returned (.bool (sameB xs ys)) ∧ Below w.heap.size w w' := by
  have Hx := Lib.hid hx.1
  have Hy := Lib.hid hy.1
  by_cases hnm : n = m
  · subst hnm
    have hd : ((n : Int) != (n : Int)) = false := by simp
    go_enter Try.func20, Try.ntmps20
    go_wp2
    go_loopw [5] (fun i wr => ∃ k : Nat, k ≤ n ∧ i = .int .i64 k ∧ Below w.heap.size w wr ∧ Hid (xs.take k = ys.take k)) (fun i _ => n - (intOf i).toNat)
    case atStart => exact ⟨0, Nat.zero_le _, rfl, bl_refl _, rfl⟩
    case round =>
      obtain ⟨k, hk, rfl, hb, hg⟩ := hrel
      by_cases hlt : k < n
      · obtain ⟨b, o, A', c', rfl, _, c0, c1, hi, hil⟩ := (hx.below hb).load hlt
        obtain ⟨b', o', B', c'', rfl, _, d0, d1, hj, _⟩ := (hy.below hb).load hlt
        have hil2 : ((nth xs k).Things.length : Int) ≤ 9223372036854775807 := by unfold maxLen at hil; omega
        clear hx hy hil
        by_cases he : sameB (⟨(nth xs k).Appliance, (nth xs k).Things⟩ : Load) (⟨(nth ys k).Appliance, (nth ys k).Things⟩ : Load) = true
        · skip
          go_wp2_with fail
          refine wp_region_grow (by kernel_rfl) (by kernel_rfl) (fun W hW => ?_)
          have e0 := Gw.cell (by rw [hW]; exact c0 : W.cell? _ = _)
          have g0 := Gw.cell (by rw [hW]; exact d0 : W.cell? _ = _)
          have e1 := Gw.cell (by rw [hW]; exact c1 : W.cell? _ = _)
          have g1 := Gw.cell (by rw [hW]; exact d1 : W.cell? _ = _)
          have SX := Lib.hid (show Sl W A' _ (nth xs k).Things by rw [hW]; exact hi)
          have SY := Lib.hid (show Sl W B' _ (nth ys k).Things by rw [hW]; exact hj)
          have HW := Lib.hid hW
          clear hW hi hj
          repeat (go_big_quiet_step ((go_at_call 10; exact Calls.grow_of (eqLoad_any _ _ _ _ _ _ _ _ _ _ _ hil2 (SX.out.below (Subtype.property _)) (SY.out.below (Subtype.property _))))))
          refine wpGrow_nil (fun V hV => ?_)
          have hbV : Below w.heap.size w V := bl_trans hb (by rw [← HW.out]; exact hV)
          clear hV e0 g0 e1 g1
          go_wp2
          go_roundw
          case rel => exact ⟨k + 1, by omega, by go_num, hbV, sameB_take (by rw [Hx.out]; exact hlt) (by rw [Hy.out]; exact hlt) hg he⟩
          case measure => simp [intOf]; omega
        · have he : sameB (⟨(nth xs k).Appliance, (nth xs k).Things⟩ : Load) (⟨(nth ys k).Appliance, (nth ys k).Things⟩ : Load) = false := by simpa using he
          go_wp2_with fail
          refine wp_region_grow (by kernel_rfl) (by kernel_rfl) (fun W hW => ?_)
          have e0 := Gw.cell (by rw [hW]; exact c0 : W.cell? _ = _)
          have g0 := Gw.cell (by rw [hW]; exact d0 : W.cell? _ = _)
          have e1 := Gw.cell (by rw [hW]; exact c1 : W.cell? _ = _)
          have g1 := Gw.cell (by rw [hW]; exact d1 : W.cell? _ = _)
          have SX := Lib.hid (show Sl W A' _ (nth xs k).Things by rw [hW]; exact hi)
          have SY := Lib.hid (show Sl W B' _ (nth ys k).Things by rw [hW]; exact hj)
          have HW := Lib.hid hW
          clear hW hi hj
          repeat (go_big_quiet_step ((go_at_call 10; exact Calls.grow_of (eqLoad_any _ _ _ _ _ _ _ _ _ _ _ hil2 (SX.out.below (Subtype.property _)) (SY.out.below (Subtype.property _))))))
          refine wpGrow_nil (fun V hV => ?_)
          have hbV : Below w.heap.size w V := bl_trans hb (by rw [← HW.out]; exact hV)
          clear hV e0 g0 e1 g1
          go_wp2
          go_ret
          exact ⟨ret_bool (sameB_nth (k := k) he).symm, hbV⟩
      · obtain rfl : k = n := by omega
        go_wp2
        go_ret
        exact ⟨ret_bool (sameB_all Hx.out Hy.out hg).symm, hb⟩
  · have hd : ((n : Int) != (m : Int)) = true := by simp; omega
    go_enter Try.func20, Try.ntmps20
    go_wp2
    go_ret
    exact ⟨ret_bool (sameB_len (by rw [Hx.out, Hy.out]; exact hnm)).symm, bl_refl _⟩

end Go.Proofs.Ytokcgjjnljflaaa
