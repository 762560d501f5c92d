/-
  The program's alarm of a zone answers alarmS and whether there is one. Conditions: the signals are valid.
-/
import Derived.Test.YtjdaikpkcafcdaaAlarmP
namespace Go.Proofs.Ytjdaikpkcafcdaa
open Go.RowKit
theorem enters_zone1 : Enters Try.prog 58 := enters_of Try.func58 (by kernel_rfl) (by kernel_rfl)
theorem enters_zone2 : Enters Try.prog 59 := enters_of Try.func59 (by kernel_rfl) (by kernel_rfl)
def elseP (l : List Det) (zone : Int) (s : Sig) : Bool := !zofB l zone s
theorem else_filter (l : List Det) (zone : Int) (ss : List Sig) : ss.filter (fun s => !elseP l zone s) = ss.filter (zofB l zone) := by
  congr 1; funext s; simp [elseP]
set_option maxHeartbeats 2000000 in
theorem pred_zone1 (w0 w : World) (F : List Nat) (a az : Addr) (l : List Det) (zone : Int) (A : Option Addr) (n c : Nat) (hn : (n : Int) ≤ 9223372036854775807) (hb0 : Below w0.heap.size w0 w) (hF : ∀ k, k ∈ F → w0.heap.size ≤ k)
    (ha : w0.cell? a = some (.slice A n c)) (haz : w0.cell? az = some (.int .i64 zone)) (hl : Sl w0 A n l) (xs : List Sig) (hx : ∀ s, s ∈ xs → SigOk l s) : Pred Try.prog w F xs 58 SigVal #[.pointer (some a), .pointer (some az)] (elseP l zone) := by
  intro W x hm hof
  have hb : Below w0.heap.size w0 W := hb0.trans ⟨hof.os, hof.tape, hof.output, hof.size, fun k hk => hof.block k (Nat.lt_of_lt_of_le hk hb0.size) (fun hm => by have := hF k hm; omega)⟩
  have ha' := cell_later hb ha
  have haz' := cell_later hb haz
  have hl' := hl.below hb
  obtain ⟨_, _, i, hi⟩ := hx x hm
  have hin : i < n := by have h1 := (indexF_at hi).1; have := hl.1; omega
  have hI := Lib.hid hi
  have hd : Hid (elseP l zone x = ((nth l i).Zone != zone)) := by rw [Hid, elseP, zofB_at hi]; rfl
  have hz := World.block_lt_of_cell? W _ ha'
  have hzz := World.block_lt_of_cell? W _ haz'
  clear ha haz hl hb0 hF hof hb hi hx hm
  show Calls _ _ #[SigVal x, .pointer (some a), .pointer (some az)] W _
  unfold SigVal
  obtain ⟨bl, ol, rfl, hlz, f0, f1, f2, f3⟩ := hl'.det hin
  go_enter Try.func58, Try.ntmps58
  go_wp2_with fail
  refine wp_region_grow (by kernel_rfl) (by kernel_rfl) (fun X hX => ?_)
  have hbX : Below W.heap.size W X := by rw [hX]; exact bl_alloc (bl_refl _) _
  have q1 := Gw.cell (cell_later hbX ha')
  have q2 := Gw.cell (cell_later hbX haz')
  have q3 := Gw.cell (show X.cell? ⟨W.heap.size, 1, none⟩ = some (.int .i64 x.n) by rw [hX]; go_simp)
  have q4 := Gw.cell (cell_later hbX f1)
  have HX := Lib.hid hX
  have hlX := hl'.below hbX
  have hc : ∀ V, Below X.heap.size X V → Calls Try.prog 43 #[.slice (some ⟨bl, ol, none⟩) n c, .int .i64 x.n] V fun e w' => e = .returned (.int .i64 i) ∧ Below V.heap.size V w' := fun V hV => by
    have := detectorAt_any l (some ⟨bl, ol, none⟩) n c x.n V hn (hlX.below hV)
    rwa [hI.out] at this
  have hc' := Lib.hid hc
  clear hX ha' haz' hl' f0 f1 f2 f3 hc hlX
  repeat (go_big_quiet_step ((go_at_call 43; exact Calls.grow_of (hc'.out _ (Subtype.property _)))))
  refine wpGrow_nil (fun V hV => ?_)
  have hbV := bl_trans hbX hV
  clear q1 q2 q3 q4 hV hbX
  go_wp2
  go_ret
  exact ⟨ret_bool hd.out.symm, hbV⟩
set_option maxHeartbeats 2000000 in
theorem pred_zone2 (w : World) (a aw : Addr) (s : Sig) (within : Int) (l : List Det) (ha0 : w.cell? ⟨a.block, 0, none⟩ = some (.int .i64 s.s)) (ha1 : w.cell? ⟨a.block, 1, none⟩ = some (.int .i64 s.n)) (he : a = ⟨a.block, 0, none⟩) (haw : w.cell? aw = some (.int .i64 within))
    (hs : SigOk l s) (xs : List Sig) (hx : ∀ s, s ∈ xs → SigOk l s) : Pred Try.prog w [] xs 59 SigVal #[.pointer (some a), .pointer (some aw)] (nearB within s) := by
  intro W x hm hof
  have hb := hof.nil_below
  have q0 := cell_later hb ha0
  have q1 := cell_later hb ha1
  have q2 := cell_later hb haw
  obtain ⟨x0, x1, _⟩ := hx x hm
  obtain ⟨s0, s1, _⟩ := hs
  obtain ⟨B, rfl⟩ : ∃ B, a = ⟨B, 0, none⟩ := ⟨_, he⟩
  have hz := World.block_lt_of_cell? W _ q0
  have hzz := World.block_lt_of_cell? W _ q2
  clear hof hb ha0 ha1 haw hx hm he
  show Calls _ _ #[SigVal x, .pointer (some ⟨B, 0, none⟩), .pointer (some aw)] W _
  unfold SigVal
  cases hnn : x.n == s.n
  rotate_left
  · have hne : (x.n != s.n) = false := by simp [bne, hnn]
    have hd : Hid (nearB within s x = false) := by rw [Hid, nearB, hne]; rfl
    clear hnn
    go_enter Try.func59, Try.ntmps59
    go_wp2
    go_ret
    exact ⟨ret_bool hd.out.symm, bl_alloc (bl_refl _) _⟩
  have hne : (x.n != s.n) = true := by simp [bne, hnn]
  have hd : Hid (nearB within s x = decide (s.s - x.s ≤ within)) := by rw [Hid, nearB, hne]; simp
  clear hnn
  by_cases hle : s.s - x.s ≤ within
  all_goals
    have hd2 := Lib.hid (hd.out.trans (by first | exact decide_eq_true hle | exact decide_eq_false hle))
    go_enter Try.func59, Try.ntmps59
    go_wp2
    go_ret
    exact ⟨ret_bool hd2.out.symm, bl_alloc (bl_refl _) _⟩
theorem ret_ib {a : Int} {b : Bool} {a' : Int} {b' : Bool} (h : a = a') (h' : b = b') : Ending.returned (.tuple #[.int .i64 a, .bool b]) = .returned (.tuple #[.int .i64 a', .bool b']) := by rw [h, h']
/-- the pair that ZoneAlarm answers -/
def pairOf (s : Int) : Int × Bool := if s < 0 then (0, false) else (s, true)
set_option maxHeartbeats 4000000 in
theorem zoneAlarm_any (l : List Det) (ss : List Sig) (zone within : Int) (A B : Option Addr) (n c m d : Nat) (w : World) (hn : (n : Int) ≤ 9223372036854775807) (hm : m ≤ 1048576) (hl : Sl w A n l) (hs : Sl w B m ss) (hv : sigsB ss = true) :
    Calls Try.prog 51 #[.slice A n c, .slice B m d, .int .i64 zone, .int .i64 within] w fun e w' => e = .returned (.tuple #[.int .i64 (pairOf (alarmS l ss zone within)).1, .bool (pairOf (alarmS l ss zone within)).2]) ∧ Below w.heap.size w w' := by
  have HL := Lib.hid hl.1
  have HV := Lib.hid (fun (s : Sig) (h : s ∈ liveL l ss) => live_ok (l := l) hv h)
  have HLL : Hid ((liveL l ss).length ≤ 1048576) := Nat.le_trans (List.length_filter_le _ _) (by rw [hs.1]; exact hm)
  have HA : Hid (alarmS l ss zone within = goI l within [] ((liveL l ss).filter (zofB l zone))) := go_eq l zone within _ _
  clear hv
  have hbA := bl_alloc (bl_alloc (bl_alloc (bl_refl w) (.cells #[.slice A n c] 32)) (.cells #[.int .i64 zone] 3)) (.cells #[.int .i64 within] 3)
  have qa : (((w.alloc (.cells #[.slice A n c] 32)).alloc (.cells #[.int .i64 zone] 3)).alloc (.cells #[.int .i64 within] 3)).cell? ⟨w.heap.size, 0, none⟩ = some (.slice A n c) := by go_simp
  have qz : (((w.alloc (.cells #[.slice A n c] 32)).alloc (.cells #[.int .i64 zone] 3)).alloc (.cells #[.int .i64 within] 3)).cell? ⟨w.heap.size + 1, 0, none⟩ = some (.int .i64 zone) := by go_simp
  have qw : (((w.alloc (.cells #[.slice A n c] 32)).alloc (.cells #[.int .i64 zone] 3)).alloc (.cells #[.int .i64 within] 3)).cell? ⟨w.heap.size + 1 + 1, 0, none⟩ = some (.int .i64 within) := by go_simp
  obtain ⟨W3, hW3⟩ : ∃ W3, W3 = ((w.alloc (.cells #[.slice A n c] 32)).alloc (.cells #[.int .i64 zone] 3)).alloc (.cells #[.int .i64 within] 3) := ⟨_, rfl⟩
  rw [← hW3] at hbA qa qz qw
  have HW3 := Lib.hid hW3
  clear hW3
  have hlA := hl.below hbA
  have hsA := hs.below hbA
  clear hl hs
  go_enter Try.func51, Try.ntmps51
  go_wp2_with fail
  rw [← HW3.out]
  refine (liveSignals_any l ss _ _ _ _ _ _ _ hn hm hlA hsA).mono ?_
  rintro e V ⟨A1, c1, rfl, ho1, hb1⟩
  go_wp2_with fail
  refine (deleteFunc_sig (liveL l ss) _ _ _ _ _ _ (elseP l zone) _ HLL.out ho1 enters_zone1 (pred_zone1 _ _ _ _ _ l zone _ _ _ hn hb1 (fun k hk => (ho1.lies k hk).1) qa qz hlA _ HV.out)).mono ?_
  rintro e V2 ⟨q, rfl, ho2, hq, hof⟩
  rw [else_filter] at ho2
  have hb2 := below_only hb1 hof ho1.lies (Nat.le_refl _)
  have qa2 := cell_later hb2 qa
  have qw2 := cell_later hb2 qw
  have hl2 := hlA.below hb2
  have hbk := bl_trans hbA hb2
  obtain ⟨zs, hzs⟩ : ∃ zs, zs = (liveL l ss).filter (zofB l zone) := ⟨_, rfl⟩
  have HZ := Lib.hid (fun (s : Sig) (h : s ∈ zs) => HV.out s (by rw [hzs] at h; exact (List.mem_filter.1 h).1))
  rw [← hzs] at ho2 HA
  obtain ⟨hcap, hcm⟩ := ho2.cap
  unfold maxLen at hcm
  have hz2 := ho2.sl
  have HQ := Lib.hid hz2.1
  have hq2 : q ≤ 1048576 := Nat.le_trans hq HLL.out
  clear hq ho1 ho2 hb1 hof qa qw qz hlA hsA hzs HLL HV hbA
  go_wp2
  go_loopw [21] (fun i wr => ∃ k : Nat, k ≤ q ∧ i = .int .i64 k ∧ Below V2.heap.size V2 wr ∧ Hid (alarmS l ss zone within = goI l within (zs.take k) (zs.drop k))) (fun i _ => q - (intOf i).toNat)
  case atStart => exact ⟨0, Nat.zero_le _, rfl, bl_refl _, HA.out⟩
  case round =>
    obtain ⟨k, hk, rfl, hb, hg⟩ := hrel
    by_cases hlt : k < q
    · have hkx : Hid (k < zs.length) := by rw [Hid, HQ.out]; exact hlt
      have hzr := hz2.below hb
      have hlr := hl2.below hb
      have ra := cell_later hb qa2
      have rw_ := cell_later hb qw2
      obtain ⟨b, o, rfl, hbz, e0, e1⟩ := hzr.sig hlt
      obtain ⟨s0, s1, i, hi⟩ := HZ.out _ (nth_mem hkx.out)
      have hin : i < n := by have h1 := (indexF_at hi).1; have := HL.out; omega
      have hI := Lib.hid hi
      have hH := Lib.hid (handB_at hi)
      have hraz := World.block_lt_of_cell? wr _ ra
      have hrwz := World.block_lt_of_cell? wr _ rw_
      obtain ⟨bl, ol, rfl, hlz, f0, f1, f2, f3⟩ := hlr.det hin
      have hkc : k ≤ c1 := by omega
      have hkc2 : (k : Int) ≤ c1 := by omega
      have hk0 : (0 : Int) ≤ k := by omega
      obtain ⟨A1, hA1⟩ : ∃ A1, A1 = some (⟨b, o, none⟩ : Addr) := ⟨_, rfl⟩
      clear hi hz2 hl2 qa2 qw2
      cases hh : (nth l i).Kind == 2
      rotate_left
      · have hhh := Lib.hid (hH.out.trans hh)
        subst hA1
        go_wp2_with fail
        refine wp_region_grow (by kernel_rfl) (by kernel_rfl) (fun X hX => ?_)
        have hbX : Below wr.heap.size wr X := by rw [hX]; exact bl_alloc (bl_refl _) _
        have q1 := Gw.cell (cell_later hbX ra)
        have q2 := Gw.cell (show X.cell? ⟨wr.heap.size, 0, none⟩ = some (.int .i64 (nth zs k).s) by rw [hX]; go_simp)
        have q3 := Gw.cell (show X.cell? ⟨wr.heap.size, 1, none⟩ = some (.int .i64 (nth zs k).n) by rw [hX]; go_simp)
        have q4 := Gw.cell (cell_later hbX f2)
        have hlX := hlr.below hbX
        have hc : ∀ V, Below X.heap.size X V → Calls Try.prog 43 #[.slice (some ⟨bl, ol, none⟩) n c, .int .i64 (nth zs k).n] V fun e w' => e = .returned (.int .i64 i) ∧ Below V.heap.size V w' := fun V hV => by
          have := detectorAt_any l (some ⟨bl, ol, none⟩) n c (nth zs k).n V hn (hlX.below hV)
          rwa [hI.out] at this
        have hc' := Lib.hid hc
        have hd : ∀ V, Below X.heap.size X V → Calls Try.prog 60 #[.slice (some ⟨b, o, none⟩) k c1, .func (.func 59) #[] #[.pointer (some ⟨wr.heap.size, 0, none⟩), .pointer (some ⟨w.heap.size + 1 + 1, 0, none⟩)]] V fun e w' => e = .returned (.bool ((zs.take k).any (nearB within (nth zs k)))) ∧ Below V.heap.size V w' := fun V hV =>
          containsFunc_sig (zs.take k) (some ⟨b, o, none⟩) k c1 _ _ _ V (by omega) ((hzr.below (bl_trans hbX hV)).take hk) enters_zone2 [] (pred_zone2 V ⟨wr.heap.size, 0, none⟩ _ (nth zs k) within l (cell_later hV (by rw [hX]; go_simp)) (cell_later hV (by rw [hX]; go_simp)) rfl (cell_later (bl_trans hbX hV) rw_) (HZ.out _ (nth_mem hkx.out)) _ (fun s hs => HZ.out s (List.mem_of_mem_take hs)))
        have hd' := Lib.hid hd
        have HX := Lib.hid hX
        clear hX hc hd hlX hlr hzr ra rw_ f0 f1 f2 f3
        repeat (go_big_quiet_step ((first | (go_at_call 43; exact Calls.grow_of (hc'.out _ (Subtype.property _))) | (go_at_call 60; exact Calls.grow_of (hd'.out _ (Subtype.property _))))))
        refine wpGrow_nil (fun V hV => ?_)
        have hbV := bl_trans (bl_trans hb hbX) hV
        have w0 : V.cell? ⟨wr.heap.size, 0, none⟩ = some (.int .i64 (nth zs k).s) := cell_later hV (by rw [HX.out]; go_simp)
        clear q1 q2 q3 q4 hV hbX
        go_wp2
        go_ret2
        exact ⟨ret_ib (by rw [hg.out, goI_hit hkx.out (.inl hhh.out)]; unfold pairOf; rw [if_neg (by omega)]) (by rw [hg.out, goI_hit hkx.out (.inl hhh.out)]; unfold pairOf; rw [if_neg (by omega)]), bl_trans hbk hbV⟩
      have hhh := Lib.hid (hH.out.trans hh)
      cases hn2 : (zs.take k).any (nearB within (nth zs k))
      · have hn3 := Lib.hid hn2
        subst hA1
        go_wp2_with fail
        refine wp_region_grow (by kernel_rfl) (by kernel_rfl) (fun X hX => ?_)
        have hbX : Below wr.heap.size wr X := by rw [hX]; exact bl_alloc (bl_refl _) _
        have q1 := Gw.cell (cell_later hbX ra)
        have q2 := Gw.cell (show X.cell? ⟨wr.heap.size, 0, none⟩ = some (.int .i64 (nth zs k).s) by rw [hX]; go_simp)
        have q3 := Gw.cell (show X.cell? ⟨wr.heap.size, 1, none⟩ = some (.int .i64 (nth zs k).n) by rw [hX]; go_simp)
        have q4 := Gw.cell (cell_later hbX f2)
        have hlX := hlr.below hbX
        have hc : ∀ V, Below X.heap.size X V → Calls Try.prog 43 #[.slice (some ⟨bl, ol, none⟩) n c, .int .i64 (nth zs k).n] V fun e w' => e = .returned (.int .i64 i) ∧ Below V.heap.size V w' := fun V hV => by
          have := detectorAt_any l (some ⟨bl, ol, none⟩) n c (nth zs k).n V hn (hlX.below hV)
          rwa [hI.out] at this
        have hc' := Lib.hid hc
        have hd : ∀ V, Below X.heap.size X V → Calls Try.prog 60 #[.slice (some ⟨b, o, none⟩) k c1, .func (.func 59) #[] #[.pointer (some ⟨wr.heap.size, 0, none⟩), .pointer (some ⟨w.heap.size + 1 + 1, 0, none⟩)]] V fun e w' => e = .returned (.bool ((zs.take k).any (nearB within (nth zs k)))) ∧ Below V.heap.size V w' := fun V hV =>
          containsFunc_sig (zs.take k) (some ⟨b, o, none⟩) k c1 _ _ _ V (by omega) ((hzr.below (bl_trans hbX hV)).take hk) enters_zone2 [] (pred_zone2 V ⟨wr.heap.size, 0, none⟩ _ (nth zs k) within l (cell_later hV (by rw [hX]; go_simp)) (cell_later hV (by rw [hX]; go_simp)) rfl (cell_later (bl_trans hbX hV) rw_) (HZ.out _ (nth_mem hkx.out)) _ (fun s hs => HZ.out s (List.mem_of_mem_take hs)))
        have hd' := Lib.hid hd
        have HX := Lib.hid hX
        clear hX hc hd hlX hlr hzr ra rw_ f0 f1 f2 f3
        repeat (go_big_quiet_step ((first | (go_at_call 43; exact Calls.grow_of (hc'.out _ (Subtype.property _))) | (go_at_call 60; exact Calls.grow_of (hd'.out _ (Subtype.property _))))))
        refine wpGrow_nil (fun V hV => ?_)
        have hbV := bl_trans (bl_trans hb hbX) hV
        have w0 : V.cell? ⟨wr.heap.size, 0, none⟩ = some (.int .i64 (nth zs k).s) := cell_later hV (by rw [HX.out]; go_simp)
        clear q1 q2 q3 q4 hV hbX
        go_wp2
        go_roundw
        case rel => exact ⟨k + 1, by omega, by go_num, hbV, by rw [Hid, hg.out]; exact goI_miss hkx.out hhh.out hn3.out⟩
        case measure => simp [intOf]; omega
      · have hn3 := Lib.hid hn2
        subst hA1
        go_wp2_with fail
        refine wp_region_grow (by kernel_rfl) (by kernel_rfl) (fun X hX => ?_)
        have hbX : Below wr.heap.size wr X := by rw [hX]; exact bl_alloc (bl_refl _) _
        have q1 := Gw.cell (cell_later hbX ra)
        have q2 := Gw.cell (show X.cell? ⟨wr.heap.size, 0, none⟩ = some (.int .i64 (nth zs k).s) by rw [hX]; go_simp)
        have q3 := Gw.cell (show X.cell? ⟨wr.heap.size, 1, none⟩ = some (.int .i64 (nth zs k).n) by rw [hX]; go_simp)
        have q4 := Gw.cell (cell_later hbX f2)
        have hlX := hlr.below hbX
        have hc : ∀ V, Below X.heap.size X V → Calls Try.prog 43 #[.slice (some ⟨bl, ol, none⟩) n c, .int .i64 (nth zs k).n] V fun e w' => e = .returned (.int .i64 i) ∧ Below V.heap.size V w' := fun V hV => by
          have := detectorAt_any l (some ⟨bl, ol, none⟩) n c (nth zs k).n V hn (hlX.below hV)
          rwa [hI.out] at this
        have hc' := Lib.hid hc
        have hd : ∀ V, Below X.heap.size X V → Calls Try.prog 60 #[.slice (some ⟨b, o, none⟩) k c1, .func (.func 59) #[] #[.pointer (some ⟨wr.heap.size, 0, none⟩), .pointer (some ⟨w.heap.size + 1 + 1, 0, none⟩)]] V fun e w' => e = .returned (.bool ((zs.take k).any (nearB within (nth zs k)))) ∧ Below V.heap.size V w' := fun V hV =>
          containsFunc_sig (zs.take k) (some ⟨b, o, none⟩) k c1 _ _ _ V (by omega) ((hzr.below (bl_trans hbX hV)).take hk) enters_zone2 [] (pred_zone2 V ⟨wr.heap.size, 0, none⟩ _ (nth zs k) within l (cell_later hV (by rw [hX]; go_simp)) (cell_later hV (by rw [hX]; go_simp)) rfl (cell_later (bl_trans hbX hV) rw_) (HZ.out _ (nth_mem hkx.out)) _ (fun s hs => HZ.out s (List.mem_of_mem_take hs)))
        have hd' := Lib.hid hd
        have HX := Lib.hid hX
        clear hX hc hd hlX hlr hzr ra rw_ f0 f1 f2 f3
        repeat (go_big_quiet_step ((first | (go_at_call 43; exact Calls.grow_of (hc'.out _ (Subtype.property _))) | (go_at_call 60; exact Calls.grow_of (hd'.out _ (Subtype.property _))))))
        refine wpGrow_nil (fun V hV => ?_)
        have hbV := bl_trans (bl_trans hb hbX) hV
        have w0 : V.cell? ⟨wr.heap.size, 0, none⟩ = some (.int .i64 (nth zs k).s) := cell_later hV (by rw [HX.out]; go_simp)
        clear q1 q2 q3 q4 hV hbX
        go_wp2
        go_ret2
        exact ⟨ret_ib (by rw [hg.out, goI_hit hkx.out (.inr hn3.out)]; unfold pairOf; rw [if_neg (by omega)]) (by rw [hg.out, goI_hit hkx.out (.inr hn3.out)]; unfold pairOf; rw [if_neg (by omega)]), bl_trans hbk hbV⟩
    · obtain rfl : k = q := by omega
      have hfin : Hid (alarmS l ss zone within = -1) := by rw [Hid, hg.out, List.drop_of_length_le (by rw [HQ.out]; exact Nat.le_refl _)]; rfl
      go_wp2
      go_ret2
      exact ⟨ret_ib (by rw [hfin.out]; rfl) (by rw [hfin.out]; rfl), bl_trans hbk hb⟩
end Go.Proofs.Ytjdaikpkcafcdaa
