/-
  Live signals: both texts answer liveL. No conditions.
-/
import Derived.Test.YtjdaikpkcafcdaaFindDet
import Derived.Test.YtjdaikpkcafcdaaLibSig
namespace Go.Proofs.Ytjdaikpkcafcdaa
open Go.RowKit

/-- Is a signal live? -/
def liveP (l : List Det) (s : Sig) : Bool := decide (0 ≤ indexF (numIs s.n) l) && !(nth l (indexF (numIs s.n) l).toNat).Off
def liveL (l : List Det) (ss : List Sig) : List Sig := ss.filter (liveP l)
theorem liveP_no {l : List Det} {s : Sig} (h : indexF (numIs s.n) l < 0) : liveP l s = false := by unfold liveP; rw [decide_eq_false (by omega)]; rfl
theorem liveP_at {l : List Det} {s : Sig} {k : Nat} (h : indexF (numIs s.n) l = k) : liveP l s = !(nth l k).Off := by unfold liveP; rw [h]; simp
theorem filt_yes {α : Type} [Inhabited α] {q : α → Bool} {xs : List α} {k : Nat} (hk : k < xs.length) (h : q (nth xs k) = true) : (xs.take (k + 1)).filter q = (xs.take k).filter q ++ [nth xs k] := by
  rw [take_succ hk, List.filter_append]; simp [h]
theorem filt_no {α : Type} [Inhabited α] {q : α → Bool} {xs : List α} {k : Nat} (hk : k < xs.length) (h : q (nth xs k) = false) : (xs.take (k + 1)).filter q = (xs.take k).filter q := by
  rw [take_succ hk, List.filter_append]; simp [h]
set_option maxHeartbeats 2000000 in
theorem alLive_any (l : List Det) (ss : List Sig) (A B : Option Addr) (n c m d : Nat) (w : World) (hn : (n : Int) ≤ 9223372036854775807) (hm : m ≤ 1048576) (hl : Sl w A n l) (hs : Sl w B m ss) :
    Calls Try.prog 45 #[.slice A n c, .slice B m d] w (RetOwn w 53 (liveL l ss)) := by
  have HL := Lib.hid hl.1
  have HS := Lib.hid hs.1
  go_enter Try.func45, Try.ntmps45
  go_wp2
  go_loopw [5, 11] (fun v i wr => ∃ (k q c' : Nat) (A' : Option Addr), k ≤ m ∧ i = .int .i64 k ∧ v = .slice A' q c' ∧ q ≤ k ∧ Own wr w.heap.size 53 (.slice A' q c') ((ss.take k).filter (liveP l)) ∧ Below w.heap.size w wr) (fun _ i _ => m - (intOf i).toNat)
  case atStart => exact ⟨0, 0, 0, none, Nat.zero_le _, rfl, rfl, Nat.le_refl _, Own.nil _ _ _, bl_refl _⟩
  case round =>
    obtain ⟨k, q, c', A', hk, rfl, rfl, hq, ho, hb⟩ := hrel
    by_cases hlt : k < m
    · obtain ⟨b, o, rfl, hbz, c0, c1⟩ := (hs.below hb).sig hlt
      have hl1 := hl.below hb
      clear hl hs
      go_wp2_with fail
      refine (alFind_any l _ _ _ _ _ hn (hl1.below (bl_alloc (bl_refl _) _))).mono ?_
      rintro e V ⟨rfl, hV⟩
      have hw := bl_trans (bl_alloc (bl_refl wr) (.cells #[.int .i64 (nth ss k).s, .int .i64 (nth ss k).n] 53)) hV
      have hbV := bl_trans hb hw
      have hoV := ho.below hw
      have hl2 := hl1.below hw
      have b0 : V.cell? ⟨wr.heap.size, 0, none⟩ = some (.int .i64 (nth ss k).s) := cell_later hV (by go_simp)
      have b1 : V.cell? ⟨wr.heap.size, 1, none⟩ = some (.int .i64 (nth ss k).n) := cell_later hV (by go_simp)
      clear hl1 ho hw c0 c1
      have hr := indexF_range (numIs (nth ss k).n) l
      obtain ⟨i, hi⟩ : ∃ i, i = indexF (numIs (nth ss k).n) l := ⟨_, rfl⟩
      rw [← hi] at hr ⊢
      by_cases h0 : i < 0
      · have hp := Lib.hid (liveP_no (s := nth ss k) (by rw [← hi]; exact h0))
        clear hi
        go_wp2
        go_roundw
        case rel => exact ⟨k + 1, q, c', A', by omega, by go_num, rfl, by omega, by rw [filt_no (by rw [HS.out]; exact hlt) hp.out]; exact hoV, hbV⟩
        case measure => simp [intOf]; omega
      obtain ⟨j, rfl⟩ := Int.eq_ofNat_of_zero_le (by omega : 0 ≤ i)
      have hj : j < n := by have := HL.out; omega
      have hp := Lib.hid (liveP_at (s := nth ss k) hi.symm)
      obtain ⟨b', o', rfl, hbz', e0, e1, e2, e3⟩ := hl2.det hj
      have hge : decide ((j : Int) ≥ 0) = true := by simp
      clear hl2 hi h0 hr e0 e1 e2
      cases hoff : (nth l j).Off
      · have hp2 := Lib.hid (hp.out.trans (by rw [hoff]))
        go_wp2_with ((at_builtin; refine wpList_app1 rfl (.tmp 29) (.tmp 31) _ _ rfl el_sig (nth ss k) rfl hoV hbV rfl (by omega) ?_; intro A2 c2 w2 ho2 hb2 hg2))
        go_roundw
        case rel => exact ⟨k + 1, q + 1, c2, A2, by omega, by go_num, rfl, by omega, by rw [filt_yes (by rw [HS.out]; exact hlt) hp2.out]; exact ho2, hb2⟩
        case measure => simp [intOf]; omega
      · have hp2 := Lib.hid (hp.out.trans (by rw [hoff]))
        go_wp2
        go_roundw
        case rel => exact ⟨k + 1, q, c', A', by omega, by go_num, rfl, by omega, by rw [filt_no (by rw [HS.out]; exact hlt) hp2.out]; exact hoV, hbV⟩
        case measure => simp [intOf]; omega
    · obtain rfl : k = m := by omega
      have hfin : Hid ((ss.take k).filter (liveP l) = liveL l ss) := by rw [Hid, List.take_of_length_le (by rw [HS.out]; exact Nat.le_refl _)]; rfl
      have hq2 := ho.sl.1
      rw [hfin.out] at ho hq2
      have hq3 := Lib.hid hq2
      clear hq2
      go_wp2
      go_ret
      exact retOwn_mk hq3.out ho hb
theorem enters_live : Enters Try.prog 57 := enters_of Try.func57 (by kernel_rfl) (by kernel_rfl)
def deadP (l : List Det) (s : Sig) : Bool := !liveP l s
theorem dead_filter (l : List Det) (ss : List Sig) : ss.filter (fun s => !deadP l s) = liveL l ss := by
  unfold liveL deadP; congr 1; funext s; simp
set_option maxHeartbeats 2000000 in
theorem pred_live (w0 w : World) (F : List Nat) (a : Addr) (l : List Det) (A : Option Addr) (n c : Nat) (hn : (n : Int) ≤ 9223372036854775807) (hb0 : Below w0.heap.size w0 w) (hF : ∀ k, k ∈ F → w0.heap.size ≤ k)
    (ha : w0.cell? a = some (.slice A n c)) (hl : Sl w0 A n l) (ss : List Sig) : Pred Try.prog w F ss 57 SigVal #[.pointer (some a)] (deadP l) := by
  intro W x _ hof
  have hb : Below w0.heap.size w0 W := hb0.trans ⟨hof.os, hof.tape, hof.output, hof.size, fun k hk => hof.block k (Nat.lt_of_lt_of_le hk hb0.size) (fun hm => by have := hF k hm; omega)⟩
  have ha' := cell_later hb ha
  have hl' := hl.below hb
  have HL := Lib.hid hl.1
  have hz := World.block_lt_of_cell? W _ ha'
  clear ha hl hb0 hF hof hb
  show Calls _ _ #[SigVal x, .pointer (some a)] W _
  unfold SigVal
  go_enter Try.func57, Try.ntmps57
  go_wp2_with fail
  refine (detectorAt_any l _ _ _ _ _ hn (hl'.below (bl_alloc (bl_refl _) _))).mono ?_
  rintro e V ⟨rfl, hV⟩
  have hw := bl_trans (bl_alloc (bl_refl W) (.cells #[.int .i64 x.s, .int .i64 x.n] 53)) hV
  have ha2 := cell_later hw ha'
  have hl2 := hl'.below hw
  clear ha' hl'
  have hr := indexF_range (numIs x.n) l
  obtain ⟨i, hi⟩ : ∃ i, i = indexF (numIs x.n) l := ⟨_, rfl⟩
  rw [← hi] at hr ⊢
  by_cases h0 : i < 0
  · have hp := Lib.hid (liveP_no (s := x) (by rw [← hi]; exact h0))
    have hd : Hid (deadP l x = true) := by rw [Hid, deadP, hp.out]; rfl
    clear hi
    go_wp2
    go_ret
    exact ⟨ret_bool hd.out.symm, hw⟩
  obtain ⟨j, rfl⟩ := Int.eq_ofNat_of_zero_le (by omega : 0 ≤ i)
  have hj : j < n := by have := HL.out; omega
  have hp := Lib.hid (liveP_at (s := x) hi.symm)
  have hd : Hid (deadP l x = (nth l j).Off) := by rw [Hid, deadP, hp.out]; simp
  obtain ⟨b', o', rfl, hbz', e0, e1, e2, e3⟩ := hl2.det hj
  have hge : decide ((j : Int) < 0) = false := by simp
  clear hl2 hi h0 hr e0 e1 e2
  go_wp2
  go_ret
  exact ⟨ret_bool hd.out.symm, hw⟩
set_option maxHeartbeats 2000000 in
theorem liveSignals_any (l : List Det) (ss : List Sig) (A B : Option Addr) (n c m d : Nat) (w : World) (hn : (n : Int) ≤ 9223372036854775807) (hm : m ≤ 1048576) (hl : Sl w A n l) (hs : Sl w B m ss) :
    Calls Try.prog 46 #[.slice A n c, .slice B m d] w (RetOwn w 53 (liveL l ss)) := by
  have HS := Lib.hid hs.1
  go_enter Try.func46, Try.ntmps46
  go_wp2_with fail
  have hb1 := bl_alloc (bl_refl w) (.cells #[.slice A n c] 32)
  refine (clone_sig ss _ _ _ _ hm (hs.below hb1)).mono ?_
  rintro e V ⟨A1, c1, rfl, ho1, hb2⟩
  have hl1 := hl.below hb1
  have ha : (w.alloc (.cells #[.slice A n c] 32)).cell? ⟨w.heap.size, 0, none⟩ = some (.slice A n c) := by go_simp
  go_wp2_with fail
  refine (deleteFunc_sig ss _ _ _ _ _ _ (deadP l) _ (by have := HS.out; omega) ho1 enters_live (pred_live _ _ _ _ l _ _ _ hn hb2 (fun k hk => (ho1.lies k hk).1) ha hl1 ss)).mono ?_
  rintro e V2 ⟨q, rfl, ho2, hq, hof⟩
  rw [dead_filter] at ho2
  have hbk := below_only (bl_trans hb1 hb2) hof ho1.lies (by simp)
  have hq2 := Lib.hid ho2.sl.1
  have ho3 : Own V2 w.heap.size 53 (.slice A1 q c1) (liveL l ss) := ho2.mono (by simp)
  clear ho1 ho2
  go_wp2
  go_ret
  exact retOwn_mk hq2.out ho3 hbk

end Go.Proofs.Ytjdaikpkcafcdaa
