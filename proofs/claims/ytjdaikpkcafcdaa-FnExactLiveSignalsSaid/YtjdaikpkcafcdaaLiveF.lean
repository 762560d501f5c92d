/-
  Live signals: the exported functions answer liveF. No conditions.
-/
import Derived.Test.YtjdaikpkcafcdaaLive
import Derived.Test.YtjdaikpkcafcdaaSigT
namespace Go.Proofs.Ytjdaikpkcafcdaa
open Go.RowKit

def liveF (l : List Det) (ss : List Sig) : List Sig × Bool := if detsB l && sigsB ss then (liveL l ss, true) else ([], false)
theorem liveF_yes {l : List Det} {ss : List Sig} (h : detsB l = true) (h' : sigsB ss = true) : liveF l ss = (liveL l ss, true) := by unfold liveF; rw [h, h']; rfl
theorem liveF_no {l : List Det} {ss : List Sig} (h : detsB l = false ∨ sigsB ss = false) : liveF l ss = ([], false) := by unfold liveF; rcases h with h | h <;> rw [h] <;> simp
theorem liveF_len (l : List Det) (ss : List Sig) : (liveF l ss).1.length ≤ 1048576 := by
  unfold liveF; split
  · rename_i h; simp only [Bool.and_eq_true] at h
    have h1 := sigsB_len h.2
    have h2 : (liveL l ss).length ≤ ss.length := List.length_filter_le _ _
    simp only; omega
  · simp
set_option maxHeartbeats 2000000 in
theorem specLiveSignals_any (l : List Det) (ss : List Sig) (A B : Option Addr) (n c m d : Nat) (w : World) (hn : (n : Int) ≤ 9223372036854775807) (hm : (m : Int) ≤ 9223372036854775807) (hl : Sl w A n l) (hs : Sl w B m ss) :
    Calls Try.prog 28 #[.slice A n c, .slice B m d] w (RetOwn2 w 53 (liveF l ss)) := by
  have HS := Lib.hid hs.1
  cases h1 : detsB l
  · have Hz := Lib.hid (liveF_no (l := l) (ss := ss) (.inl h1))
    go_enter Try.func28, Try.ntmps28
    go_wp2_with fail
    refine (alGood_any l _ _ _ _ hn hl).mono ?_
    rintro e V1 ⟨rfl, hb1⟩
    go_wp2
    go_ret2
    exact retOwn2_mk Hz.out (Own.nil _ _ _) hb1
  cases h2 : sigsB ss
  · have Hz := Lib.hid (liveF_no (l := l) (ss := ss) (.inr h2))
    go_enter Try.func28, Try.ntmps28
    go_wp2_with fail
    refine (alGood_any l _ _ _ _ hn hl).mono ?_
    rintro e V1 ⟨rfl, hb1⟩
    go_wp2_with fail
    refine (alSignals_any ss _ _ _ _ hm (hs.below hb1)).mono ?_
    rintro e V2 ⟨rfl, hb2⟩
    go_wp2
    go_ret2
    exact retOwn2_mk Hz.out (Own.nil _ _ _) (bl_trans hb1 hb2)
  have Hz := Lib.hid (liveF_yes h1 h2)
  have hlen := Lib.hid (sigsB_len h2)
  go_enter Try.func28, Try.ntmps28
  go_wp2_with fail
  refine (alGood_any l _ _ _ _ hn hl).mono ?_
  rintro e V1 ⟨rfl, hb1⟩
  go_wp2_with fail
  refine (alSignals_any ss _ _ _ _ hm (hs.below hb1)).mono ?_
  rintro e V2 ⟨rfl, hb2⟩
  have hbk := bl_trans hb1 hb2
  go_wp2_with fail
  refine (alLive_any l ss _ _ _ _ _ _ _ hn (by have := HS.out; have := hlen.out; omega) (hl.below hbk) (hs.below hbk)).mono ?_
  rintro e V3 ⟨A3, c3, rfl, ho3, hb3⟩
  go_wp2
  go_ret2
  exact retOwn2_mk Hz.out (ho3.mono hbk.size) (bl_trans hbk hb3)
set_option maxHeartbeats 2000000 in
theorem implLiveSignals_any (l : List Det) (ss : List Sig) (A B : Option Addr) (n c m d : Nat) (w : World) (hn : (n : Int) ≤ 9223372036854775807) (hm : (m : Int) ≤ 9223372036854775807) (hl : Sl w A n l) (hs : Sl w B m ss) :
    Calls Try.prog 29 #[.slice A n c, .slice B m d] w (RetOwn2 w 53 (liveF l ss)) := by
  have HS := Lib.hid hs.1
  cases h1 : detsB l
  · have Hz := Lib.hid (liveF_no (l := l) (ss := ss) (.inl h1))
    go_enter Try.func29, Try.ntmps29
    go_wp2_with fail
    refine (areDetectors_any l _ _ _ _ hn hl).mono ?_
    rintro e V1 ⟨rfl, hb1⟩
    go_wp2
    go_ret2
    exact retOwn2_mk Hz.out (Own.nil _ _ _) hb1
  cases h2 : sigsB ss
  · have Hz := Lib.hid (liveF_no (l := l) (ss := ss) (.inr h2))
    go_enter Try.func29, Try.ntmps29
    go_wp2_with fail
    refine (areDetectors_any l _ _ _ _ hn hl).mono ?_
    rintro e V1 ⟨rfl, hb1⟩
    go_wp2_with fail
    refine (areSignals_any ss _ _ _ _ hm (hs.below hb1)).mono ?_
    rintro e V2 ⟨rfl, hb2⟩
    go_wp2
    go_ret2
    exact retOwn2_mk Hz.out (Own.nil _ _ _) (bl_trans hb1 hb2)
  have Hz := Lib.hid (liveF_yes h1 h2)
  have hlen := Lib.hid (sigsB_len h2)
  go_enter Try.func29, Try.ntmps29
  go_wp2_with fail
  refine (areDetectors_any l _ _ _ _ hn hl).mono ?_
  rintro e V1 ⟨rfl, hb1⟩
  go_wp2_with fail
  refine (areSignals_any ss _ _ _ _ hm (hs.below hb1)).mono ?_
  rintro e V2 ⟨rfl, hb2⟩
  have hbk := bl_trans hb1 hb2
  go_wp2_with fail
  refine (liveSignals_any l ss _ _ _ _ _ _ _ hn (by have := HS.out; have := hlen.out; omega) (hl.below hbk) (hs.below hbk)).mono ?_
  rintro e V3 ⟨A3, c3, rfl, ho3, hb3⟩
  go_wp2
  go_ret2
  exact retOwn2_mk Hz.out (ho3.mono hbk.size) (bl_trans hbk hb3)

end Go.Proofs.Ytjdaikpkcafcdaa
