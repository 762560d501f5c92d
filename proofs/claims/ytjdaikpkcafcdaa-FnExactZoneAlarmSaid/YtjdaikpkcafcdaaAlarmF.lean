/-
  ZoneAlarm: both exported functions answer zoneF. No conditions.
-/
import Derived.Test.YtjdaikpkcafcdaaAlarmS
import Derived.Test.YtjdaikpkcafcdaaAlarmI
namespace Go.Proofs.Ytjdaikpkcafcdaa
open Go.RowKit

theorem alAsked_any (l : List Det) (ss : List Sig) (within : Int) (A B : Option Addr) (n c m d : Nat) (w : World) (hn : (n : Int) ≤ 9223372036854775807) (hm : (m : Int) ≤ 9223372036854775807) (hl : Sl w A n l) (hs : Sl w B m ss) :
    Calls Try.prog 47 #[.slice A n c, .slice B m d, .int .i64 within] w fun e w' => e = .returned (.bool (detsB l && sigsB ss && inB within 0 3600)) ∧ Below w.heap.size w w' := by
  cases h1 : detsB l
  · go_enter Try.func47, Try.ntmps47
    go_wp2_with fail
    refine (alGood_any l _ _ _ _ hn hl).mono ?_
    rintro e V ⟨rfl, hb⟩
    go_wp2
    go_ret
    exact ⟨rfl, hb⟩
  cases h2 : sigsB ss
  · go_enter Try.func47, Try.ntmps47
    go_wp2_with fail
    refine (alGood_any l _ _ _ _ hn hl).mono ?_
    rintro e V ⟨rfl, hb⟩
    go_wp2_with fail
    refine (alSignals_any ss _ _ _ _ hm (hs.below hb)).mono ?_
    rintro e V2 ⟨rfl, hb2⟩
    go_wp2
    go_ret
    exact ⟨rfl, bl_trans hb hb2⟩
  · go_enter Try.func47, Try.ntmps47
    go_wp2_with fail
    refine (alGood_any l _ _ _ _ hn hl).mono ?_
    rintro e V ⟨rfl, hb⟩
    go_wp2_with fail
    refine (alSignals_any ss _ _ _ _ hm (hs.below hb)).mono ?_
    rintro e V2 ⟨rfl, hb2⟩
    go_wp2_with fail
    refine (l1In_any _ _ _ _).mono ?_
    rintro e V3 ⟨rfl, rfl⟩
    go_wp2
    go_ret
    exact ⟨ret_bool (by simp), bl_trans hb hb2⟩
/-- what ZoneAlarm answers -/
def zoneF (l : List Det) (ss : List Sig) (zone within : Int) : Int × Bool := if detsB l && sigsB ss && inB within 0 3600 && inB zone 1 9 then pairOf (alarmS l ss zone within) else (0, false)
theorem zoneF_yes {l : List Det} {ss : List Sig} {zone within : Int} (h : (detsB l && sigsB ss && inB within 0 3600 && inB zone 1 9) = true) : zoneF l ss zone within = pairOf (alarmS l ss zone within) := by unfold zoneF; rw [h]; rfl
theorem zoneF_no {l : List Det} {ss : List Sig} {zone within : Int} (h : (detsB l && sigsB ss && inB within 0 3600 && inB zone 1 9) = false) : zoneF l ss zone within = (0, false) := by unfold zoneF; rw [h]; rfl
set_option maxHeartbeats 2000000 in
theorem specZoneAlarm_any (l : List Det) (ss : List Sig) (zone within : Int) (A B : Option Addr) (n c m d : Nat) (w : World) (hn : (n : Int) ≤ 9223372036854775807) (hm : (m : Int) ≤ 9223372036854775807) (hl : Sl w A n l) (hs : Sl w B m ss) :
    Calls Try.prog 32 #[.slice A n c, .slice B m d, .int .i64 zone, .int .i64 within] w fun e w' => e = .returned (.tuple #[.int .i64 (zoneF l ss zone within).1, .bool (zoneF l ss zone within).2]) ∧ Below w.heap.size w w' := by
  have HS := Lib.hid hs.1
  cases h0 : detsB l
  · have Hz := Lib.hid (zoneF_no (l := l) (ss := ss) (zone := zone) (within := within) (by simp [h0]))
    go_enter Try.func32, Try.ntmps32
    go_wp2_with fail
    refine (alAsked_any l ss within _ _ _ _ _ _ _ hn hm hl hs).mono ?_
    rintro e V1 ⟨rfl, hb1⟩
    go_wp2
    go_ret2
    exact ⟨ret_ib (by rw [Hz.out]) (by rw [Hz.out]), hb1⟩
  cases h1 : sigsB ss
  · have Hz := Lib.hid (zoneF_no (l := l) (ss := ss) (zone := zone) (within := within) (by simp [h1]))
    go_enter Try.func32, Try.ntmps32
    go_wp2_with fail
    refine (alAsked_any l ss within _ _ _ _ _ _ _ hn hm hl hs).mono ?_
    rintro e V1 ⟨rfl, hb1⟩
    go_wp2
    go_ret2
    exact ⟨ret_ib (by rw [Hz.out]) (by rw [Hz.out]), hb1⟩
  cases h2 : inB within 0 3600
  · have Hz := Lib.hid (zoneF_no (l := l) (ss := ss) (zone := zone) (within := within) (by simp [h2]))
    go_enter Try.func32, Try.ntmps32
    go_wp2_with fail
    refine (alAsked_any l ss within _ _ _ _ _ _ _ hn hm hl hs).mono ?_
    rintro e V1 ⟨rfl, hb1⟩
    go_wp2
    go_ret2
    exact ⟨ret_ib (by rw [Hz.out]) (by rw [Hz.out]), hb1⟩
  cases h3 : inB zone 1 9
  · have Hz := Lib.hid (zoneF_no (l := l) (ss := ss) (zone := zone) (within := within) (by simp [h3]))
    go_enter Try.func32, Try.ntmps32
    go_wp2_with fail
    refine (alAsked_any l ss within _ _ _ _ _ _ _ hn hm hl hs).mono ?_
    rintro e V1 ⟨rfl, hb1⟩
    go_wp2_with fail
    refine (alZone_any _ _).mono ?_
    rintro e V2 ⟨rfl, rfl⟩
    go_wp2
    go_ret2
    exact ⟨ret_ib (by rw [Hz.out]) (by rw [Hz.out]), hb1⟩
  have Hz := Lib.hid (zoneF_yes (l := l) (ss := ss) (zone := zone) (within := within) (by rw [h0, h1, h2, h3]; rfl))
  have hm2 : m ≤ 1048576 := by have := sigsB_len h1; have := HS.out; omega
  have hv := h1
  have hr := alarmS_range (l := l) zone within hv
  rcases hr with hr | ⟨hr1, hr2⟩
  · have Hr := Lib.hid hr
    have Hp : Hid (pairOf (alarmS l ss zone within) = (0, false)) := by rw [Hid, hr]; rfl
    clear hr
    go_enter Try.func32, Try.ntmps32
    go_wp2_with fail
    refine (alAsked_any l ss within _ _ _ _ _ _ _ hn hm hl hs).mono ?_
    rintro e V1 ⟨rfl, hb1⟩
    go_wp2_with fail
    refine (alZone_any _ _).mono ?_
    rintro e V2 ⟨rfl, rfl⟩
    go_wp2_with fail
    refine (alAlarm_any l ss zone within _ _ _ _ _ _ _ hn hm2 (hl.below hb1) (hs.below hb1) hv).mono ?_
    rintro e V3 ⟨rfl, hb3⟩
    have hk3 := bl_trans hb1 hb3
    rw [Hr.out]
    go_wp2
    go_ret2
    exact ⟨ret_ib (by rw [Hz.out, Hp.out]) (by rw [Hz.out, Hp.out]), hk3⟩
  · obtain ⟨r, hr⟩ : ∃ r, r = alarmS l ss zone within := ⟨_, rfl⟩
    rw [← hr] at hr1 hr2
    have Hp : Hid (pairOf (alarmS l ss zone within) = (r, true)) := by rw [Hid, ← hr, pairOf, if_neg (by omega)]
    have Hr := Lib.hid hr
    clear hr
    go_enter Try.func32, Try.ntmps32
    go_wp2_with fail
    refine (alAsked_any l ss within _ _ _ _ _ _ _ hn hm hl hs).mono ?_
    rintro e V1 ⟨rfl, hb1⟩
    go_wp2_with fail
    refine (alZone_any _ _).mono ?_
    rintro e V2 ⟨rfl, rfl⟩
    go_wp2_with fail
    refine (alAlarm_any l ss zone within _ _ _ _ _ _ _ hn hm2 (hl.below hb1) (hs.below hb1) hv).mono ?_
    rintro e V3 ⟨rfl, hb3⟩
    have hk3 := bl_trans hb1 hb3
    rw [← Hr.out]
    go_wp2
    go_ret2
    exact ⟨ret_ib (by rw [Hz.out, Hp.out]) (by rw [Hz.out, Hp.out]), hk3⟩
set_option maxHeartbeats 2000000 in
theorem implZoneAlarm_any (l : List Det) (ss : List Sig) (zone within : Int) (A B : Option Addr) (n c m d : Nat) (w : World) (hn : (n : Int) ≤ 9223372036854775807) (hm : (m : Int) ≤ 9223372036854775807) (hl : Sl w A n l) (hs : Sl w B m ss) :
    Calls Try.prog 33 #[.slice A n c, .slice B m d, .int .i64 zone, .int .i64 within] w fun e w' => e = .returned (.tuple #[.int .i64 (zoneF l ss zone within).1, .bool (zoneF l ss zone within).2]) ∧ Below w.heap.size w w' := by
  have HS := Lib.hid hs.1
  cases h0 : detsB l
  · have Hz := Lib.hid (zoneF_no (l := l) (ss := ss) (zone := zone) (within := within) (by simp [h0]))
    go_enter Try.func33, Try.ntmps33
    go_wp2_with fail
    refine (areDetectors_any l _ _ _ _ hn hl).mono ?_
    rintro e V1 ⟨rfl, hb1⟩
    go_wp2
    go_ret2
    exact ⟨ret_ib (by rw [Hz.out]) (by rw [Hz.out]), hb1⟩
  cases h1 : sigsB ss
  · have Hz := Lib.hid (zoneF_no (l := l) (ss := ss) (zone := zone) (within := within) (by simp [h1]))
    go_enter Try.func33, Try.ntmps33
    go_wp2_with fail
    refine (areDetectors_any l _ _ _ _ hn hl).mono ?_
    rintro e V1 ⟨rfl, hb1⟩
    go_wp2_with fail
    refine (areSignals_any ss _ _ _ _ hm (hs.below hb1)).mono ?_
    rintro e V2 ⟨rfl, hb2⟩
    have hk2 := bl_trans hb1 hb2
    go_wp2
    go_ret2
    exact ⟨ret_ib (by rw [Hz.out]) (by rw [Hz.out]), hk2⟩
  cases h2 : inB zone 1 9
  · have Hz := Lib.hid (zoneF_no (l := l) (ss := ss) (zone := zone) (within := within) (by simp [h2]))
    go_enter Try.func33, Try.ntmps33
    go_wp2_with fail
    refine (areDetectors_any l _ _ _ _ hn hl).mono ?_
    rintro e V1 ⟨rfl, hb1⟩
    go_wp2_with fail
    refine (areSignals_any ss _ _ _ _ hm (hs.below hb1)).mono ?_
    rintro e V2 ⟨rfl, hb2⟩
    have hk2 := bl_trans hb1 hb2
    go_wp2_with fail
    refine (inside_any _ _ _ _).mono ?_
    rintro e V3 ⟨rfl, rfl⟩
    go_wp2
    go_ret2
    exact ⟨ret_ib (by rw [Hz.out]) (by rw [Hz.out]), hk2⟩
  cases h3 : inB within 0 3600
  · have Hz := Lib.hid (zoneF_no (l := l) (ss := ss) (zone := zone) (within := within) (by simp [h3]))
    go_enter Try.func33, Try.ntmps33
    go_wp2_with fail
    refine (areDetectors_any l _ _ _ _ hn hl).mono ?_
    rintro e V1 ⟨rfl, hb1⟩
    go_wp2_with fail
    refine (areSignals_any ss _ _ _ _ hm (hs.below hb1)).mono ?_
    rintro e V2 ⟨rfl, hb2⟩
    have hk2 := bl_trans hb1 hb2
    go_wp2_with fail
    refine (inside_any _ _ _ _).mono ?_
    rintro e V3 ⟨rfl, rfl⟩
    go_wp2_with fail
    refine (inside_any _ _ _ _).mono ?_
    rintro e V4 ⟨rfl, rfl⟩
    go_wp2
    go_ret2
    exact ⟨ret_ib (by rw [Hz.out]) (by rw [Hz.out]), hk2⟩
  have Hz := Lib.hid (zoneF_yes (l := l) (ss := ss) (zone := zone) (within := within) (by rw [h0, h1, h3, h2]; rfl))
  have hm2 : m ≤ 1048576 := by have := sigsB_len h1; have := HS.out; omega
  have hv := h1
  go_enter Try.func33, Try.ntmps33
  go_wp2_with fail
  refine (areDetectors_any l _ _ _ _ hn hl).mono ?_
  rintro e V1 ⟨rfl, hb1⟩
  go_wp2_with fail
  refine (areSignals_any ss _ _ _ _ hm (hs.below hb1)).mono ?_
  rintro e V2 ⟨rfl, hb2⟩
  have hk2 := bl_trans hb1 hb2
  go_wp2_with fail
  refine (inside_any _ _ _ _).mono ?_
  rintro e V3 ⟨rfl, rfl⟩
  go_wp2_with fail
  refine (inside_any _ _ _ _).mono ?_
  rintro e V4 ⟨rfl, rfl⟩
  go_wp2_with fail
  refine (zoneAlarm_any l ss zone within _ _ _ _ _ _ _ hn hm2 (hl.below hk2) (hs.below hk2) hv).mono ?_
  rintro e V5 ⟨rfl, hb5⟩
  have hk5 := bl_trans hk2 hb5
  go_wp2
  go_ret2
  exact ⟨ret_ib (by rw [Hz.out]) (by rw [Hz.out]), hk5⟩

end Go.Proofs.Ytjdaikpkcafcdaa
