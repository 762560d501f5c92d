/-
  Open zones: the program's text answers openZ. No conditions.
-/
import Derived.Test.YtjdaikpkcafcdaaZone
namespace Go.Proofs.Ytjdaikpkcafcdaa
open Go.RowKit

def cntB (l : List Det) (z : Int) : Int := (l.filter (fun d => d.Zone == z)).length
def offB (l : List Det) (z : Int) : Int := (l.filter (fun d => d.Zone == z && d.Off)).length
theorem cntB_succ {l : List Det} {k : Nat} (hk : k < l.length) (z : Int) : cntB (l.take (k + 1)) z = cntB (l.take k) z + (if (nth l k).Zone == z then 1 else 0) := by
  rw [take_succ hk]; unfold cntB
  cases h : (nth l k).Zone == z <;> simp [List.filter_append, h]
theorem offB_succ {l : List Det} {k : Nat} (hk : k < l.length) (z : Int) : offB (l.take (k + 1)) z = offB (l.take k) z + (if (nth l k).Zone == z && (nth l k).Off then 1 else 0) := by
  rw [take_succ hk]; unfold offB
  cases h : (nth l k).Zone == z && (nth l k).Off <;> simp [List.filter_append, h]
theorem cnt_bd (l : List Det) (z : Int) : 0 ≤ offB l z ∧ offB l z ≤ cntB l z ∧ cntB l z ≤ l.length := by
  unfold cntB offB
  have h1 := List.length_filter_le (fun d : Det => d.Zone == z) l
  have h2 : (l.filter (fun d => d.Zone == z && d.Off)).length ≤ (l.filter (fun d => d.Zone == z)).length := by
    induction l with
    | nil => simp
    | cons d l ih =>
      simp only [List.filter_cons]
      have h3 := ih (List.length_filter_le _ _)
      cases d.Zone == z <;> cases d.Off <;> simp <;> omega
  omega
theorem cntB_cons (d : Det) (l : List Det) (z : Int) : cntB (d :: l) z = cntB l z + (if d.Zone == z then 1 else 0) := by unfold cntB; cases h : d.Zone == z <;> simp [h]
theorem offB_cons (d : Det) (l : List Det) (z : Int) : offB (d :: l) z = offB l z + (if d.Zone == z && d.Off then 1 else 0) := by unfold offB; cases h : d.Zone == z && d.Off <;> simp [h]
theorem some_of (l : List Det) (z : Int) : someB l z = decide (0 < cntB l z) := by
  induction l with
  | nil => rfl
  | cons d l ih =>
    have hb := cnt_bd l z
    have e : someB (d :: l) z = (d.Zone == z || someB l z) := rfl
    rw [e, ih, cntB_cons]
    cases d.Zone == z
    · simp
    · simp; omega
theorem live_of (l : List Det) (z : Int) : liveB l z = decide (offB l z < cntB l z) := by
  induction l with
  | nil => rfl
  | cons d l ih =>
    have hb := cnt_bd l z
    have e : liveB (d :: l) z = ((d.Zone == z && !d.Off) || liveB l z) := rfl
    rw [e, ih, cntB_cons, offB_cons]
    cases d.Zone == z
    · simp
    · cases d.Off
      · simp; omega
      · simp
theorem zone_yes {l : List Det} {z : Int} (h : 0 < cntB l z) (h' : cntB l z = offB l z) : zoneB l z = true := by
  unfold zoneB; rw [some_of, live_of]; simp; omega
theorem zone_no {l : List Det} {z : Int} (h : ¬ 0 < cntB l z ∨ cntB l z ≠ offB l z) : zoneB l z = false := by
  have := cnt_bd l z
  unfold zoneB; rw [some_of, live_of]; simp; omega

theorem openZ_len (l : List Det) : (openZ l).1.length ≤ 1048576 := by
  unfold openZ; split
  · have := openTo_len l 9; simp only; omega
  · simp

set_option maxHeartbeats 1000000 in
theorem implOpenZones_any (xs : List Det) (A : Option Addr) (n c : Nat) (w : World) (hn : (n : Int) ≤ 9223372036854775807) (hs : Sl w A n xs) :
    Calls Try.prog 20 #[.slice A n c] w (RetOwn2 w 3 (openZ xs)) := by
  have HL := Lib.hid hs.1
  cases hg : detsB xs
  · have Hz := Lib.hid (openZ_no hg)
    go_enter Try.func20, Try.ntmps20
    go_wp2_with (go_at_call 40; refine (areDetectors_any xs _ _ _ _ hn hs).mono ?_; rintro e V ⟨rfl, hV⟩)
    go_ret2
    exact retOwn2_mk Hz.out (Own.nil _ _ _) hV
  have Hz := Lib.hid (openZ_yes hg)
  go_enter Try.func20, Try.ntmps20
  go_wp2_with (go_at_call 40; refine (areDetectors_any xs _ _ _ _ hn hs).mono ?_; rintro e V ⟨rfl, hV⟩)
  clear hg
  go_loopw [4, 5] (fun v i wr => ∃ (k m c' : Nat) (A' : Option Addr), k ≤ 9 ∧ i = .int .i64 ((k : Int) + 1) ∧ v = .slice A' m c' ∧ Own wr w.heap.size 3 (.slice A' m c') (openTo xs k) ∧ Below w.heap.size w wr) (fun _ i _ => (10 - (intOf i).toNat))
  case atStart => exact ⟨0, 0, 0, none, by omega, rfl, rfl, Own.nil _ _ _, hV⟩
  case round =>
    obtain ⟨k, m, c', A', hk, rfl, rfl, ho, hb⟩ := hrel
    have hm : m ≤ 9 := by have := ho.sl.1; have := openTo_len xs k; omega
    by_cases hlt : k < 9
    · have hs' := hs.below hb
      obtain ⟨wo, rfl⟩ : ∃ wo : World, wo = wr := ⟨_, rfl⟩
      clear hs hV
      go_wp2_with fail
      go_loopw [6, 7, 19] (fun p q i wr => ∃ (j : Nat) (p0 q0 : Int), j ≤ n ∧ i = .int .i64 j ∧ p = .int .i64 p0 ∧ q = .int .i64 q0 ∧ Hid (p0 = cntB (xs.take j) ((k : Int) + 1)) ∧ Hid (q0 = offB (xs.take j) ((k : Int) + 1)) ∧ Below wo.heap.size wo wr) (fun _ _ i _ => n - (intOf i).toNat)
      case atStart => exact ⟨0, 0, 0, Nat.zero_le _, rfl, rfl, rfl, rfl, rfl, bl_refl _⟩
      case round =>
        obtain ⟨j, p0, q0, hj, rfl, rfl, rfl, hp, hq, hbi⟩ := hrel
        have hbd := cnt_bd (xs.take j) ((k : Int) + 1)
        have hle : (xs.take j).length ≤ j := by rw [List.length_take]; omega
        rw [← hp.out, ← hq.out] at hbd
        obtain ⟨b0, b1, b2⟩ := hbd
        have b3 : p0 ≤ j := by omega
        have b4 : q0 ≤ j := by omega
        clear b2 hle
        by_cases hjn : j < n
        · obtain ⟨b, o, rfl, hbz, c0, c1, c2, c3⟩ := (hs'.below hbi).det hjn
          have hS := Lib.hid (cntB_succ (l := xs) (k := j) (by rw [HL.out]; exact hjn) ((k : Int) + 1))
          have hT := Lib.hid (offB_succ (l := xs) (k := j) (by rw [HL.out]; exact hjn) ((k : Int) + 1))
          clear hs' ho
          cases hz : (nth xs j).Zone == (k : Int) + 1
          · have hz' := Lib.hid hz
            go_wp2
            go_roundw
            case rel => exact ⟨j + 1, p0, q0, by omega, by go_num, rfl, rfl, by rw [Hid, hS.out, hz'.out, hp.out]; simp, by rw [Hid, hT.out, hz'.out, hq.out]; simp, bl_alloc hbi _⟩
            case measure => simp [intOf]; omega
          · have hz' := Lib.hid hz
            cases hl : (nth xs j).Off
            · have hl' := Lib.hid hl
              go_wp2
              go_roundw
              case rel => exact ⟨j + 1, p0 + 1, q0, by omega, by go_num, rfl, rfl, by rw [Hid, hS.out, hz'.out, hp.out]; simp, by rw [Hid, hT.out, hz'.out, hl'.out, hq.out]; simp, bl_alloc hbi _⟩
              case measure => simp [intOf]; omega
            · have hl' := Lib.hid hl
              go_wp2
              go_roundw
              case rel => exact ⟨j + 1, p0 + 1, q0 + 1, by omega, by go_num, rfl, rfl, by rw [Hid, hS.out, hz'.out, hp.out]; simp, by rw [Hid, hT.out, hz'.out, hl'.out, hq.out]; simp, bl_alloc hbi _⟩
              case measure => simp [intOf]; omega
        · obtain rfl : j = n := by omega
          have ho' := ho.below hbi
          have hb' := bl_trans hb hbi
          have hx : xs.take j = xs := List.take_of_length_le (by rw [HL.out]; omega)
          rw [hx] at hp hq
          clear hs' ho hb hx
          by_cases h1 : 0 < p0
          · by_cases h2 : p0 = q0
            · have hz : Hid (zoneB xs ((k : Int) + 1) = true) := zone_yes (by rw [← hp.out]; exact h1) (by rw [← hp.out, ← hq.out]; exact h2)
              have h3 : (p0 == q0) = true := by simpa using h2
              clear h2
              go_wp2_with ((at_builtin; refine wpList_app1 rfl (.tmp 41) (.tmp 43) _ _ rfl el_int ((k : Int) + 1) rfl ho' hb' rfl (by omega) ?_; intro A2 c2 w2 ho2 hb2 hg2))
              go_roundw
              case rel => exact ⟨k + 1, m + 1, c2, A2, by omega, by go_num, rfl, by rw [openTo_yes hz.out]; exact ho2, hb2⟩
              case measure => simp [intOf]; omega
            · have hz : Hid (zoneB xs ((k : Int) + 1) = false) := zone_no (.inr (by rw [← hp.out, ← hq.out]; exact h2))
              have h3 : (p0 == q0) = false := by simpa using h2
              clear h2
              go_wp2
              go_roundw
              case rel => exact ⟨k + 1, m, c', A', by omega, by go_num, rfl, by rw [openTo_no hz.out]; exact ho', hb'⟩
              case measure => simp [intOf]; omega
          · have hz : Hid (zoneB xs ((k : Int) + 1) = false) := zone_no (.inl (by rw [← hp.out]; exact h1))
            go_wp2
            go_roundw
            case rel => exact ⟨k + 1, m, c', A', by omega, by go_num, rfl, by rw [openTo_no hz.out]; exact ho', hb'⟩
            case measure => simp [intOf]; omega
    · obtain rfl : k = 9 := by omega
      go_wp2
      go_ret2
      exact retOwn2_mk Hz.out ho hb
end Go.Proofs.Ytjdaikpkcafcdaa
