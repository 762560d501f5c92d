/-
  Due skills: both texts answer dueU. No conditions.
-/
import Derived.Test.YtgjnjfaohpmhkaaSkillB
import Derived.Test.YtgjnjfaohpmhkaaInts
import Derived.Test.YtgjnjfaohpmhkaaMem7
namespace Go.Proofs.Ytgjnjfaohpmhkaa
open Go.RowKit

def dueU (xs : List Skill) (day ahead : Int) (k : Nat) : List Int := ((List.range k).filter (fun i => decide ((nth xs i).Until < day + ahead))).map (fun i : Nat => (i : Int))
theorem dueU_yes {xs : List Skill} {day ahead : Int} {k : Nat} (h : (nth xs k).Until < day + ahead) : dueU xs day ahead (k + 1) = dueU xs day ahead k ++ [(k : Int)] := by simp [dueU, List.range_succ, h]
theorem dueU_no {xs : List Skill} {day ahead : Int} {k : Nat} (h : ¬ (nth xs k).Until < day + ahead) : dueU xs day ahead (k + 1) = dueU xs day ahead k := by simp [dueU, List.range_succ, h]
theorem dueU_len (xs : List Skill) (day ahead : Int) (k : Nat) : (dueU xs day ahead k).length ≤ k := by
  have h := List.length_filter_le (fun i => decide ((nth xs i).Until < day + ahead)) (List.range k)
  rw [List.length_range] at h
  unfold dueU
  rw [List.length_map]
  exact h
set_option maxHeartbeats 2000000 in
theorem drDue_any (xs : List Skill) (day ahead : Int) (A : Option Addr) (n c : Nat) (w : World) (hn : n ≤ 1048576) (hd0 : 0 ≤ day) (hd1 : day ≤ 20000) (ha0 : 0 ≤ ahead) (ha1 : ahead ≤ 1000) (hs : Sl w A n xs) :
    Calls Try.prog 35 #[.slice A n c, .int .i64 day, .int .i64 ahead] w (RetOwn w 3 (dueU xs day ahead n)) := by
  go_enter Try.func35, Try.ntmps35
  go_wp2
  go_loopw [7, 12] (fun v i wr => ∃ (k q c' : Nat) (A' : Option Addr), k ≤ n ∧ i = .int .i64 k ∧ v = .slice A' q c' ∧ q ≤ k ∧ Own wr w.heap.size 3 (.slice A' q c') (dueU xs day ahead k) ∧ Below w.heap.size w wr) (fun _ i _ => n - (intOf i).toNat)
  case atStart => exact ⟨0, 0, 0, none, Nat.zero_le _, rfl, rfl, Nat.le_refl _, Own.nil _ _ _, bl_refl _⟩
  case round =>
    obtain ⟨k, q, c', A', hk, rfl, rfl, hq, ho, hb⟩ := hrel
    by_cases hlt : k < n
    · obtain ⟨b, o, rfl, hbz, c0, c1, c2⟩ := (hs.below hb).skill hlt
      clear hs
      by_cases hd : (nth xs k).Until < day + ahead
      · have hp := Lib.hid (dueU_yes (xs := xs) hd)
        go_wp2_with ((at_builtin; refine wpList_app1g rfl (.tmp 23) (.tmp 25) _ _ rfl el_int (k : Int) rfl (ho.alloc _) (bl_alloc hb _) rfl (by simp) (by omega) ?_; intro A2 c2 w2 ho2 hb2 hg2))
        go_roundw
        case rel => exact ⟨k + 1, q + 1, c2, A2, by omega, by go_num, rfl, by omega, by rw [hp.out]; exact ho2, hb2⟩
        case measure => simp [intOf]; omega
      · have hp := Lib.hid (dueU_no (xs := xs) hd)
        go_wp2
        go_roundw
        case rel => exact ⟨k + 1, q, c', A', by omega, by go_num, rfl, by omega, by rw [hp.out]; exact ho.alloc _, bl_alloc hb _⟩
        case measure => simp [intOf]; omega
    · obtain rfl : k = n := by omega
      have hq3 := Lib.hid ho.sl.1
      go_wp2
      go_ret
      exact retOwn_mk hq3.out ho hb
set_option maxHeartbeats 2000000 in
theorem dueSkills_any (xs : List Skill) (day ahead : Int) (A : Option Addr) (n c : Nat) (w : World) (hn : n ≤ 1048576) (hd0 : 0 ≤ day) (hd1 : day ≤ 20000) (ha0 : 0 ≤ ahead) (ha1 : ahead ≤ 1000) (hs : Sl w A n xs) :
    Calls Try.prog 42 #[.slice A n c, .int .i64 day, .int .i64 ahead] w (RetOwn w 3 (dueU xs day ahead n)) := by
  go_enter Try.func42, Try.ntmps42
  go_wp2
  go_loopw [7, 12] (fun v i wr => ∃ (k q c' : Nat) (A' : Option Addr), k ≤ n ∧ i = .int .i64 k ∧ v = .slice A' q c' ∧ q ≤ k ∧ Own wr w.heap.size 3 (.slice A' q c') (dueU xs day ahead k) ∧ Below w.heap.size w wr) (fun _ i _ => n - (intOf i).toNat)
  case atStart => exact ⟨0, 0, 0, none, Nat.zero_le _, rfl, rfl, Nat.le_refl _, Own.nil _ _ _, bl_refl _⟩
  case round =>
    obtain ⟨k, q, c', A', hk, rfl, rfl, hq, ho, hb⟩ := hrel
    by_cases hlt : k < n
    · obtain ⟨b, o, rfl, hbz, c0, c1, c2⟩ := (hs.below hb).skill hlt
      clear hs
      by_cases hd : (nth xs k).Until < day + ahead
      · have hp := Lib.hid (dueU_yes (xs := xs) hd)
        go_wp2_with ((at_builtin; refine wpList_app1g rfl (.tmp 23) (.tmp 25) _ _ rfl el_int (k : Int) rfl (ho.alloc _) (bl_alloc hb _) rfl (by simp) (by omega) ?_; intro A2 c2 w2 ho2 hb2 hg2))
        go_roundw
        case rel => exact ⟨k + 1, q + 1, c2, A2, by omega, by go_num, rfl, by omega, by rw [hp.out]; exact ho2, hb2⟩
        case measure => simp [intOf]; omega
      · have hp := Lib.hid (dueU_no (xs := xs) hd)
        go_wp2
        go_roundw
        case rel => exact ⟨k + 1, q, c', A', by omega, by go_num, rfl, by omega, by rw [hp.out]; exact ho.alloc _, bl_alloc hb _⟩
        case measure => simp [intOf]; omega
    · obtain rfl : k = n := by omega
      have hq3 := Lib.hid ho.sl.1
      go_wp2
      go_ret
      exact retOwn_mk hq3.out ho hb

end Go.Proofs.Ytgjnjfaohpmhkaa
