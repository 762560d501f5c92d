/-
  readNumber, and the lines of the program. No conditions.
-/
import Derived.Test.YtjcjedolhejnaaaGreatDoorEnvq
import Derived.IntWalk
namespace Go.Proofs.YtjcjedolhejnaaaGreatDoor
open Go.RowKit

/-- what a reader of numbers hands back -/
def NumPost (s : ByteArray) (w : World) (e : Ending) (w' : World) : Prop :=
  ∃ v b, e = .returned (.tuple #[.int .i64 v, .bool b]) ∧ (-9223372036854775808 ≤ v ∧ v ≤ 9223372036854775807) ∧ Hid ((∀ u : Nat, u < 1000000 → s = itB (u : Int) → v = (u : Int) ∧ b = true) ∧ (b = true → s = itB v)) ∧ Below w.heap.size w w'
set_option maxHeartbeats 1000000 in
theorem readNumber_any (s : ByteArray) (w : World) (hs : s.size ≤ 1048576) (he : Env w) : Calls Tryz.prog 88 #[.string s] w (NumPost s w) := by
  by_cases hh : ∃ v, Lib.atoiAll s.data.toList = .ok v
  · obtain ⟨v, hv⟩ := hh
    obtain ⟨b0, b1⟩ := Lib.atoiAll_bounds hv
    have HV := Lib.hid hv
    clear hv
    go_enter Tryz.func88, Tryz.ntmps88
    go_wp2_with fail
    refine (atoi_ok s v _ hs HV.out).mono ?_
    rintro e V1 ⟨rfl, hb1⟩
    go_wp2_with fail
    refine (itoa_any v _ b0 b1 (he.tab.below hb1)).mono ?_
    rintro e V2 ⟨rfl, hb2⟩
    have hb := bl_trans hb1 hb2
    cases hq : sameB (itB v) s with
    | true =>
      have hq2 : ((itB v).toList == s.toList) = true := by rw [bytes_beq]; exact hq
      go_wp2
      go_ret2
      refine ⟨v, true, rfl, ⟨b0, b1⟩, ⟨fun u hu hs2 => ?_, fun _ => (sameB_iff.1 hq).symm⟩, hb⟩
      have := HV.out
      rw [hs2, atoiAll_it u hu] at this
      injection this with this
      exact ⟨this.symm, rfl⟩
    | false =>
      have hq2 : ((itB v).toList == s.toList) = false := by rw [bytes_beq]; exact hq
      go_wp2
      go_ret2
      refine ⟨v, false, rfl, ⟨b0, b1⟩, ⟨fun u hu hs2 => ?_, fun h => by cases h⟩, hb⟩
      have := HV.out
      rw [hs2, atoiAll_it u hu] at this
      injection this with this
      rw [← this, hs2, sameB_iff.2 rfl] at hq
      cases hq
  · have hn : ∀ v, Lib.atoiAll s.data.toList ≠ .ok v := fun v hv => hh ⟨v, hv⟩
    have HN := Lib.hid hn
    clear hn hh
    go_enter Tryz.func88, Tryz.ntmps88
    go_wp2_with fail
    refine (atoi_no s _ hs HN.out he).mono ?_
    rintro e V1 ⟨v, N, rfl, b0, b1, hb1⟩
    go_wp2
    go_ret2
    refine ⟨v, false, rfl, ⟨b0, b1⟩, ⟨fun u hu hs2 => ?_, fun h => by cases h⟩, hb1⟩
    exact absurd (by rw [hs2]; exact atoiAll_it u hu) (HN.out (u : Int))
end Go.Proofs.YtjcjedolhejnaaaGreatDoor
