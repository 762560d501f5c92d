/-
  The reference's reading of a text. No conditions.
-/
import Derived.Test.YtenlbeghjabpkaaGreatDoorJnH0
namespace Go.Proofs.YtenlbeghjabpkaaGreatDoor
open Go.RowKit Go.PlainAid

set_option maxRecDepth 100000 in
set_option maxHeartbeats 4000000 in
theorem jnRead_any (s : ByteArray) (w : World) (hs : s.size ≤ 1048576) : Calls Tryz.prog 46 #[.string s] w (RetRd w (rd 40 0 s.data.toList)) := by
  have hbt := get_bt s
  go_enter Tryz.func46, Tryz.ntmps46
  go_wp2
  go_loopw [4, 5, 6] (fun v fr i wr => ∃ (k f q c' : Nat) (A' : Option Addr) (L : List State), f ≤ k ∧ k ≤ s.size ∧ i = .int .i64 k ∧ fr = .int .i64 f ∧ v = .slice A' q c' ∧ q ≤ 40 ∧ Own wr w.heap.size 26 (.slice A' q c') L ∧ Below w.heap.size w wr
    ∧ Hid (rd 40 0 s.data.toList = (L ++ (rd (40 - q) (0 + (q : Int)) (s.data.toList.drop f)).1, f + (rd (40 - q) (0 + (q : Int)) (s.data.toList.drop f)).2)) ∧ Hid (∀ j, f ≤ j → j < k → bt s j ≠ 10)) (fun _ _ i _ => s.size - (intOf i).toNat)
  case atStart => exact ⟨0, 0, 0, 0, none, [], Nat.le_refl _, Nat.zero_le _, rfl, rfl, rfl, Nat.zero_le _, Own.nil _ _ _, bl_refl _, by rw [Hid]; simp, fun j _ h => absurd h (by omega)⟩
  case round =>
    obtain ⟨k, f, q, c', A', L, hfk, hk, rfl, rfl, rfl, hq, ho, hb, hR, hno⟩ := hrel
    have hfi : (0 : Int) ≤ (f : Int) := by omega
    have hfki : (f : Int) ≤ (k : Int) := by omega
    have hki : (k : Int) ≤ (s.size : Int) := by omega
    by_cases hlt : k < s.size
    · have hlt2 : decide ((k : Int) < (s.size : Int)) = true := by simpa using hlt
      by_cases hq4 : q < 40
      · have hq5 : decide ((q : Int) < 40) = true := by simp; omega
        by_cases he : bt s k = 10
        · have hN := Lib.hid (nl_at hfk hlt hno.out he)
          have he1 : (bt s k != 10) = false := by simpa using he
          have hki1 : (k : Int) + 1 ≤ (s.size : Int) := by omega
          have hfk1 : (f : Int) ≤ (k : Int) + 1 := by omega
          have hz : (s.extract f (k + 1)).size ≤ 1048576 := Nat.le_trans (ex_size s (by omega)) hs
          have hE : Hid (s.extract f (k + 1) = ⟨((s.data.toList.drop f).take (k - f + 1)).toArray⟩) := by
            have h0 := ex_take s f (k - f)
            have h1 : f + (k - f) + 1 = k + 1 := by omega
            rw [h1] at h0
            exact h0
          clear he
          cases hp : parseB (s.extract f (k + 1)) with
          | none =>
            have HP := Lib.hid hp
            clear hp
            have hF : Hid (rd 40 0 s.data.toList = (L, f)) := rd_fin hR.out (rd_bad hN.out (fun p e => by rw [← hE.out, HP.out] at e; cases e))
            go_wp2_with fail
            refine (parse_no (jnParse_any _ _ hz) HP.out).mono ?_
            rintro e V1 ⟨rfl, hb1⟩
            have hbV := bl_trans hb hb1
            have hoV := ho.below hb1
            clear ho hb1
            go_wp2
            go_ret2
            exact retRd_mk hF.out (hoV.alloc _) (bl_alloc hbV _)
          | some p =>
            obtain ⟨n, a, v⟩ := p
            obtain ⟨⟨n0, n1⟩, _, v0, v1⟩ := parse_bd hp
            have HP := Lib.hid hp
            clear hp
            by_cases hnq : n = (q : Int)
            · subst hnq
              have hX := Lib.hid (rd_next (x := ⟨a, v⟩) hR.out hq4 hN.out (by rw [← hE.out, HP.out, Int.zero_add]))
              have hfm : Hid (f + (k - f) + 1 = k + 1) := by rw [Hid]; omega
              rw [hfm.out] at hX
              go_wp2_with fail
              refine (parse_yes (jnParse_any _ _ hz) HP.out).mono ?_
              rintro e V1 ⟨rfl, hb1⟩
              have hbV := bl_trans hb hb1
              have hoV := ho.below hb1
              clear ho hb1
              go_wp2_with ((at_builtin; refine wpList_app1g rfl (.tmp 43) (.tmp 45) _ _ rfl el_stateJ (⟨a, v⟩ : State) rfl (hoV.alloc _) (bl_alloc hbV _) rfl (by simp) (by omega) ?_; intro A2 c2 w2 ho2 hb2 hg2))
              go_roundw
              case rel => exact ⟨k + 1, k + 1, q + 1, c2, A2, L ++ [⟨a, v⟩], Nat.le_refl _, by omega, by go_num, by go_num, rfl, by omega, ho2, hb2, hX, fun j h1 h2 => absurd h2 (by omega)⟩
              case measure => simp [intOf]; omega
            · have hnq1 : (n != (q : Int)) = true := by simpa using hnq
              have hF : Hid (rd 40 0 s.data.toList = (L, f)) := rd_fin hR.out (rd_bad hN.out (fun p e => by rw [← hE.out, HP.out] at e; injection e with e; subst e; simp only []; omega))
              have HQ := Lib.hid hnq
              clear hnq
              go_wp2_with fail
              refine (parse_yes (jnParse_any _ _ hz) HP.out).mono ?_
              rintro e V1 ⟨rfl, hb1⟩
              have hbV := bl_trans hb hb1
              have hoV := ho.below hb1
              clear ho hb1
              go_wp2
              go_ret2
              exact retRd_mk hF.out (hoV.alloc _) (bl_alloc hbV _)
        · have he1 : (bt s k != 10) = true := by simpa using he
          have HE := Lib.hid he
          clear he
          go_wp2
          go_roundw
          case rel => exact ⟨k + 1, f, q, c', A', L, by omega, by omega, by go_num, rfl, rfl, hq, ho, hb, hR, fun j h1 h2 => by
            by_cases e : j = k
            · rw [e]; exact HE.out
            · exact hno.out j h1 (by omega)⟩
          case measure => simp [intOf]; omega
      · obtain rfl : q = 40 := by omega
        have hF : Hid (rd 40 0 s.data.toList = (L, f)) := rd_fin hR.out rfl
        have hq5 : decide ((40 : Int) < 40) = false := by decide
        clear hR
        go_wp2
        go_ret2
        exact retRd_mk hF.out ho hb
    · obtain rfl : k = s.size := by omega
      have hF : Hid (rd 40 0 s.data.toList = (L, f)) := rd_fin hR.out (rd_stop (nl_end hno.out))
      clear hR
      go_wp2
      go_ret2
      exact retRd_mk hF.out ho hb

end Go.Proofs.YtenlbeghjabpkaaGreatDoor
