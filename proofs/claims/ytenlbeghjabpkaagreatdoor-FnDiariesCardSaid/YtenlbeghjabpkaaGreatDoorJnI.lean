/-
  The program's reading of a text. No conditions.
-/
import Derived.Test.YtenlbeghjabpkaaGreatDoorJnH0
namespace Go.Proofs.YtenlbeghjabpkaaGreatDoor
open Go.RowKit Go.PlainAid

theorem nl_ix (l : List UInt8) : nlAt l = none ∧ Lib.indexByte l 10 = -1 ∨ ∃ m : Nat, nlAt l = some m ∧ Lib.indexByte l 10 = (m : Int) ∧ m < l.length := by
  have h := nlAt_byte l
  cases hn : nlAt l with
  | none => rw [hn] at h; exact .inl ⟨rfl, h⟩
  | some m => rw [hn] at h; exact .inr ⟨m, rfl, h, (nlAt_some hn).1⟩
set_option maxRecDepth 100000 in
set_option maxHeartbeats 4000000 in
theorem readStates_any (s : ByteArray) (num : Nat) (w : World) (hs : s.size ≤ 1048576) (hnum : num ≤ 40) (hen : Env w) :
    Calls Tryz.prog 43 #[.string s, .int .i64 (num : Int)] w (RetRd w (rd (40 - num) (num : Int) s.data.toList)) := by
  go_enter Tryz.func43, Tryz.ntmps43
  go_wp2
  go_loopw [6, 7] (fun v fr wr => ∃ (f q c' : Nat) (A' : Option Addr) (L : List State), f ≤ s.size ∧ fr = .int .i64 f ∧ v = .slice A' q c' ∧ num + q ≤ 40 ∧ Own wr w.heap.size 26 (.slice A' q c') L ∧ Below w.heap.size w wr
    ∧ Hid (rd (40 - num) (num : Int) s.data.toList = (L ++ (rd (40 - num - q) ((num : Int) + (q : Int)) (s.data.toList.drop f)).1, f + (rd (40 - num - q) ((num : Int) + (q : Int)) (s.data.toList.drop f)).2))) (fun _ fr _ => s.size - (intOf fr).toNat)
  case atStart => exact ⟨0, 0, 0, none, [], Nat.zero_le _, rfl, rfl, by omega, Own.nil _ _ _, bl_refl _, by rw [Hid]; simp⟩
  case round =>
    obtain ⟨f, q, c', A', L, hf, rfl, rfl, hq, ho, hb, hR⟩ := hrel
    have hfi : (0 : Int) ≤ (f : Int) := by omega
    have hfs : (f : Int) ≤ (s.size : Int) := by omega
    by_cases hq4 : num + q < 40
    · have hq5 : decide ((num : Int) + (q : Int) < 40) = true := by simp; omega
      have hq6 : q < 40 - num := by omega
      have hx := nl_ix (s.data.toList.drop f)
      rw [← ex_list] at hx
      rcases hx with ⟨hn, hi⟩ | ⟨m, hn, hi, hm⟩
      · have hF : Hid (rd (40 - num) (num : Int) s.data.toList = (L, f)) := rd_fin hR.out (rd_stop (by rw [← ex_list]; exact hn))
        have HI := Lib.hid hi
        clear hn hi hR
        go_wp2_with fail
        refine (indexNl_any _ _).mono ?_
        rintro e V1 ⟨rfl, rfl⟩
        rw [HI.out]
        go_wp2
        go_ret2
        exact retRd_mk hF.out ho hb
      · have hN : Hid (nlAt (s.data.toList.drop f) = some m) := by rw [Hid, ← ex_list]; exact hn
        have hE := Lib.hid (ex_take s f m)
        have hmf : f + m < s.size := by rw [ex_list, List.length_drop, ba_len] at hm; omega
        have hz : (s.extract f (f + m + 1)).size ≤ 1048576 := Nat.le_trans (ex_size s (by omega)) hs
        have HI := Lib.hid hi
        have g1 : (f : Int) ≤ (f : Int) + (m : Int) + 1 := by omega
        have g2 : (f : Int) + (m : Int) + 1 ≤ (s.size : Int) := by omega
        have g3 : ((f : Int) + (m : Int) + 1).toNat = f + m + 1 := by omega
        clear hn hi hm
        cases hp : parseB (s.extract f (f + m + 1)) with
        | none =>
          have HP := Lib.hid hp
          clear hp
          have hF : Hid (rd (40 - num) (num : Int) s.data.toList = (L, f)) := rd_fin hR.out (rd_bad hN.out (fun p e => by rw [← hE.out, HP.out] at e; cases e))
          go_wp2_with fail
          refine (indexNl_any _ _).mono ?_
          rintro e V0 ⟨rfl, rfl⟩
          rw [HI.out]
          go_wp2_with fail
          refine (parse_no (parseStateLine_any _ _ hz (hen.below hb)) HP.out).mono ?_
          rintro e V1 ⟨rfl, hb1⟩
          have hbV := bl_trans hb hb1
          have hoV := ho.below hb1
          clear ho hb1
          go_wp2
          go_ret2
          exact retRd_mk hF.out (hoV.alloc _) (bl_alloc hbV _)
        | some p =>
          obtain ⟨n, a, v⟩ := p
          obtain ⟨⟨n0, n1⟩, _, v0, v1⟩ := parse_bd hp
          have HP := Lib.hid hp
          clear hp
          by_cases hnq : n = (num : Int) + (q : Int)
          · subst hnq
            have hX := Lib.hid (rd_next (x := ⟨a, v⟩) hR.out hq6 hN.out (by rw [← hE.out, HP.out]))
            go_wp2_with fail
            refine (indexNl_any _ _).mono ?_
            rintro e V0 ⟨rfl, rfl⟩
            rw [HI.out]
            go_wp2_with fail
            refine (parse_yes (parseStateLine_any _ _ hz (hen.below hb)) HP.out).mono ?_
            rintro e V1 ⟨rfl, hb1⟩
            have hbV := bl_trans hb hb1
            have hoV := ho.below hb1
            clear ho hb1
            go_wp2_with ((at_builtin; refine wpList_app1g rfl (.tmp 45) (.tmp 47) _ _ rfl el_stateJ (⟨a, v⟩ : State) rfl (hoV.alloc _) (bl_alloc hbV _) rfl (by simp) (by omega) ?_; intro A2 c2 w2 ho2 hb2 hg2))
            go_roundw
            case rel => exact ⟨f + m + 1, q + 1, c2, A2, L ++ [⟨a, v⟩], by omega, by go_num, rfl, by omega, ho2, hb2, hX⟩
            case measure => simp [intOf]; omega
          · have hnq1 : (n != (num : Int) + (q : Int)) = true := by simpa using hnq
            have hF : Hid (rd (40 - num) (num : Int) s.data.toList = (L, f)) := rd_fin hR.out (rd_bad hN.out (fun p e => by rw [← hE.out, HP.out] at e; injection e with e; subst e; exact hnq))
            have HQ := Lib.hid hnq
            clear hnq
            go_wp2_with fail
            refine (indexNl_any _ _).mono ?_
            rintro e V0 ⟨rfl, rfl⟩
            rw [HI.out]
            go_wp2_with fail
            refine (parse_yes (parseStateLine_any _ _ hz (hen.below hb)) HP.out).mono ?_
            rintro e V1 ⟨rfl, hb1⟩
            have hbV := bl_trans hb hb1
            have hoV := ho.below hb1
            clear ho hb1
            go_wp2
            go_ret2
            exact retRd_mk hF.out (hoV.alloc _) (bl_alloc hbV _)
    · have hq5 : decide ((num : Int) + (q : Int) < 40) = false := by simp; omega
      have hz0 : 40 - num - q = 0 := by omega
      have hF : Hid (rd (40 - num) (num : Int) s.data.toList = (L, f)) := rd_fin hR.out (by rw [hz0]; rfl)
      clear hR
      go_wp2
      go_ret2
      exact retRd_mk hF.out ho hb

end Go.Proofs.YtenlbeghjabpkaaGreatDoor
