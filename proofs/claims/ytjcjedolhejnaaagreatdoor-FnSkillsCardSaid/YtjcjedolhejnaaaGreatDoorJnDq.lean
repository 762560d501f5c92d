/-
  The reference's split at a byte, and its reading of a numeral. No conditions.
-/
import Derived.Test.YtjcjedolhejnaaaGreatDoorJnCq
namespace Go.Proofs.YtjcjedolhejnaaaGreatDoor
open Go.RowKit Go.PlainAid

theorem el_strJ : Elem Tryz.prog 81 9 (Flat.sz ByteArray) := elem_mk Tryz.underlying81 (by kernel_rfl)
theorem bt_list {s : ByteArray} {k : Nat} (h : k < s.size) : s.data.toList[k]? = some (s[k]'h) := by
  rw [List.getElem?_eq_getElem (by rw [ba_len]; exact h)]; rfl
theorem bt_eq {s : ByteArray} {k : Nat} {c : UInt8} (h : k < s.size) (e : bt s k = (c.toNat : Int)) : s.data.toList[k]? = some c := by
  rw [bt_list h]; congr 1
  rw [← get_bt s k h] at e
  exact UInt8.toNat_inj.1 (by omega)
theorem bt_ne {s : ByteArray} {k : Nat} {c : UInt8} (h : k < s.size) (e : bt s k ≠ (c.toNat : Int)) : s.data.toList[k]? ≠ some c := fun he => by
  rw [bt_list h] at he; injection he with he
  exact e (by rw [← get_bt s k h, he])
theorem ex_list (s : ByteArray) (f : Nat) : (s.extract f s.size).data.toList = s.data.toList.drop f := by
  rw [ba_ex, List.take_of_length_le (by rw [List.length_drop, ba_len]; exact Nat.le_refl _)]
theorem notin_ex {s : ByteArray} {c : UInt8} {f k : Nat} (hk : k ≤ s.size) (hno : ∀ j, f ≤ j → j < k → bt s j ≠ (c.toNat : Int)) : c ∉ (s.data.toList.drop f).take (k - f) := fun hm => by
  obtain ⟨j, hj, e⟩ := List.getElem_of_mem hm
  rw [List.length_take, List.length_drop, ba_len] at hj
  refine bt_ne (s := s) (k := f + j) (by omega) (hno (f + j) (by omega) (by omega)) ?_
  rw [List.getElem_take, List.getElem_drop] at e
  rw [List.getElem?_eq_getElem (by rw [ba_len]; omega), e]
theorem cut_step {s : ByteArray} {c : UInt8} {f k : Nat} (hfk : f ≤ k) (hk : k < s.size) (hno : ∀ j, f ≤ j → j < k → bt s j ≠ (c.toNat : Int)) (he : bt s k = (c.toNat : Int)) :
    cutB c (s.extract f s.size) = s.extract f k :: cutB c (s.extract (k + 1) s.size) := by
  have h1 : s.data.toList.drop f = (s.data.toList.drop f).take (k - f) ++ c :: s.data.toList.drop (k + 1) := by
    have h2 : (s.data.toList.drop f)[k - f]? = some c := by rw [List.getElem?_drop, show f + (k - f) = k by omega]; exact bt_eq hk he
    have h3 := at_parts h2
    rw [List.drop_drop, show f + (k - f + 1) = k + 1 by omega] at h3
    exact h3
  unfold cutB
  rw [ex_list, ex_list, h1, cutL_app _ (notin_ex (by omega) hno), List.map_cons]
  congr 1
  apply ba_ext; rw [ba_mk, ba_ex]
theorem cut_last {s : ByteArray} {c : UInt8} {f : Nat} (hno : ∀ j, f ≤ j → j < s.size → bt s j ≠ (c.toNat : Int)) : cutB c (s.extract f s.size) = [s.extract f s.size] := by
  have h := notin_ex (Nat.le_refl s.size) hno
  rw [List.take_of_length_le (by rw [List.length_drop, ba_len]; exact Nat.le_refl _)] at h
  unfold cutB
  rw [ex_list, cutL_none h, List.map_cons, List.map_nil]
  congr 1
  apply ba_ext; rw [ba_mk, ex_list]
theorem cut_whole (s : ByteArray) : s.extract 0 s.size = s := by apply ba_ext; rw [ex_list]; rfl
set_option maxRecDepth 100000 in
set_option maxHeartbeats 2000000 in
theorem l1Split_any (s : ByteArray) (c : UInt8) (w : World) (hs : s.size ≤ 1048576) :
    Calls Tryz.prog 70 #[.string s, .int .u8 (c.toNat : Int)] w (RetOwn w 9 (cutB c s)) := by
  have hbt := get_bt s
  obtain ⟨d, hd⟩ : ∃ d : Int, d = (c.toNat : Int) := ⟨_, rfl⟩
  have HD := Lib.hid hd
  rw [← hd]
  clear hd
  go_enter Tryz.func70, Tryz.ntmps70
  go_wp2
  go_loopw [5, 6, 7] (fun v fr i wr => ∃ (k f q c' : Nat) (A' : Option Addr) (L : List ByteArray), f ≤ k ∧ k ≤ s.size ∧ i = .int .i64 k ∧ fr = .int .i64 f ∧ v = .slice A' q c' ∧ q ≤ k ∧ Own wr w.heap.size 9 (.slice A' q c') L ∧ Below w.heap.size w wr
    ∧ Hid (cutB c s = L ++ cutB c (s.extract f s.size)) ∧ Hid (∀ j, f ≤ j → j < k → bt s j ≠ (c.toNat : Int))) (fun _ _ i _ => s.size - (intOf i).toNat)
  case atStart => exact ⟨0, 0, 0, 0, none, [], Nat.le_refl _, Nat.zero_le _, rfl, rfl, rfl, Nat.le_refl _, Own.nil _ _ _, bl_refl _, by rw [Hid, cut_whole]; rfl, fun j _ h => absurd h (by omega)⟩
  case round =>
    obtain ⟨k, f, q, c', A', L, hfk, hk, rfl, rfl, rfl, hq, ho, hb, hL, hno⟩ := hrel
    have hfi : (0 : Int) ≤ (f : Int) := by omega
    have hfki : (f : Int) ≤ (k : Int) := by omega
    have hki : (k : Int) ≤ (s.size : Int) := by omega
    by_cases hlt : k < s.size
    · by_cases he : bt s k = d
      · have hst := Lib.hid (cut_step hfk hlt hno.out (by rw [he]; exact HD.out))
        have he' : (bt s k == d) = true := by simpa using he
        have he2 : decide (bt s k = d) = true := by simpa using he
        have HE := Lib.hid he
        clear he
        go_wp2_with ((at_builtin; refine wpList_app1g rfl (.tmp 19) (.tmp 24) _ _ rfl el_strJ (s.extract f k) rfl ho hb rfl (by simp) (by omega) ?_; intro A2 c2 w2 ho2 hb2 hg2))
        go_roundw
        case rel => exact ⟨k + 1, k + 1, q + 1, c2, A2, L ++ [s.extract f k], Nat.le_refl _, by omega, by go_num, by go_num, rfl, by omega, ho2, hb2, by rw [Hid, hL.out, hst.out]; simp, fun j h1 h2 => absurd h2 (by omega)⟩
        case measure => simp [intOf]; omega
      · have he' : (bt s k == d) = false := by simpa using he
        have he2 : decide (bt s k = d) = false := by simpa using he
        have HE := Lib.hid he
        clear he
        go_wp2
        go_roundw
        case rel => exact ⟨k + 1, f, q, c', A', L, by omega, by omega, by go_num, rfl, rfl, by omega, ho, hb, hL, fun j h1 h2 => by
          by_cases e : j = k
          · rw [e, ← HD.out]; exact HE.out
          · exact hno.out j h1 (by omega)⟩
        case measure => simp [intOf]; omega
    · obtain rfl : k = s.size := by omega
      have hst := Lib.hid (cut_last hno.out)
      go_wp2_with ((at_builtin; refine wpList_app1g rfl (.tmp 28) (.tmp 32) _ _ rfl el_strJ (s.extract f s.size) rfl ho hb rfl (by simp) (by omega) ?_; intro A2 c2 w2 ho2 hb2 hg2))
      go_ret
      have hl := ho2.sl.1
      have e : L ++ [s.extract f s.size] = cutB c s := by rw [hL.out, hst.out]
      rw [e] at ho2 hl
      exact retOwn_mk hl ho2 hb2
end Go.Proofs.YtjcjedolhejnaaaGreatDoor
