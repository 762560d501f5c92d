/-
  Numbers with a sign between them, read. No conditions.
-/
import Derived.Test.YtjjmiapopjaoeaaDoorPiL
import Derived.Test.YtjjmiapopjaoeaaDoorJnAq
namespace Go.Proofs.YtjjmiapopjaoeaaDoor
open Go.RowKit

theorem cutL_piece (c : UInt8) : ∀ (l : List UInt8) (p : List UInt8), p ∈ cutL c l → p.length ≤ l.length
  | [], p, h => by
    simp only [cutL, List.mem_singleton] at h
    subst h; exact Nat.le_refl _
  | b :: l, p, h => by
    have ih := cutL_piece c l
    unfold cutL at h
    split at h
    · rcases List.mem_cons.1 h with rfl | h
      · exact Nat.zero_le _
      · have := ih p h; rw [List.length_cons]; omega
    · split at h
      · rename_i h2; exact absurd h2 (cutL_ne c l)
      · rename_i q qs h2
        rcases List.mem_cons.1 h with rfl | h
        · have := ih q (by rw [h2]; exact List.mem_cons_self)
          rw [List.length_cons, List.length_cons]; omega
        · have := ih p (by rw [h2]; exact List.mem_cons_of_mem _ h)
          rw [List.length_cons]; omega
theorem cut_piece {c : UInt8} {s x : ByteArray} (h : x ∈ cutB c s) : x.size ≤ s.size := by
  unfold cutB at h
  rw [List.mem_map] at h
  obtain ⟨l, hl, rfl⟩ := h
  have := cutL_piece c _ l hl
  rw [ba_len] at this
  show l.toArray.size ≤ _
  rw [List.size_toArray]; exact this
def RnPost (P : List ByteArray) (w : World) (e : Ending) (w' : World) : Prop :=
  ∃ A n c' L ok, e = .returned (.tuple #[.slice A n c', .bool ok]) ∧ n ≤ 1048577 ∧ Sl w' A n L ∧ (∀ k, k < n → -9223372036854775808 ≤ nth L k ∧ nth L k ≤ 9223372036854775807) ∧ Below w.heap.size w w' ∧ Hid (∀ ns : List Nat, (∀ u ∈ ns, u < 1000000) → P = ns.map (fun u : Nat => itB (u : Int)) → ok = true ∧ L = ns.map (fun u : Nat => (u : Int)))
set_option maxRecDepth 100000 in
set_option maxHeartbeats 4000000 in
theorem readNumbers_any (s : ByteArray) (c : UInt8) (w : World) (hs : s.size ≤ 1048576) (he : Env w) :
    Calls Tryd.prog 16 #[.string s, .string ⟨#[c]⟩] w (RnPost (cutB c s) w) := by
  have hbig : ∀ x, x ∈ cutB c s → x.size ≤ 1048576 := fun x hx => by
    have := cut_piece hx
    omega
  have HBG := Lib.hid hbig
  have hcn : (cutB c s).length ≤ 1048577 := by
    have hl : Lib.countB s ⟨#[c]⟩ + 1 = (cutB c s).length := by rw [← splitB_cut c s.size s (Nat.le_refl _), Lib.splitB_all ⟨#[c]⟩ (Nat.le_refl 1) 0 _ s rfl]
    have := Lib.countB_le ⟨#[c]⟩ (Nat.le_refl 1) s.size s (Nat.le_refl _)
    omega
  have HSP : Hid (Calls Tryd.prog 28 #[.string s, .string ⟨#[c]⟩] w (RetOwn w 9 (cutB c s))) := splitO_any s c w hs he
  obtain ⟨P, hP⟩ : ∃ P, P = cutB c s := ⟨_, rfl⟩
  rw [← hP] at HBG HSP hcn ⊢
  have HE := Lib.hid he
  clear hP hbig he
  go_enter Tryd.func16, Tryd.ntmps16
  go_wp2_with fail
  refine HSP.out.mono ?_
  rintro e V ⟨A, cc, rfl, ho, hV⟩
  have HS := Lib.hid ho.sl
  have HV1 := Lib.hid hV
  clear ho hV
  go_wp2
  go_loopw [6, 15] (fun v iv wr => ∃ (i c' : Nat) (A' : Option Addr) (L : List Int), i ≤ P.length ∧ iv = .int .i64 i ∧ v = .slice A' i c' ∧ Own wr V.heap.size 3 (.slice A' i c') L ∧ (∀ k, k < i → -9223372036854775808 ≤ nth L k ∧ nth L k ≤ 9223372036854775807) ∧ Hid (∀ ns : List Nat, (∀ u ∈ ns, u < 1000000) → P = ns.map (fun u : Nat => itB (u : Int)) → L = (ns.take i).map (fun u : Nat => (u : Int))) ∧ Below V.heap.size V wr) (fun _ iv _ => P.length - (intOf iv).toNat)
  case atStart => exact ⟨0, 0, none, [], Nat.zero_le _, rfl, rfl, Own.nil _ _ _, fun k hk => absurd hk (by omega), fun ns _ _ => rfl, bl_refl _⟩
  case round =>
    obtain ⟨i, c', A', L, hi, rfl, rfl, ho, hbd, hL, hbV⟩ := hrel
    have hb := bl_trans HV1.out hbV
    by_cases hlt : i < P.length
    · obtain ⟨b, o, rfl, hbz, c0⟩ := (HS.out.below hbV).str hlt
      have hsz := HBG.out _ (nth_mem hlt)
      have HBD := Lib.hid hbd
      clear hbd
      go_wp2_with fail
      refine (readNumber_any (nth P i) _ hsz (HE.out.below hb)).mono ?_
      rintro e V2 ⟨v, ok, rfl, ⟨v0, v1⟩, hq, hb2⟩
      have hoV := ho.below hb2
      have hbw := bl_trans hb hb2
      have hbw2 := bl_trans hbV hb2
      clear c0 ho hb2
      cases ok
      · have HF : Hid (∀ ns : List Nat, (∀ u ∈ ns, u < 1000000) → P = ns.map (fun u : Nat => itB (u : Int)) → false = true ∧ ([] : List Int) = ns.map (fun u : Nat => (u : Int))) := fun ns h1 h2 => by
          have hin : i < ns.length := by have := congrArg List.length h2; rw [List.length_map] at this; omega
          have e1 : nth P i = itB ((nth ns i : Nat) : Int) := nth_get (by rw [h2, List.getElem?_map, get_nth hin]; rfl)
          have := (hq.out.1 (nth ns i) (h1 _ (nth_mem hin)) e1).2
          cases this
        go_wp2
        go_ret2
        exact ⟨none, 0, 0, [], false, rfl, by omega, ⟨rfl, fun k x hx => by simp at hx⟩, fun k hk => absurd hk (by omega), hbw, HF.out⟩
      · go_wp2_with ((at_builtin; refine wpList_app1g rfl (.tmp 26) (.tmp 28) _ _ rfl el_int v rfl hoV hbw2 rfl (by simp) (by omega) ?_; intro A3 c3 w2 ho3 hb3 hg3))
        go_roundw
        case rel =>
          have hll : L.length = i := hoV.sl.1
          refine ⟨i + 1, c3, A3, L ++ [v], by omega, by go_num, rfl, ho3, fun k hk => ?_, fun ns h1 h2 => ?_, hb3⟩
          · by_cases e : k < i
            · have e2 : nth (L ++ [v]) k = nth L k := nth_get (by rw [List.getElem?_append_left (by omega)]; exact get_nth (by omega))
              rw [e2]; exact HBD.out k e
            · have e3 : k = L.length := by omega
              subst e3
              have e2 : nth (L ++ [v]) L.length = v := nth_get (by rw [List.getElem?_append_right (Nat.le_refl _)]; simp)
              rw [e2]; exact ⟨v0, v1⟩
          · have hin : i < ns.length := by have := congrArg List.length h2; rw [List.length_map] at this; omega
            have e1 : nth P i = itB ((nth ns i : Nat) : Int) := nth_get (by rw [h2, List.getElem?_map, get_nth hin]; rfl)
            have e2 := (hq.out.1 (nth ns i) (h1 _ (nth_mem hin)) e1).1
            rw [take_succ hin, List.map_append, hL.out ns h1 h2, e2]
            rfl
        case measure => simp [intOf]; omega
    · obtain rfl : i = P.length := by omega
      have HBD := Lib.hid hbd
      clear hbd
      go_wp2
      go_ret2
      exact ⟨A', P.length, c', L, true, rfl, hcn, ho.sl, HBD.out, hb, fun ns h1 h2 => ⟨rfl, by rw [hL.out ns h1 h2, List.take_of_length_le (by have := congrArg List.length h2; rw [List.length_map] at this; omega)]⟩⟩

end Go.Proofs.YtjjmiapopjaoeaaDoor
