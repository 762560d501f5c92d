/-
  Several texts in one. No conditions.
-/
import Derived.Test.YtjcjedolhejnaaaGreatDoorJnEq
import Derived.Test.YtjcjedolhejnaaaGreatDoorStrsI
import Derived.Test.YtjcjedolhejnaaaGreatDoorMem6
import Derived.Test.YtjcjedolhejnaaaGreatDoorInts
import Derived.Shelf.Strings.Shaped
import Derived.Shelf.Small.Wraps
import Derived.Test.YtjcjedolhejnaaaGreatDoorSkX
import Derived.Shelf.Strings.Prefix
import Derived.Test.YtjcjedolhejnaaaGreatDoorJnAq
import Derived.Test.YtjcjedolhejnaaaGreatDoorMem2
import Derived.Test.YtjcjedolhejnaaaGreatDoorMem8
import Derived.Test.YtjcjedolhejnaaaGreatDoorSkY
import Derived.StillTailTactics
import Derived.Test.YtjcjedolhejnaaaGreatDoorStSq
import Derived.Test.YtjcjedolhejnaaaGreatDoorMem
import Derived.ProofKit
import Derived.OpenShut
import Derived.Deep.Slices
import Derived.Deep.Fields
import Derived.ChangeSame
import Derived.Lib.SmallJoins
namespace Go.Proofs.YtjcjedolhejnaaaGreatDoor
open Go.RowKit

theorem index_at {l r : List UInt8} {c : UInt8} (h : c ∉ l) : Lib.index (l ++ c :: r) [c] = (l.length : Int) := by
  rw [Lib.index_one]
  have e0 : (l ++ c :: r)[l.length]? = some c := by rw [List.getElem?_append_right (Nat.le_refl _)]; simp
  have hs : (⟨(l ++ c :: r).toArray⟩ : ByteArray).data.toList = l ++ c :: r := rfl
  have hix : Lib.indexB ⟨(l ++ c :: r).toArray⟩ ⟨#[c]⟩ = Lib.indexByte (l ++ c :: r) c := Lib.index_one _ c
  rcases Lib.indexB_cases ⟨(l ++ c :: r).toArray⟩ ⟨#[c]⟩ with h1 | ⟨i, h1, _⟩
  · rw [hix] at h1
    exact absurd e0 (Lib.indexByte_none h1 _)
  · rw [hix] at h1
    obtain ⟨h2, h3⟩ := Lib.indexByte_some h1
    rw [h1]
    rcases Nat.lt_trichotomy i l.length with h4 | h4 | h4
    · rw [List.getElem?_append_left h4] at h2
      exact absurd (List.mem_of_getElem? h2) h
    · rw [h4]
    · exact absurd e0 (h3 _ h4)
theorem cut_len (s p : List UInt8) : (Lib.cut s p).1.length ≤ s.length ∧ (Lib.cut s p).2.1.length ≤ s.length := by
  unfold Lib.cut
  split
  · constructor
    · simp only [List.length_take]; omega
    · simp only [List.length_drop]; omega
  · simp
theorem cut_any (s : ByteArray) (c : UInt8) (w : World) (hs : s.size ≤ 1048576) (he : Env w) :
    Calls Tryz.prog 67 #[.string s, .string ⟨#[c]⟩] w fun e w' => ∃ a b f, e = .returned (.tuple #[.string a, .string b, .bool f]) ∧ (a.size ≤ 1048576 ∧ b.size ≤ 1048576) ∧ Hid (∀ l r : List UInt8, c ∉ l → s.data.toList = l ++ c :: r → a = ⟨l.toArray⟩ ∧ b = ⟨r.toArray⟩) ∧ Below w.heap.size w w' := by
  obtain ⟨m, hm⟩ := he.len
  have hsl : s.data.toList.length = s.size := ba_len s
  obtain ⟨h1, h2⟩ := cut_len s.data.toList [c]
  refine (Any.strings_Cut { Tryz.laysCut with } s ⟨#[c]⟩ m w (by omega) hm).mono fun e w' ⟨hr, q, hw⟩ => ⟨_, _, _, hr, ⟨?_, ?_⟩, fun l r hn hl => ?_, by rw [hw]; exact bl_drewN (bl_refl _) _⟩
  · show (Lib.cut s.data.toList [c]).1.toArray.size ≤ _
    rw [List.size_toArray]; omega
  · show (Lib.cut s.data.toList [c]).2.1.toArray.size ≤ _
    rw [List.size_toArray]; omega
  · have e1 : Lib.cut s.data.toList [c] = (l, r, true) := by
      unfold Lib.cut
      rw [hl, index_at hn, if_pos (by omega)]
      simp
    show (⟨(Lib.cut s.data.toList [c]).1.toArray⟩ : ByteArray) = _ ∧ (⟨(Lib.cut s.data.toList [c]).2.1.toArray⟩ : ByteArray) = _
    rw [e1]
    exact ⟨rfl, rfl⟩
theorem splitO_any (s : ByteArray) (c : UInt8) (w : World) (hs : s.size ≤ 1048576) (he : Env w) :
    Calls Tryz.prog 87 #[.string s, .string ⟨#[c]⟩] w (RetOwn w 9 (cutB c s)) := by
  obtain ⟨m, hm⟩ := he.len
  refine (Any.strings_Split { Tryz.laysSplit with } Tryz.laysSplit.i9 s ⟨#[c]⟩ m w (by omega) hm (Nat.le_refl 1)).mono fun e w' ⟨h1, h2⟩ => ?_
  have hl : Lib.countB s ⟨#[c]⟩ + 1 = (cutB c s).length := by rw [← splitB_cut c s.size s (Nat.le_refl _), Lib.splitB_all ⟨#[c]⟩ (Nat.le_refl 1) 0 _ s rfl]
  rw [hl] at h1
  rw [splitB_cut c s.size s (Nat.le_refl _)] at h2
  have hcl : cellsOf (cutB c s) = (cutB c s).map (fun s => Value.string s) := by
    induction (cutB c s) with
    | nil => rfl
    | cons a l ih =>
      have h : cellsOf (a :: l) = Flat.enc a ++ cellsOf l := rfl
      rw [h, ih]; rfl
  have hsz : Flat.sz ByteArray = 1 := rfl
  have hcs : (cutB c s).length ≤ s.size + 1 := by rw [← hl]; have := Lib.countB_le ⟨#[c]⟩ (Nat.le_refl 1) s.size s (Nat.le_refl _); omega
  refine ⟨some ⟨w.heap.size, 0, none⟩, (cutB c s).length, h1, ?_, by rw [h2]; exact bl_alloc (bl_refl _) _⟩
  unfold Own
  rw [hcl, hsz]
  refine ⟨by simp, .inr ⟨w.heap.size, (cutB c s).length, ((cutB c s).map (fun s => Value.string s)).toArray, rfl, Nat.le_refl _, ?_, Nat.le_refl _, by unfold maxLen; omega, by simp, by simp only [Nat.mul_one]; exact List.take_of_length_le (by simp)⟩⟩
  rw [h2]
  simp only [World.alloc, Array.getElem?_push_size]
  rfl

end Go.Proofs.YtjcjedolhejnaaaGreatDoor

namespace Go.Proofs.YtjcjedolhejnaaaGreatDoor
open Go.RowKit

theorem splitA_piece (c : UInt8) (save : Nat) : ∀ (k : Nat) (s x : ByteArray), x ∈ Lib.splitB ⟨#[c]⟩ save k s → x.size ≤ s.size
  | 0, s, x, h => by
    rw [Lib.splitB_zero, List.mem_singleton] at h
    subst h; exact Nat.le_refl _
  | k + 1, s, x, h => by
    rcases Lib.indexB_cases s ⟨#[c]⟩ with h1 | ⟨i, h1, _⟩
    · rw [Lib.splitB_miss _ _ _ _ h1, List.mem_singleton] at h
      subst h; exact Nat.le_refl _
    · rw [Lib.splitB_hit _ _ _ _ _ h1] at h
      rcases List.mem_cons.1 h with rfl | h
      · rw [ByteArray.size_extract]; omega
      · have := splitA_piece c save k _ x h
        rw [ByteArray.size_extract] at this; omega
def partsA (s : ByteArray) : List ByteArray := Lib.splitB ⟨#[59]⟩ 1 (Lib.countB s ⟨#[59]⟩) s
theorem partsA_len (s : ByteArray) : (partsA s).length = Lib.countB s ⟨#[59]⟩ + 1 := Lib.splitB_all ⟨#[59]⟩ (Nat.le_refl 1) 1 _ s rfl
theorem partsA_nil {s : ByteArray} (h : s.data.toList = []) : partsA s = [⟨#[]⟩] := by
  have e : s = ⟨#[]⟩ := ba_ext h
  subst e
  have h1 : Lib.indexB ⟨#[]⟩ ⟨#[59]⟩ = -1 := by
    rcases Lib.indexB_cases ⟨#[]⟩ ⟨#[59]⟩ with h1 | ⟨i, _, h2⟩
    · exact h1
    · have e1 : (⟨#[59]⟩ : ByteArray).size = 1 := rfl
      have e2 : (⟨#[]⟩ : ByteArray).size = 0 := rfl
      rw [e1, e2] at h2; omega
  unfold partsA
  rw [Lib.splitB_miss _ _ _ _ h1]
theorem partsA_cons {s : ByteArray} {a r : List UInt8} (ha : (59 : UInt8) ∉ a) (h : s.data.toList = a ++ 59 :: r) : partsA s = ⟨(a ++ [59]).toArray⟩ :: partsA ⟨r.toArray⟩ := by
  have h1 : Lib.indexB s ⟨#[59]⟩ = (a.length : Int) := by
    show Lib.index s.data.toList [59] = _
    rw [h, index_at ha]
  have hl : s.data.toList.length = s.size := ba_len s
  have e1 : (⟨#[59]⟩ : ByteArray).size = 1 := rfl
  have e2 : s.extract (a.length + 1) s.size = ⟨r.toArray⟩ := by
    apply ba_ext
    rw [ba_ex, h]
    have e3 : (a ++ 59 :: r).drop (a.length + 1) = r := by
      rw [show a ++ 59 :: r = (a ++ [59]) ++ r by simp]
      rw [List.drop_left' (by simp)]
    rw [e3, List.take_of_length_le (by rw [h] at hl; simp at hl; omega)]
  have e4 : s.extract 0 (a.length + 1) = ⟨(a ++ [59]).toArray⟩ := by
    apply ba_ext
    rw [ba_ex, h, List.drop_zero]
    rw [show a ++ 59 :: r = (a ++ [59]) ++ r by simp, List.take_left' (by simp)]
  unfold partsA
  rw [Lib.countB_hit s ⟨#[59]⟩ a.length (Nat.le_refl 1) h1, e1, e2, Nat.add_comm 1, Lib.splitB_hit _ _ _ _ _ h1, e1, e2, e4]
theorem partsA_flat : ∀ (l : List Skill), (∀ x, x ∈ l → (59 : UInt8) ∉ skL x) → partsA ⟨(l.flatMap (fun x => skL x ++ [59])).toArray⟩ = l.map (fun x => ⟨(skL x ++ [59]).toArray⟩) ++ [⟨#[]⟩]
  | [], _ => partsA_nil rfl
  | x :: r, h => by
    rw [partsA_cons (a := skL x) (r := r.flatMap (fun x => skL x ++ [59])) (h x List.mem_cons_self) (by simp), partsA_flat r (fun y hy => h y (List.mem_cons_of_mem _ hy))]
    rfl
theorem partsA_good {s : ByteArray} {l : List Skill} (h : GoodK s l) : partsA s = l.map (fun x => ⟨(skL x ++ [59]).toArray⟩) ++ [⟨#[]⟩] := by
  have e : s = ⟨(l.flatMap (fun x => skL x ++ [59])).toArray⟩ := ba_ext (by rw [goodK_text h])
  rw [e, partsA_flat l (fun x hx => skL_no h hx)]
theorem splitAfter_any (s : ByteArray) (w : World) (hs : s.size ≤ 1048576) (he : Env w) :
    Calls Tryz.prog 66 #[.string s, .string ⟨#[59]⟩] w (RetOwn w 9 (partsA s)) := by
  obtain ⟨m, hm⟩ := he.len
  have hcb := Lib.countB_le ⟨#[59]⟩ (Nat.le_refl 1) s.size s (Nat.le_refl _)
  have hg : Calls Tryz.prog 84 #[.string s, .string ⟨#[59]⟩, .int .i64 1, .int .i64 (-1)] w fun e w' => e = .returned (.slice (some ⟨w.heap.size, 0, none⟩) (partsA s).length (partsA s).length) ∧ w' = w.alloc (.cells ((partsA s).map Value.string).toArray 9) := by
    have h := Any.strings_genSplit { Tryz.laysSplit with } Tryz.laysSplit.i9 s ⟨#[59]⟩ 1 (-1) (Lib.countB s ⟨#[59]⟩ + 1) m w (by omega) hm (Nat.le_refl 1) (Nat.le_refl 1) (by omega) (by omega) (by rw [if_pos (by omega)]; omega)
    refine h.mono fun e w' ⟨h1, h2⟩ => ?_
    have e1 : Lib.countB s ⟨#[59]⟩ + 1 - 1 = Lib.countB s ⟨#[59]⟩ := by omega
    rw [e1] at h1 h2
    have e2 : (partsA s).length = Lib.countB s ⟨#[59]⟩ + 1 := partsA_len s
    refine ⟨by rw [h1, e2]; unfold partsA at e2; rw [e2], ?_⟩
    rw [h2]
    have e3 : Lib.cellsOf (Lib.splitB ⟨#[59]⟩ 1 (Lib.countB s ⟨#[59]⟩) s) (Lib.countB s ⟨#[59]⟩ + 1) = ((partsA s).map Value.string).toArray := by
      unfold Lib.cellsOf partsA
      simp [Lib.splitB_all ⟨#[59]⟩ (Nat.le_refl 1) 1 _ s rfl]
    rw [e3]
    rfl
  obtain ⟨P, hP⟩ : ∃ P, P = partsA s := ⟨_, rfl⟩
  have hcs : P.length ≤ s.size + 1 := by rw [hP, partsA_len]; omega
  rw [← hP] at hg ⊢
  have HG := Lib.hid hg
  clear hg hP
  go_enter Tryz.func66, Tryz.ntmps66
  go_wp2_with fail
  refine HG.out.mono ?_
  rintro e V ⟨rfl, rfl⟩
  go_wp2
  go_ret
  refine ⟨some ⟨w.heap.size, 0, none⟩, P.length, rfl, ?_, bl_alloc (bl_refl _) _⟩
  unfold Own
  have hcl : cellsOf P = P.map (fun s => Value.string s) := by
    clear hcs HG
    induction P with
    | nil => rfl
    | cons a l ih =>
      have h : cellsOf (a :: l) = Flat.enc a ++ cellsOf l := rfl
      rw [h, ih]; rfl
  have hsz : Flat.sz ByteArray = 1 := rfl
  rw [hcl, hsz]
  refine ⟨by simp, .inr ⟨w.heap.size, P.length, (P.map (fun s => Value.string s)).toArray, rfl, Nat.le_refl _, ?_, Nat.le_refl _, by unfold maxLen; omega, by simp, by simp only [Nat.mul_one]; exact List.take_of_length_le (by simp)⟩⟩
  simp only [World.alloc, Array.getElem?_push_size]
theorem trimSuffix_any (s : ByteArray) (w : World) (hs : s.size ≤ 1048576) :
    Calls Tryz.prog 68 #[.string s, .string ⟨#[59]⟩] w fun e w' => ∃ a, e = .returned (.string a) ∧ a.size ≤ 1048576 ∧ Hid (∀ l : List UInt8, s.data.toList = l ++ [59] → a = ⟨l.toArray⟩) ∧ w' = w := by
  have hsl : s.data.toList.length = s.size := ba_len s
  refine (Any.strings_TrimSuffix Tryz.laysTrimSuffix s ⟨#[59]⟩ w (by omega)).mono fun e w' ⟨hr, hw⟩ => ⟨_, hr, ?_, fun l hl => ?_, hw⟩
  · show (Lib.trimSuffix s.data.toList [59]).toArray.size ≤ _
    rw [List.size_toArray]
    unfold Lib.trimSuffix
    split
    · simp only [List.length_take]; omega
    · omega
  · have e1 : Lib.hasSuffix s.data.toList [59] = true := by
      unfold Lib.hasSuffix
      rw [List.isSuffixOf_iff_suffix, hl]
      exact List.suffix_append _ _
    show (⟨(Lib.trimSuffix s.data.toList [59]).toArray⟩ : ByteArray) = _
    unfold Lib.trimSuffix
    rw [if_pos e1, hl]
    simp

end Go.Proofs.YtjcjedolhejnaaaGreatDoor

namespace Go.Proofs.YtjcjedolhejnaaaGreatDoor
open Go.RowKit

theorem cutL_piece (c : UInt8) : ∀ (l : List UInt8) (p : List UInt8), p ∈ cutL c l → p.length ≤ l.length
  | [], p, h => by
    simp only [cutL, List.mem_singleton] at h
    subst h; exact Nat.le_refl _
  | b :: l, p, h => by
    have ih := cutL_piece c l
    unfold cutL at h
    split at h
    · rcases List.mem_cons.1 h with rfl | h
      · exact Nat.zero_le _
      · have := ih p h; rw [List.length_cons]; omega
    · split at h
      · rename_i h2; exact absurd h2 (cutL_ne c l)
      · rename_i q qs h2
        rcases List.mem_cons.1 h with rfl | h
        · have := ih q (by rw [h2]; exact List.mem_cons_self)
          rw [List.length_cons, List.length_cons]; omega
        · have := ih p (by rw [h2]; exact List.mem_cons_of_mem _ h)
          rw [List.length_cons]; omega
theorem cut_piece {c : UInt8} {s x : ByteArray} (h : x ∈ cutB c s) : x.size ≤ s.size := by
  unfold cutB at h
  rw [List.mem_map] at h
  obtain ⟨l, hl, rfl⟩ := h
  have := cutL_piece c _ l hl
  rw [ba_len] at this
  show l.toArray.size ≤ _
  rw [List.size_toArray]; exact this
def RnPost (P : List ByteArray) (w : World) (e : Ending) (w' : World) : Prop :=
  ∃ A n c' L ok, e = .returned (.tuple #[.slice A n c', .bool ok]) ∧ n ≤ 1048577 ∧ Sl w' A n L ∧ (∀ k, k < n → -9223372036854775808 ≤ nth L k ∧ nth L k ≤ 9223372036854775807) ∧ Below w.heap.size w w' ∧ Hid (∀ ns : List Nat, (∀ u ∈ ns, u < 1000000) → P = ns.map (fun u : Nat => itB (u : Int)) → ok = true ∧ L = ns.map (fun u : Nat => (u : Int)))
set_option maxRecDepth 100000 in
set_option maxHeartbeats 4000000 in
theorem readNumbers_any (s : ByteArray) (c : UInt8) (w : World) (hs : s.size ≤ 1048576) (he : Env w) :
    Calls Tryz.prog 69 #[.string s, .string ⟨#[c]⟩] w (RnPost (cutB c s) w) := by
  have hbig : ∀ x, x ∈ cutB c s → x.size ≤ 1048576 := fun x hx => by
    have := cut_piece hx
    omega
  have HBG := Lib.hid hbig
  have hcn : (cutB c s).length ≤ 1048577 := by
    have hl : Lib.countB s ⟨#[c]⟩ + 1 = (cutB c s).length := by rw [← splitB_cut c s.size s (Nat.le_refl _), Lib.splitB_all ⟨#[c]⟩ (Nat.le_refl 1) 0 _ s rfl]
    have := Lib.countB_le ⟨#[c]⟩ (Nat.le_refl 1) s.size s (Nat.le_refl _)
    omega
  have HSP : Hid (Calls Tryz.prog 87 #[.string s, .string ⟨#[c]⟩] w (RetOwn w 9 (cutB c s))) := splitO_any s c w hs he
  obtain ⟨P, hP⟩ : ∃ P, P = cutB c s := ⟨_, rfl⟩
  rw [← hP] at HBG HSP hcn ⊢
  have HE := Lib.hid he
  clear hP hbig he
  go_enter Tryz.func69, Tryz.ntmps69
  go_wp2_with fail
  refine HSP.out.mono ?_
  rintro e V ⟨A, cc, rfl, ho, hV⟩
  have HS := Lib.hid ho.sl
  have HV1 := Lib.hid hV
  clear ho hV
  go_wp2
  go_loopw [6, 15] (fun v iv wr => ∃ (i c' : Nat) (A' : Option Addr) (L : List Int), i ≤ P.length ∧ iv = .int .i64 i ∧ v = .slice A' i c' ∧ Own wr V.heap.size 3 (.slice A' i c') L ∧ (∀ k, k < i → -9223372036854775808 ≤ nth L k ∧ nth L k ≤ 9223372036854775807) ∧ Hid (∀ ns : List Nat, (∀ u ∈ ns, u < 1000000) → P = ns.map (fun u : Nat => itB (u : Int)) → L = (ns.take i).map (fun u : Nat => (u : Int))) ∧ Below V.heap.size V wr) (fun _ iv _ => P.length - (intOf iv).toNat)
  case atStart => exact ⟨0, 0, none, [], Nat.zero_le _, rfl, rfl, Own.nil _ _ _, fun k hk => absurd hk (by omega), fun ns _ _ => rfl, bl_refl _⟩
  case round =>
    obtain ⟨i, c', A', L, hi, rfl, rfl, ho, hbd, hL, hbV⟩ := hrel
    have hb := bl_trans HV1.out hbV
    by_cases hlt : i < P.length
    · obtain ⟨b, o, rfl, hbz, c0⟩ := (HS.out.below hbV).str hlt
      have hsz := HBG.out _ (nth_mem hlt)
      have HBD := Lib.hid hbd
      clear hbd
      go_wp2_with fail
      refine (readNumber_any (nth P i) _ hsz (HE.out.below hb)).mono ?_
      rintro e V2 ⟨v, ok, rfl, ⟨v0, v1⟩, hq, hb2⟩
      have hoV := ho.below hb2
      have hbw := bl_trans hb hb2
      have hbw2 := bl_trans hbV hb2
      clear c0 ho hb2
      cases ok
      · have HF : Hid (∀ ns : List Nat, (∀ u ∈ ns, u < 1000000) → P = ns.map (fun u : Nat => itB (u : Int)) → false = true ∧ ([] : List Int) = ns.map (fun u : Nat => (u : Int))) := fun ns h1 h2 => by
          have hin : i < ns.length := by have := congrArg List.length h2; rw [List.length_map] at this; omega
          have e1 : nth P i = itB ((nth ns i : Nat) : Int) := nth_get (by rw [h2, List.getElem?_map, get_nth hin]; rfl)
          have := (hq.out.1 (nth ns i) (h1 _ (nth_mem hin)) e1).2
          cases this
        go_wp2
        go_ret2
        exact ⟨none, 0, 0, [], false, rfl, by omega, ⟨rfl, fun k x hx => by simp at hx⟩, fun k hk => absurd hk (by omega), hbw, HF.out⟩
      · go_wp2_with ((at_builtin; refine wpList_app1g rfl (.tmp 26) (.tmp 28) _ _ rfl el_int v rfl hoV hbw2 rfl (by simp) (by omega) ?_; intro A3 c3 w2 ho3 hb3 hg3))
        go_roundw
        case rel =>
          have hll : L.length = i := hoV.sl.1
          refine ⟨i + 1, c3, A3, L ++ [v], by omega, by go_num, rfl, ho3, fun k hk => ?_, fun ns h1 h2 => ?_, hb3⟩
          · by_cases e : k < i
            · have e2 : nth (L ++ [v]) k = nth L k := nth_get (by rw [List.getElem?_append_left (by omega)]; exact get_nth (by omega))
              rw [e2]; exact HBD.out k e
            · have e3 : k = L.length := by omega
              subst e3
              have e2 : nth (L ++ [v]) L.length = v := nth_get (by rw [List.getElem?_append_right (Nat.le_refl _)]; simp)
              rw [e2]; exact ⟨v0, v1⟩
          · have hin : i < ns.length := by have := congrArg List.length h2; rw [List.length_map] at this; omega
            have e1 : nth P i = itB ((nth ns i : Nat) : Int) := nth_get (by rw [h2, List.getElem?_map, get_nth hin]; rfl)
            have e2 := (hq.out.1 (nth ns i) (h1 _ (nth_mem hin)) e1).1
            rw [take_succ hin, List.map_append, hL.out ns h1 h2, e2]
            rfl
        case measure => simp [intOf]; omega
    · obtain rfl : i = P.length := by omega
      have HBD := Lib.hid hbd
      clear hbd
      go_wp2
      go_ret2
      exact ⟨A', P.length, c', L, true, rfl, hcn, ho.sl, HBD.out, hb, fun ns h1 h2 => ⟨rfl, by rw [hL.out ns h1 h2, List.take_of_length_le (by have := congrArg List.length h2; rw [List.length_map] at this; omega)]⟩⟩

end Go.Proofs.YtjcjedolhejnaaaGreatDoor

namespace Go.Proofs.YtjcjedolhejnaaaGreatDoor
open Go.RowKit

def RnPostO (P : List ByteArray) (w : World) (e : Ending) (w' : World) : Prop :=
  ∃ A n c' L ok, e = .returned (.tuple #[.slice A n c', .bool ok]) ∧ n ≤ 1048577 ∧ Own w' w.heap.size 3 (.slice A n c') L ∧ (∀ k, k < n → -9223372036854775808 ≤ nth L k ∧ nth L k ≤ 9223372036854775807) ∧ Below w.heap.size w w' ∧ Hid (∀ ns : List Nat, (∀ u ∈ ns, u < 1000000) → P = ns.map (fun u : Nat => itB (u : Int)) → ok = true ∧ L = ns.map (fun u : Nat => (u : Int)))
set_option maxRecDepth 100000 in
set_option maxHeartbeats 4000000 in
theorem readNumbersO_any (s : ByteArray) (c : UInt8) (w : World) (hs : s.size ≤ 1048576) (he : Env w) :
    Calls Tryz.prog 69 #[.string s, .string ⟨#[c]⟩] w (RnPostO (cutB c s) w) := by
  have hbig : ∀ x, x ∈ cutB c s → x.size ≤ 1048576 := fun x hx => by
    have := cut_piece hx
    omega
  have HBG := Lib.hid hbig
  have hcn : (cutB c s).length ≤ 1048577 := by
    have hl : Lib.countB s ⟨#[c]⟩ + 1 = (cutB c s).length := by rw [← splitB_cut c s.size s (Nat.le_refl _), Lib.splitB_all ⟨#[c]⟩ (Nat.le_refl 1) 0 _ s rfl]
    have := Lib.countB_le ⟨#[c]⟩ (Nat.le_refl 1) s.size s (Nat.le_refl _)
    omega
  have HSP : Hid (Calls Tryz.prog 87 #[.string s, .string ⟨#[c]⟩] w (RetOwn w 9 (cutB c s))) := splitO_any s c w hs he
  obtain ⟨P, hP⟩ : ∃ P, P = cutB c s := ⟨_, rfl⟩
  rw [← hP] at HBG HSP hcn ⊢
  have HE := Lib.hid he
  clear hP hbig he
  go_enter Tryz.func69, Tryz.ntmps69
  go_wp2_with fail
  refine HSP.out.mono ?_
  rintro e V ⟨A, cc, rfl, ho, hV⟩
  have HS := Lib.hid ho.sl
  have HV1 := Lib.hid hV
  clear ho hV
  go_wp2
  go_loopw [6, 15] (fun v iv wr => ∃ (i c' : Nat) (A' : Option Addr) (L : List Int), i ≤ P.length ∧ iv = .int .i64 i ∧ v = .slice A' i c' ∧ Own wr V.heap.size 3 (.slice A' i c') L ∧ (∀ k, k < i → -9223372036854775808 ≤ nth L k ∧ nth L k ≤ 9223372036854775807) ∧ Hid (∀ ns : List Nat, (∀ u ∈ ns, u < 1000000) → P = ns.map (fun u : Nat => itB (u : Int)) → L = (ns.take i).map (fun u : Nat => (u : Int))) ∧ Below V.heap.size V wr) (fun _ iv _ => P.length - (intOf iv).toNat)
  case atStart => exact ⟨0, 0, none, [], Nat.zero_le _, rfl, rfl, Own.nil _ _ _, fun k hk => absurd hk (by omega), fun ns _ _ => rfl, bl_refl _⟩
  case round =>
    obtain ⟨i, c', A', L, hi, rfl, rfl, ho, hbd, hL, hbV⟩ := hrel
    have hb := bl_trans HV1.out hbV
    by_cases hlt : i < P.length
    · obtain ⟨b, o, rfl, hbz, c0⟩ := (HS.out.below hbV).str hlt
      have hsz := HBG.out _ (nth_mem hlt)
      have HBD := Lib.hid hbd
      clear hbd
      go_wp2_with fail
      refine (readNumber_any (nth P i) _ hsz (HE.out.below hb)).mono ?_
      rintro e V2 ⟨v, ok, rfl, ⟨v0, v1⟩, hq, hb2⟩
      have hoV := ho.below hb2
      have hbw := bl_trans hb hb2
      have hbw2 := bl_trans hbV hb2
      clear c0 ho hb2
      cases ok
      · have HF : Hid (∀ ns : List Nat, (∀ u ∈ ns, u < 1000000) → P = ns.map (fun u : Nat => itB (u : Int)) → false = true ∧ ([] : List Int) = ns.map (fun u : Nat => (u : Int))) := fun ns h1 h2 => by
          have hin : i < ns.length := by have := congrArg List.length h2; rw [List.length_map] at this; omega
          have e1 : nth P i = itB ((nth ns i : Nat) : Int) := nth_get (by rw [h2, List.getElem?_map, get_nth hin]; rfl)
          have := (hq.out.1 (nth ns i) (h1 _ (nth_mem hin)) e1).2
          cases this
        go_wp2
        go_ret2
        exact ⟨none, 0, 0, [], false, rfl, by omega, Own.nil _ _ _, fun k hk => absurd hk (by omega), hbw, HF.out⟩
      · go_wp2_with ((at_builtin; refine wpList_app1g rfl (.tmp 26) (.tmp 28) _ _ rfl el_int v rfl hoV hbw2 rfl (by simp) (by omega) ?_; intro A3 c3 w2 ho3 hb3 hg3))
        go_roundw
        case rel =>
          have hll : L.length = i := hoV.sl.1
          refine ⟨i + 1, c3, A3, L ++ [v], by omega, by go_num, rfl, ho3, fun k hk => ?_, fun ns h1 h2 => ?_, hb3⟩
          · by_cases e : k < i
            · have e2 : nth (L ++ [v]) k = nth L k := nth_get (by rw [List.getElem?_append_left (by omega)]; exact get_nth (by omega))
              rw [e2]; exact HBD.out k e
            · have e3 : k = L.length := by omega
              subst e3
              have e2 : nth (L ++ [v]) L.length = v := nth_get (by rw [List.getElem?_append_right (Nat.le_refl _)]; simp)
              rw [e2]; exact ⟨v0, v1⟩
          · have hin : i < ns.length := by have := congrArg List.length h2; rw [List.length_map] at this; omega
            have e1 : nth P i = itB ((nth ns i : Nat) : Int) := nth_get (by rw [h2, List.getElem?_map, get_nth hin]; rfl)
            have e2 := (hq.out.1 (nth ns i) (h1 _ (nth_mem hin)) e1).1
            rw [take_succ hin, List.map_append, hL.out ns h1 h2, e2]
            rfl
        case measure => simp [intOf]; omega
    · obtain rfl : i = P.length := by omega
      have HBD := Lib.hid hbd
      clear hbd
      go_wp2
      go_ret2
      exact ⟨A', P.length, c', L, true, rfl, hcn, ho.mono HV1.out.size, HBD.out, hb, fun ns h1 h2 => ⟨rfl, by rw [hL.out ns h1 h2, List.take_of_length_le (by have := congrArg List.length h2; rw [List.length_map] at this; omega)]⟩⟩


end Go.Proofs.YtjcjedolhejnaaaGreatDoor

namespace Go.Proofs.YtjcjedolhejnaaaGreatDoor
open Go.RowKit

theorem ez_skillq : ElemZ Tryz.prog 24 62 (default : Skill) := elemZ_mk Tryz.underlying24 (by kernel_rfl)
theorem el_skillq : Elem Tryz.prog 24 62 (Flat.sz Skill) := ez_skillq.elem
theorem pkF_make {s : ByteArray} {l : List Skill} (h : skillsB l = true) (h2 : sameB (skText l l.length) s = true) : pkF s = (l, true) := pkF_yes ⟨h, sameB_iff.1 h2⟩
theorem pk_bad1 {s : ByteArray} {L : List Skill} (h : ∀ l, GoodK s l → L = l) (hi : skillsB L = false) : ∀ l, ¬ GoodK s l := fun l hl => by
  obtain rfl := h l hl
  rw [hl.1] at hi; cases hi
theorem pk_bad2 {s : ByteArray} {L : List Skill} (h : ∀ l, GoodK s l → L = l) (hi : sameB (skText L L.length) s = false) : ∀ l, ¬ GoodK s l := fun l hl => by
  obtain rfl := h l hl
  rw [hl.2, sameB_refl] at hi; cases hi
theorem emp_eqK (m : ByteArray) : m.toList.isEmpty = decide (m.size = 0) := by
  have e0 : m.toList.isEmpty = sameB m ⟨#[]⟩ := by
    rw [← bytes_beq]
    have e2 : (⟨#[]⟩ : ByteArray).toList = [] := by rw [Lib.toList_data]
    rw [e2]
    cases m.toList <;> rfl
  rw [e0]
  cases hc : sameB m ⟨#[]⟩ with
  | true => rw [sameB_iff.1 hc]; rfl
  | false =>
    refine (decide_eq_false (fun h => ?_)).symm
    have h5 : m.data.toList.length = m.size := ba_len m
    have h6 : m.data.toList = [] := List.eq_nil_of_length_eq_zero (h5.trans h)
    have h7 : m = ⟨#[]⟩ := ba_ext h6
    rw [h7, sameB_refl] at hc; cases hc
theorem skL_size {x : Skill} : (⟨(skL x ++ [59]).toArray⟩ : ByteArray).size ≠ 0 := by
  show (skL x ++ [59]).toArray.size ≠ 0
  rw [List.size_toArray, List.length_append]; simp
/-- the pieces behind each semicolon, when a text is one of skills -/
theorem partsA_at {s : ByteArray} {l : List Skill} (h : GoodK s l) {i : Nat} (hi : i < (partsA s).length) : (i < l.length ∧ nth (partsA s) i = ⟨(skL (nth l i) ++ [59]).toArray⟩) ∨ (i = l.length ∧ nth (partsA s) i = ⟨#[]⟩) := by
  rw [partsA_good h] at hi ⊢
  simp only [List.length_append, List.length_map, List.length_cons, List.length_nil] at hi
  by_cases h1 : i < l.length
  · refine .inl ⟨h1, nth_get ?_⟩
    rw [List.getElem?_append_left (by rw [List.length_map]; exact h1), List.getElem?_map, get_nth h1]; rfl
  · have h2 : i = l.length := by omega
    refine .inr ⟨h2, nth_get ?_⟩
    rw [List.getElem?_append_right (by rw [List.length_map]; omega), List.length_map, h2]; simp
def restL (x : Skill) : List UInt8 := (itB x.Kind).data.toList ++ 47 :: (itB x.Until).data.toList
theorem skL_rest (x : Skill) : skL x = x.Person.data.toList ++ 47 :: restL x := rfl
theorem person_no {s : ByteArray} {l : List Skill} (h : GoodK s l) {x : Skill} (hx : x ∈ l) : (47 : UInt8) ∉ x.Person.data.toList := fun hm => by
  have := (person_bytes ((goodK_at h).2 x hx).1 _ hm).1
  exact absurd this (by decide)
theorem cut_rest {s : ByteArray} {l : List Skill} (h : GoodK s l) {x : Skill} (hx : x ∈ l) : cutB 47 ⟨(restL x).toArray⟩ = [itB x.Kind, itB x.Until] := by
  obtain ⟨h1, ⟨h2, _⟩, h3, _⟩ := (goodK_at h).2 x hx
  unfold cutB
  show (cutL 47 (restL x)).map _ = _
  unfold restL
  rw [cutL_app _ (digs_no h2 (by decide)), cutL_none (digs_no h3 (by decide))]
  rfl
theorem parts_small {s x : ByteArray} (h : x ∈ partsA s) : x.size ≤ s.size := splitA_piece 59 1 _ s x h
theorem l1Split_k59 (s : ByteArray) (w : World) (hs : s.size ≤ 1048576) : Calls Tryz.prog 70 #[.string s, .int .u8 59] w (RetOwn w 9 (cutB 59 s)) := l1Split_any s 59 w hs
theorem l1Split_k47 (s : ByteArray) (w : World) (hs : s.size ≤ 1048576) : Calls Tryz.prog 70 #[.string s, .int .u8 47] w (RetOwn w 9 (cutB 47 s)) := l1Split_any s 47 w hs
/-- what the parts of one piece are -/
theorem piece_parts {s : ByteArray} {l : List Skill} (h : GoodK s l) {i : Nat} (hi : i < l.length) : cutB 47 (nth (cutB 59 s) i) = [(nth l i).Person, itB (nth l i).Kind, itB (nth l i).Until] := by
  rw [cut_semis h]
  have e : nth (l.map (fun x => (⟨(skL x).toArray⟩ : ByteArray)) ++ [⟨#[]⟩]) i = ⟨(skL (nth l i)).toArray⟩ := by
    refine nth_get ?_
    rw [List.getElem?_append_left (by rw [List.length_map]; exact hi), List.getElem?_map, get_nth hi]; rfl
  rw [e]
  exact cut_slash h (nth_mem hi)
theorem rdV_n {n : Int} (h0 : 0 ≤ n) (h1 : n < 1000000) : rdV (itB n) = n := by
  obtain ⟨u, rfl⟩ := Int.eq_ofNat_of_zero_le h0
  exact rdV_it (by omega) rfl
theorem cutB_ne (c : UInt8) (s : ByteArray) : 1 ≤ (cutB c s).length := by
  have hl : Lib.countB s ⟨#[c]⟩ + 1 = (cutB c s).length := by rw [← splitB_cut c s.size s (Nat.le_refl _), Lib.splitB_all ⟨#[c]⟩ (Nat.le_refl 1) 0 _ s rfl]
  omega
theorem cutK_many {c : UInt8} {s : ByteArray} (hs : s.size ≤ 1048576) : (cutB c s).length ≤ 1048577 := by
  have hl : Lib.countB s ⟨#[c]⟩ + 1 = (cutB c s).length := by rw [← splitB_cut c s.size s (Nat.le_refl _), Lib.splitB_all ⟨#[c]⟩ (Nat.le_refl 1) 0 _ s rfl]
  have := Lib.countB_le ⟨#[c]⟩ (Nat.le_refl 1) s.size s (Nat.le_refl _)
  omega

end Go.Proofs.YtjcjedolhejnaaaGreatDoor

namespace Go.Proofs.YtjcjedolhejnaaaGreatDoor
open Go.RowKit

set_option maxRecDepth 100000 in
set_option maxHeartbeats 8000000 in
theorem implParseSkills_any (s : ByteArray) (w : World) (hs : s.size ≤ 1048576) (he : Env w) :
    Calls Tryz.prog 27 #[.string s] w (RetOwn2 w 62 (pkF s)) := by
  have HAT : Hid (∀ l, GoodK s l → ∀ i, i < (partsA s).length → (i < l.length ∧ nth (partsA s) i = ⟨(skL (nth l i) ++ [59]).toArray⟩) ∨ (i = l.length ∧ nth (partsA s) i = ⟨#[]⟩)) := fun l hl i hi => partsA_at hl hi
  have HLN : Hid (∀ l, GoodK s l → (partsA s).length = l.length + 1) := fun l hl => by rw [partsA_good hl]; simp
  have HBG : Hid (∀ x, x ∈ partsA s → x.size ≤ 1048576) := fun x hx => by have := parts_small hx; omega
  have hcn : (partsA s).length ≤ 1048577 := by
    rw [partsA_len]
    have := Lib.countB_le ⟨#[59]⟩ (Nat.le_refl 1) s.size s (Nat.le_refl _)
    omega
  have HSP : Hid (Calls Tryz.prog 66 #[.string s, .string ⟨#[59]⟩] w (RetOwn w 9 (partsA s))) := splitAfter_any s w hs he
  obtain ⟨P, hP⟩ : ∃ P, P = partsA s := ⟨_, rfl⟩
  rw [← hP] at HAT HLN HBG HSP hcn
  have HE := Lib.hid he
  clear hP he
  go_enter Tryz.func27, Tryz.ntmps27
  go_wp2_with fail
  refine HSP.out.mono ?_
  rintro e V ⟨A, cc, rfl, ho, hV⟩
  have HS := Lib.hid ho.sl
  have HV1 := Lib.hid hV
  have hV0 := hV.size
  clear ho hV
  go_wp2
  go_loopw [4, 15] (fun v iv wr => ∃ (i c' : Nat) (A' : Option Addr) (L : List Skill), i ≤ P.length ∧ iv = .int .i64 i ∧ v = .slice A' L.length c' ∧ Own wr V.heap.size 62 (.slice A' L.length c') L ∧ L.length ≤ i ∧ (∀ x, x ∈ L → x.Person.size ≤ 1048576) ∧ Hid (∀ l, GoodK s l → L = l.take i) ∧ Below V.heap.size V wr) (fun _ iv _ => P.length - (intOf iv).toNat)
  case atStart => exact ⟨0, 0, none, [], Nat.zero_le _, rfl, rfl, Own.nil _ _ _, Nat.le_refl _, fun x hx => by simp at hx, fun l _ => rfl, bl_refl _⟩
  case round =>
    obtain ⟨i, c', A', L, hi, rfl, rfl, ho, hLi, hpz, hL, hbV⟩ := hrel
    have hb := bl_trans HV1.out hbV
    by_cases hlt : i < P.length
    · obtain ⟨b, o, rfl, hbz, c0⟩ := (HS.out.below hbV).str hlt
      have hsz := HBG.out _ (nth_mem hlt)
      have HVL := Lib.hid hpz
      have hem := emp_eqK (nth P i)
      have HPI : Hid (∀ l, GoodK s l → (i < l.length ∧ nth P i = ⟨(skL (nth l i) ++ [59]).toArray⟩) ∨ (i = l.length ∧ nth P i = ⟨#[]⟩)) := fun l hl => HAT.out l hl i hlt
      obtain ⟨p, hp⟩ : ∃ p, p = nth P i := ⟨_, rfl⟩
      rw [← hp] at HPI hem hsz c0
      clear hpz hp
      by_cases hz0 : p.size = 0
      · rw [decide_eq_true hz0] at hem
        have HR : Hid (∀ l, GoodK s l → L = l.take (i + 1)) := fun l hl => by
          rcases HPI.out l hl with ⟨_, e⟩ | ⟨e, _⟩
          · rw [e] at hz0; exact absurd hz0 skL_size
          · rw [hL.out l hl, e, List.take_length, List.take_of_length_le (by omega)]
        clear hz0
        go_wp2
        go_roundw
        case rel => exact ⟨i + 1, c', A', L, by omega, by go_num, rfl, ho, by omega, HVL.out, HR.out, hbV⟩
        case measure => simp [intOf]; omega
      · rw [decide_eq_false hz0] at hem
        have HPJ : Hid (∀ l, GoodK s l → i < l.length ∧ p = ⟨(skL (nth l i) ++ [59]).toArray⟩) := fun l hl => by
          rcases HPI.out l hl with h | ⟨_, e⟩
          · exact h
          · rw [e] at hz0; exact absurd rfl hz0
        clear hz0 HPI
        go_wp2_with fail
        refine (trimSuffix_any p _ hsz).mono ?_
        rintro _ V2 ⟨a, rfl, ha, K1, hw2⟩
        obtain rfl := hw2
        have HK1 : Hid (∀ l, GoodK s l → a = ⟨(skL (nth l i)).toArray⟩) := fun l hl => K1.out _ (by rw [(HPJ.out l hl).2])
        clear K1 c0
        go_wp2_with fail
        refine (cut_any a 47 _ ha (HE.out.below hb)).mono ?_
        rintro e V3 ⟨h, m, fd, rfl, ⟨hh, hm⟩, K2, hb3⟩
        have HK2 : Hid (∀ l, GoodK s l → h = (nth l i).Person ∧ m = ⟨(restL (nth l i)).toArray⟩) := fun l hl => by
          have hin := nth_mem (HPJ.out l hl).1
          obtain ⟨e1, e2⟩ := K2.out (nth l i).Person.data.toList (restL (nth l i)) (person_no hl hin) (by rw [HK1.out l hl, ← skL_rest])
          exact ⟨by rw [e1], e2⟩
        have hb4 := bl_trans hb hb3
        have hbV4 := bl_trans hbV hb3
        have ho4 := ho.below hb3
        clear K2 HK1 ho hb hbV hb3
        go_wp2_with fail
        refine (readNumbersO_any m 47 _ hm (HE.out.below hb4)).mono ?_
        rintro e V4 ⟨A1, n1, c1, N, ok, rfl, hn1, hoN, hbd, hb5, K3⟩
        have hsl := hoN.sl
        have hbn := fun g (hg : A1 = some ⟨g, 0, none⟩) => hoN.lt g (by rw [hg]; rfl)
        have hbo := fun g hg => ho4.lt g hg
        have hf1 := hoN.form
        have HG : Hid (∀ l, GoodK s l → ok = true ∧ N = [(nth l i).Kind, (nth l i).Until]) := fun l hl => by
          have hin := nth_mem (HPJ.out l hl).1
          obtain ⟨_, ⟨k0, k1⟩, u0, u1⟩ := (goodK_at hl).2 _ hin
          obtain ⟨u, hu⟩ := Int.eq_ofNat_of_zero_le k0
          obtain ⟨v, hv⟩ := Int.eq_ofNat_of_zero_le u0
          have := K3.out [u, v] (fun y hy => by simp only [List.mem_cons, List.mem_nil_iff, or_false] at hy; omega) (by rw [(HK2.out l hl).2, cut_rest hl hin, hu, hv]; rfl)
          rw [hu, hv]
          exact this
        have hb6 := bl_trans hb4 hb5
        have hbV6 := bl_trans hbV4 hb5
        have ho6 := ho4.below hb5
        have HSL := Lib.hid hsl
        have HBD := Lib.hid hbd
        clear K3 hsl hbd ho4 hb4 hbV4 hb5 hoN
        cases ok
        · clear hbn hbo hf1
          have HN : Hid (∀ l, ¬ GoodK s l) := fun l hl => by have := (HG.out l hl).1; cases this
          go_wp2
          go_ret2
          exact retOwn2_mk (pkF_no HN.out) (Own.nil _ _ _) hb6
        · by_cases hl2 : n1 = 2
          · subst hl2
            obtain ⟨g1, hg1⟩ := hf1 (by omega)
            have hgb := (hbn g1 hg1).1
            obtain ⟨b1, o1, rfl, hbz1, d0⟩ := HSL.out.int (k := 0) (by omega)
            have hg2 : b1 = g1 := by injection hg1 with hg1; injection hg1
            subst hg2
            clear hbn hf1 hg1
            obtain ⟨b', o', e', _, d1⟩ := HSL.out.int (k := 1) (by omega)
            injection e' with e'
            injection e' with e1 e2
            subst e1 e2
            have d0 : V4.cell? ⟨b1, o1, none⟩ = some (.int .i64 (nth N 0)) := d0
            obtain ⟨q, hq⟩ : ∃ q, q = nth N 0 := ⟨_, rfl⟩
            obtain ⟨r, hr⟩ : ∃ r, r = nth N 1 := ⟨_, rfl⟩
            rw [← hq] at d0
            rw [← hr] at d1
            have HX : Hid (∀ l, GoodK s l → L ++ [⟨h, q, r⟩] = l.take (i + 1)) := fun l hl => by
              have e1 := (HG.out l hl).2
              have e2 : q = (nth l i).Kind := by rw [hq, e1]; rfl
              have e3 : r = (nth l i).Until := by rw [hr, e1]; rfl
              rw [take_succ (HPJ.out l hl).1, hL.out l hl, (HK2.out l hl).1, e2, e3]
            have hcc : (1 : Nat) < 2 := by omega
            clear hq hr
            go_upto_region 10 with fail
            have hD := bl_drew (bl_refl V4)
            go_region_held3 (fun w' => w'.cell? ⟨b1, o1, none⟩ = some (.int .i64 q) ∧ w'.cell? ⟨b1, o1 + 1, none⟩ = some (.int .i64 r)) (first | exact ⟨cell_later hD d0, cell_later hD d1⟩ | exact ⟨cell_later (bl_alloc hD _) d0, cell_later (bl_alloc hD _) d1⟩ | exact ⟨f0, f1⟩ | go_keep)
              (first | (refine step_appB rfl (.tmp 40) (.tmp 49) _ _ rfl el_skillq (xs := L) (ys := [(⟨h, q, r⟩ : Skill)]) (w0 := V) rfl rfl (ho6.below (bl_alloc hD _)) (bl_trans hbV6 (bl_alloc hD _)) (sl_skill1 (by go_simp) (by go_simp) (by go_simp)) (by omega) ?_; (intro A3 c3 V7 ho7 hbV7 hg7); have f0 := (hg7.cell_far _ (Nat.lt_of_lt_of_le hbz1 (bl_alloc hD _).size) (fun h => by have := (hbo _ h.symm).2; exact absurd this (by simp only []; omega))).trans (cell_later (bl_alloc hD _) d0); have f1 := (hg7.cell_far _ (Nat.lt_of_lt_of_le hbz1 (bl_alloc hD _).size) (fun h => by have := (hbo _ h.symm).2; exact absurd this (by simp only []; omega))).trans (cell_later (bl_alloc hD _) d1)))
            go_wp2
            go_roundw
            case rel => exact ⟨i + 1, c3, A3, L ++ [⟨h, q, r⟩], by omega, by go_num, by simp, by simpa using ho7, by simp; omega, fun x hx => by rcases List.mem_append.1 hx with hx | hx; exact HVL.out x hx; rw [List.mem_singleton.1 hx]; exact hh, HX, hbV7⟩
            case measure => simp [intOf]; omega
          · clear hbn hbo hf1
            have hd : ((n1 : Int) != 2) = true := by simp; omega
            have HN : Hid (∀ l, ¬ GoodK s l) := fun l hl => by have h1 := (HG.out l hl).2; have h2 := HSL.out.1; rw [h1] at h2; exact hl2 h2.symm
            go_wp2
            go_ret2
            exact retOwn2_mk (pkF_no HN.out) (Own.nil _ _ _) hb6
    · obtain rfl : i = P.length := by omega
      have hL : Hid (∀ l, GoodK s l → L = l) := fun l hl => by rw [hL.out l hl, HLN.out l hl, List.take_of_length_le (by omega)]
      clear hlt
      have HLW := Lib.hid hL
      have HVL := Lib.hid hpz
      clear hL hpz
      go_wp2_with fail
      refine (areSkills_any L A' L.length c' _ (by omega) ho.sl (fun x hx => by have := HVL.out x hx; unfold maxLen; omega)).mono ?_
      rintro e V3 ⟨rfl, hb3⟩
      have hb4 := bl_trans hb hb3
      have ho4 := ho.below hb3
      clear ho hb3
      cases h0 : skillsB L
      · have H0 := Lib.hid h0
        clear h0
        have HN : Hid (∀ l, ¬ GoodK s l) := pk_bad1 HLW.out H0.out
        go_wp2
        go_ret2
        exact retOwn2_mk (pkF_no HN.out) (Own.nil _ _ _) hb4
      · have H0 := Lib.hid h0
        clear h0
        go_wp2_with fail
        refine (skillsText_any L A' L.length c' _ ho4.sl H0.out (HE.out.tab.below hb4)).mono ?_
        rintro e V4 ⟨rfl, hb5⟩
        have hb6 := bl_trans hb4 hb5
        have ho6 := ho4.below hb5
        clear ho4 hb5
        cases hq : sameB (skText L L.length) s
        · have HQ := Lib.hid hq
          have hq2 : ((skText L L.length).toList == s.toList) = false := by rw [bytes_beq]; exact hq
          have hq3 : ((skText L L.length).toList != s.toList) = true := by simp [bne, hq2]
          clear hq
          have HN : Hid (∀ l, ¬ GoodK s l) := pk_bad2 HLW.out HQ.out
          go_wp2
          go_ret2
          exact retOwn2_mk (pkF_no HN.out) (Own.nil _ _ _) hb6
        · have Hz := Lib.hid (pkF_make H0.out hq)
          have hq2 : ((skText L L.length).toList == s.toList) = true := by rw [bytes_beq]; exact hq
          have hq3 : ((skText L L.length).toList != s.toList) = false := by simp [bne, hq2]
          clear hq
          go_wp2
          go_ret2
          exact retOwn2_mk Hz.out (ho6.mono hV0) hb6

end Go.Proofs.YtjcjedolhejnaaaGreatDoor

namespace Go.Proofs.YtjcjedolhejnaaaGreatDoor
open Go.RowKit

set_option maxRecDepth 100000 in
set_option maxHeartbeats 8000000 in
theorem specParseSkills_any (s : ByteArray) (w : World) (hs : s.size ≤ 1048576) :
    Calls Tryz.prog 28 #[.string s] w (RetOwn2 w 62 (pkF s)) := by
  have HCT : Hid (∀ l, GoodK s l → ∀ i, i < l.length → cutB 47 (nth (cutB 59 s) i) = [(nth l i).Person, itB (nth l i).Kind, itB (nth l i).Until]) := fun l hl i hi => piece_parts hl hi
  have HLN : Hid (∀ l, GoodK s l → (cutB 59 s).length = l.length + 1) := fun l hl => by rw [cut_semis hl]; simp
  have HBG : Hid (∀ x, x ∈ cutB 59 s → x.size ≤ 1048576) := fun x hx => by have := cut_piece hx; omega
  have hcn := cutK_many (c := 59) hs
  have hc1 := cutB_ne 59 s
  have HSP : Hid (Calls Tryz.prog 70 #[.string s, .int .u8 59] w (RetOwn w 9 (cutB 59 s))) := l1Split_k59 s w hs
  obtain ⟨P, hP⟩ : ∃ P, P = cutB 59 s := ⟨_, rfl⟩
  rw [← hP] at HCT HLN HBG HSP hcn hc1
  clear hP
  obtain ⟨n, hn⟩ : ∃ n, P.length = n + 1 := ⟨P.length - 1, by omega⟩
  go_enter Tryz.func28, Tryz.ntmps28
  go_wp2_with fail
  refine HSP.out.mono ?_
  rintro e V ⟨A, cc, rfl, ho, hV⟩
  obtain ⟨hca, hcb⟩ := ho.cap
  have HS := Lib.hid ho.sl
  have HV1 := Lib.hid hV
  have hV0 := hV.size
  unfold maxLen at hcb
  rw [hn] at hca ⊢
  clear ho hV
  by_cases h25 : 25 < n + 1
  · have hd0 : decide (((n + 1 : Nat) : Int) > 25) = true := by simp; omega
    have HN : Hid (∀ l, ¬ GoodK s l) := fun l hl => by have h1 := (goodK_at hl).1; have h2 := HLN.out l hl; omega
    go_wp2
    go_ret2
    exact retOwn2_mk (pkF_no HN.out) (Own.nil _ _ _) HV1.out
  · have hd0 : decide (((n + 1 : Nat) : Int) > 25) = false := by simp; omega
    have e1 : IntKind.i64.wrap (((n + 1 : Nat) : Int) - 1) = (n : Int) := by rw [IntWalk.i64_in _ (by omega)]; omega
    have e2 : (0 : Int) ≤ n := by omega
    have e3 : (n : Int) ≤ cc := by omega
    have e4 : n ≤ cc := by omega
    go_wp2
    go_loopw [5, 20] (fun v iv wr => ∃ (i c' : Nat) (A' : Option Addr) (L : List Skill), i ≤ n ∧ iv = .int .i64 i ∧ v = .slice A' L.length c' ∧ Own wr V.heap.size 62 (.slice A' L.length c') L ∧ L.length ≤ i ∧ (∀ x, x ∈ L → x.Person.size ≤ 1048576) ∧ Hid (∀ l, GoodK s l → L = l.take i) ∧ Below V.heap.size V wr) (fun _ iv _ => n - (intOf iv).toNat)
    case atStart => exact ⟨0, 0, none, [], Nat.zero_le _, rfl, rfl, Own.nil _ _ _, Nat.le_refl _, fun x hx => by simp at hx, fun l _ => rfl, bl_refl _⟩
    case round =>
      obtain ⟨i, c', A', L, hi, rfl, rfl, ho, hLi, hpz, hL, hbV⟩ := hrel
      have hb := bl_trans HV1.out hbV
      by_cases hlt : i < n
      · obtain ⟨b, o, rfl, hbz, c0⟩ := (HS.out.below hbV).str (by omega : i < P.length)
        have hsz := HBG.out _ (nth_mem (by omega : i < P.length))
        have HVL := Lib.hid hpz
        have HPJ : Hid (∀ l, GoodK s l → i < l.length ∧ cutB 47 (nth P i) = [(nth l i).Person, itB (nth l i).Kind, itB (nth l i).Until]) := fun l hl => by
          have h1 := HLN.out l hl
          have h2 : i < l.length := by omega
          exact ⟨h2, HCT.out l hl i h2⟩
        obtain ⟨p, hp⟩ : ∃ p, p = nth P i := ⟨_, rfl⟩
        rw [← hp] at HPJ hsz c0
        clear hpz hp
        have HSQ : Hid (Calls Tryz.prog 70 #[.string p, .int .u8 47] wr (RetOwn wr 9 (cutB 47 p))) := l1Split_k47 p wr hsz
        have HBQ : Hid (∀ x, x ∈ cutB 47 p → x.size ≤ 1048576) := fun x hx => by have := cut_piece hx; omega
        have hqn := cutK_many (c := 47) hsz
        obtain ⟨Q, hQ⟩ : ∃ Q, Q = cutB 47 p := ⟨_, rfl⟩
        rw [← hQ] at HSQ HBQ HPJ hqn
        clear hQ
        go_wp2_with fail
        refine HSQ.out.mono ?_
        rintro e V4 ⟨A1, c1, rfl, ho1, hb5⟩
        have hb6 := bl_trans hb hb5
        have hbV6 := bl_trans hbV hb5
        have ho6 := ho.below hb5
        have hca1 := ho1.cap.1
        have HSL := Lib.hid ho1.sl
        have hbn := fun g (hg : A1 = some ⟨g, 0, none⟩) => ho1.lt g (by rw [hg]; rfl)
        have hbo := fun g hg => ho.lt g hg
        have hf1 := ho1.form
        clear ho ho1 c0 hb hbV hb5
        by_cases hl3 : Q.length = 3
        · obtain ⟨g1, hg1⟩ := hf1 (by omega)
          have hgb := (hbn g1 hg1).1
          obtain ⟨b1, o1, rfl, hbz1, d0⟩ := HSL.out.str (k := 0) (by omega)
          have hg2 : b1 = g1 := by injection hg1 with hg1; injection hg1
          subst hg2
          clear hbn hf1 hg1
          obtain ⟨b', o', e', _, d1⟩ := HSL.out.str (k := 1) (by omega)
          injection e' with e'
          injection e' with e1' e2'
          subst e1' e2'
          obtain ⟨b', o', e', _, d2⟩ := HSL.out.str (k := 2) (by omega)
          injection e' with e'
          injection e' with e1' e2'
          subst e1' e2'
          have d0 : V4.cell? ⟨b1, o1, none⟩ = some (.string (nth Q 0)) := d0
          have h0 := HBQ.out _ (nth_mem (by omega : 0 < Q.length))
          have h1 := HBQ.out _ (nth_mem (by omega : 1 < Q.length))
          have h2 := HBQ.out _ (nth_mem (by omega : 2 < Q.length))
          obtain ⟨h, hh⟩ : ∃ q, q = nth Q 0 := ⟨_, rfl⟩
          obtain ⟨q, hq⟩ : ∃ q, q = nth Q 1 := ⟨_, rfl⟩
          obtain ⟨r, hr⟩ : ∃ r, r = nth Q 2 := ⟨_, rfl⟩
          rw [← hh] at d0 h0
          rw [← hq] at d1 h1
          rw [← hr] at d2 h2
          have HX : Hid (∀ l, GoodK s l → L ++ [⟨h, rdV q, rdV r⟩] = l.take (i + 1)) := fun l hl => by
            obtain ⟨g1, g2⟩ := HPJ.out l hl
            obtain ⟨_, ⟨k0, k1⟩, u0, u1⟩ := (goodK_at hl).2 _ (nth_mem g1)
            have e1 : h = (nth l i).Person := by rw [hh, g2]; rfl
            have e2 : rdV q = (nth l i).Kind := by rw [hq, g2]; exact rdV_n k0 (by omega)
            have e3 : rdV r = (nth l i).Until := by rw [hr, g2]; exact rdV_n u0 (by omega)
            rw [take_succ g1, hL.out l hl, e1, e2, e3]
          have HPZ : Hid (h.size ≤ 1048576) := h0
          rw [hl3] at hca1 ⊢
          have hcc : (2 : Nat) < 3 := by omega
          have hcd : (1 : Nat) < 3 := by omega
          clear hh hq hr hl3 h0
          go_upto_region 11 with fail
          have hD := bl_drew (bl_refl V4)
          go_region_held3 (fun w' => w'.cell? ⟨b1, o1, none⟩ = some (.string h) ∧ w'.cell? ⟨b1, o1 + 1, none⟩ = some (.string q) ∧ w'.cell? ⟨b1, o1 + 2, none⟩ = some (.string r)) (first | exact ⟨cell_later hD d0, cell_later hD d1, cell_later hD d2⟩ | exact ⟨cell_later (bl_alloc hD _) d0, cell_later (bl_alloc hD _) d1, cell_later (bl_alloc hD _) d2⟩ | exact ⟨f0, f1, f2⟩ | go_keep)
            (first | (go_at_call 71; refine (l1Read_any _ _ (by assumption)).mono ?_; rintro e V ⟨rfl, rfl⟩) | (refine step_appB rfl (.tmp 29) (.tmp 42) _ _ rfl el_skillq (xs := L) (ys := [(⟨h, rdV q, rdV r⟩ : Skill)]) (w0 := V) rfl rfl (ho6.below (bl_alloc hD _)) (bl_trans hbV6 (bl_alloc hD _)) (sl_skill1 (by go_simp) (by go_simp) (by go_simp)) (by omega) ?_; (intro A3 c3 V7 ho7 hbV7 hg7); have f0 := (hg7.cell_far _ (Nat.lt_of_lt_of_le hbz1 (bl_alloc hD _).size) (fun h => by have := (hbo _ h.symm).2; exact absurd this (by simp only []; omega))).trans (cell_later (bl_alloc hD _) d0); have f1 := (hg7.cell_far _ (Nat.lt_of_lt_of_le hbz1 (bl_alloc hD _).size) (fun h => by have := (hbo _ h.symm).2; exact absurd this (by simp only []; omega))).trans (cell_later (bl_alloc hD _) d1); have f2 := (hg7.cell_far _ (Nat.lt_of_lt_of_le hbz1 (bl_alloc hD _).size) (fun h => by have := (hbo _ h.symm).2; exact absurd this (by simp only []; omega))).trans (cell_later (bl_alloc hD _) d2)))
          go_wp2
          go_roundw
          case rel => exact ⟨i + 1, c3, A3, L ++ [⟨h, rdV q, rdV r⟩], by omega, by go_num, by simp, by simpa using ho7, by simp; omega, fun x hx => by rcases List.mem_append.1 hx with hx | hx; exact HVL.out x hx; rw [List.mem_singleton.1 hx]; exact HPZ.out, HX, hbV7⟩
          case measure => simp [intOf]; omega
        · clear hbn hbo hf1
          have hd : ((Q.length : Int) != 3) = true := by simp; omega
          have HN : Hid (∀ l, ¬ GoodK s l) := fun l hl => by have h1 := (HPJ.out l hl).2; rw [h1] at hl3; exact hl3 rfl
          go_wp2
          go_ret2
          exact retOwn2_mk (pkF_no HN.out) (Own.nil _ _ _) hb6
      · obtain rfl : i = n := by omega
        have hL : Hid (∀ l, GoodK s l → L = l) := fun l hl => by
          have h1 := HLN.out l hl
          rw [hL.out l hl, List.take_of_length_le (by omega)]
        clear hlt
        have HLW := Lib.hid hL
        have HVL := Lib.hid hpz
        clear hL hpz
        go_wp2_with fail
        refine (drGood_any L A' L.length c' _ (by omega) ho.sl (fun x hx => by have := HVL.out x hx; unfold maxLen; omega)).mono ?_
        rintro e V3 ⟨rfl, hb3⟩
        have hb4 := bl_trans hb hb3
        have ho4 := ho.below hb3
        clear ho hb3
        cases h0 : skillsB L
        · have H0 := Lib.hid h0
          clear h0
          have HN : Hid (∀ l, ¬ GoodK s l) := pk_bad1 HLW.out H0.out
          go_wp2
          go_ret2
          exact retOwn2_mk (pkF_no HN.out) (Own.nil _ _ _) hb4
        · have H0 := Lib.hid h0
          clear h0
          go_wp2_with fail
          refine (drText_any L A' L.length c' _ ho4.sl H0.out).mono ?_
          rintro e V4 ⟨rfl, hb5⟩
          have hb6 := bl_trans hb4 hb5
          have ho6 := ho4.below hb5
          clear ho4 hb5
          cases hq : sameB (skText L L.length) s
          · have HQ := Lib.hid hq
            have hq2 : ((skText L L.length).toList == s.toList) = false := by rw [bytes_beq]; exact hq
            have hq3 : ((skText L L.length).toList != s.toList) = true := by simp [bne, hq2]
            clear hq
            have HN : Hid (∀ l, ¬ GoodK s l) := pk_bad2 HLW.out HQ.out
            go_wp2
            go_ret2
            exact retOwn2_mk (pkF_no HN.out) (Own.nil _ _ _) hb6
          · have Hz := Lib.hid (pkF_make H0.out hq)
            have hq2 : ((skText L L.length).toList == s.toList) = true := by rw [bytes_beq]; exact hq
            have hq3 : ((skText L L.length).toList != s.toList) = false := by simp [bne, hq2]
            clear hq
            go_wp2
            go_ret2
            exact retOwn2_mk Hz.out (ho6.mono hV0) hb6

end Go.Proofs.YtjcjedolhejnaaaGreatDoor

namespace Go.Proofs.YtjcjedolhejnaaaGreatDoor
open Go.RowKit Go.WideShapes Go.ChangeShapes Go.ChangeAt Go.Deep

/-- A list in memory is plain data, too: the slice value of one cell. -/
instance {α : Type} [Deep α] : Deep (List α) where
  sz := 1
  pos := by omega
  rep := fun w cs xs => ∃ A c, cs = [.slice A xs.length c] ∧ Sl w A xs.length xs ∧ xs.length ≤ maxLen
  len := fun {_ _ _} h => by obtain ⟨A, c, rfl, _⟩ := h; rfl
  keep := fun {_ _ _ _} k h => by obtain ⟨A, c, e, hs, hl⟩ := h; exact ⟨A, c, e, hs.keep k, hl⟩

/-- What every datum that can be read keeps to. -/
class Ok (α : Type) where
  ok : α → Prop
instance : Ok Int := ⟨fun x => -9223372036854775808 ≤ x ∧ x ≤ 9223372036854775807⟩
instance : Ok Bool := ⟨fun _ => True⟩
instance : Ok ByteArray := ⟨fun s => s.size ≤ maxLen⟩
instance {α : Type} [Ok α] : Ok (List α) := ⟨fun xs => ∀ x, x ∈ xs → Ok.ok x⟩
/-- Whatever reads at type t reads as an α. -/
def Opens (P : Program) (t : TypeId) (α : Type) [Deep α] [Ok α] : Prop :=
  ∀ {H : Type} {enc : TypeId × Value → H} {w : World} {base : Nat} {sp : Nat → Bool} {held : Bool} {fuel : Nat} {cs : List Value} {x : DataW H × List MemPlace},
    DataW.trod enc P w base sp held fuel t cs = some x → ∃ y : α, Deep.rep w cs y ∧ Ok.ok y

theorem opens_int {P : Program} {t : TypeId} (ht : P.underlying t = some (.int .i64)) : Opens P t Int := fun h => by
  obtain ⟨n, rfl, _, hw⟩ := DataW.trod_int ht h
  exact ⟨n, rfl, by simpa [Ok.ok, Lit.wf, IntKind.min, IntKind.max, IntKind.signed, IntKind.bits] using hw⟩
theorem opens_string {P : Program} {t : TypeId} (ht : P.underlying t = some .string) : Opens P t ByteArray := fun h => by
  obtain ⟨n, rfl, _, hw⟩ := DataW.trod_string ht h
  exact ⟨n, rfl, hw⟩

theorem opens_bool {P : Program} {t : TypeId} (ht : P.underlying t = some .bool) : Opens P t Bool := fun h => by
  obtain ⟨n, rfl, _⟩ := DataW.trod_bool ht h
  exact ⟨n, rfl, trivial⟩
/-- A field of one cell, at its place in the struct's cells. -/
theorem opens_field {P : Program} {t : TypeId} {α : Type} [Deep α] [Ok α] (ho : Opens P t α) (hc : P.cellsOf t = 1) {H : Type} {enc : TypeId × Value → H} {w : World} {base : Nat} {sp : Nat → Bool} {held : Bool} {fuel off : Nat} {cs : List Value}
    {xs : List (DataW H × List MemPlace)} {i : Nat} (h : DataW.trod enc P w base sp held fuel t ((cs.drop off).take (P.cellsOf t)) = xs[i]?) (hi : i < xs.length) (hl : off < cs.length) :
    ∃ (c : Value) (y : α), cs[off]? = some c ∧ Deep.rep w [c] y ∧ Ok.ok y := by
  rw [List.getElem?_eq_getElem hi, hc] at h
  obtain ⟨y, hy, hk⟩ := ho h
  refine ⟨cs[off], y, List.getElem?_eq_getElem hl, ?_, hk⟩
  have e : (cs.drop off).take 1 = [cs[off]] := by rw [List.drop_eq_getElem_cons hl]; rfl
  rwa [e] at hy
theorem list2 {cs : List Value} {a b : Value} (h : cs.length = 2) (h0 : cs[0]? = some a) (h1 : cs[1]? = some b) : cs = [a, b] := by
  match cs, h with
  | [x, y], _ => simp at h0 h1; subst h0; subst h1; rfl
theorem list3 {cs : List Value} {a b c : Value} (h : cs.length = 3) (h0 : cs[0]? = some a) (h1 : cs[1]? = some b) (h2 : cs[2]? = some c) : cs = [a, b, c] := by
  match cs, h with
  | [x, y, z], _ => simp at h0 h1 h2; subst h0; subst h1; subst h2; rfl
theorem list4 {cs : List Value} {a b c d : Value} (h : cs.length = 4) (h0 : cs[0]? = some a) (h1 : cs[1]? = some b) (h2 : cs[2]? = some c) (h3 : cs[3]? = some d) : cs = [a, b, c, d] := by
  match cs, h with
  | [x, y, z, t], _ => simp at h0 h1 h2 h3; subst h0; subst h1; subst h2; subst h3; rfl
theorem list5 {cs : List Value} {a b c d e : Value} (h : cs.length = 5) (h0 : cs[0]? = some a) (h1 : cs[1]? = some b) (h2 : cs[2]? = some c) (h3 : cs[3]? = some d) (h4 : cs[4]? = some e) : cs = [a, b, c, d, e] := by
  match cs, h with
  | [x, y, z, t, u], _ => simp at h0 h1 h2 h3 h4; subst h0; subst h1; subst h2; subst h3; subst h4; rfl
theorem sl_choose {α : Type} [Deep α] [Ok α] {w : World} {b o n : Nat} (h : ∀ i, i < n → ∃ (x : α) (cs : List Value), (Deep.rep w cs x ∧ Ok.ok x) ∧ ∀ j v, cs[j]? = some v → w.cell? ⟨b, o + i * Deep.sz α + j, none⟩ = some v) :
    ∃ xs : List α, Sl w (some ⟨b, o, none⟩) n xs ∧ Ok.ok xs := by
  induction n with
  | zero => exact ⟨[], Sl.nil _ _, fun _ h => by cases h⟩
  | succ n ih =>
    obtain ⟨xs, ⟨hl, hx⟩, hok⟩ := ih (fun i hi => h i (by omega))
    obtain ⟨x, cs, ⟨hr, hkx⟩, hc⟩ := h n (by omega)
    refine ⟨xs ++ [x], ⟨by simp [hl], fun k y hy => ?_⟩, fun y hy => by
      rcases List.mem_append.1 hy with hy | hy
      · exact hok y hy
      · simp at hy; subst hy; exact hkx⟩
    rcases Nat.lt_or_ge k n with hk | hk
    · rw [List.getElem?_append_left (by omega)] at hy
      exact hx k y hy
    · have hk2 : k < (xs ++ [x]).length := (List.getElem?_eq_some_iff.1 hy).1
      obtain rfl : k = n := by simp [hl] at hk2; omega
      rw [List.getElem?_append_right (by omega)] at hy
      simp [hl] at hy
      subst hy
      exact ⟨b, o, cs, rfl, hr, hc⟩

theorem opens_slice {P : Program} {t e : TypeId} {α : Type} [Deep α] [Ok α] (ht : P.underlying t = some (.slice e)) (hsz : P.cellsOf e = Deep.sz α) (he : Opens P e α) : Opens P t (List α) := fun {_ _ w _ _ _ _ _ _} h => by
  rcases open_slice ht h with ⟨rfl, _⟩ | ⟨a, len, cap, m, n, D, Pl, rfl, hb, hl, hm, hmm, _, hx⟩
  · exact ⟨[], ⟨none, 0, rfl, Sl.nil _ _, by simp [maxLen]⟩, fun _ h => by cases h⟩
  · have hlm : len ≤ m := by rw [hmm]; split <;> omega
    by_cases h0 : len = 0
    · subst h0
      exact ⟨[], ⟨some a, cap, rfl, Sl.nil _ _, by simp [maxLen]⟩, fun _ h => by cases h⟩
    · have hp := Deep.pos (α := α)
      have hspot : a = ⟨a.block, a.off, none⟩ := by
        obtain ⟨cs', hc, ht'⟩ := hx 0 (by omega)
        obtain ⟨_, hlen, hat⟩ := World.cells?_some hc
        have h1 := hat 0 (by omega)
        rw [List.getElem?_eq_getElem (by omega)] at h1
        have e : (a.add (0 * P.cellsOf e)).add 0 = a := by simp [Addr.add]
        rw [e] at h1
        rcases a with ⟨b, o, s⟩
        cases s with
        | none => rfl
        | some s => simp [World.cell?] at h1; split at h1 <;> cases h1
      obtain ⟨xs, hs, hok⟩ := sl_choose (α := α) (w := w) (b := a.block) (o := a.off) (n := len) (fun i hi => by
        obtain ⟨cs', hc, ht'⟩ := hx i (by omega)
        obtain ⟨_, hlen, hat⟩ := World.cells?_some hc
        obtain ⟨y, hy⟩ := he ht'
        refine ⟨y, cs', hy, fun j v hv => ?_⟩
        have hj : j < P.cellsOf e := by rw [← hlen]; exact (List.getElem?_eq_some_iff.1 hv).1
        have h1 := hat j hj
        rw [hspot, addr_add, addr_add, hv, hsz] at h1
        exact h1)
      have hl2 := hs.1
      refine ⟨xs, ⟨some a, cap, by rw [hl2], ?_, by omega⟩, hok⟩
      rw [hl2, hspot]
      exact hs

section
variable {H : Type} {enc : TypeId × Value → H} {P : Program}
theorem trodAll_stays (hl : laidOutB P = true) {W W' : World} {sp : Nat → Bool} (hsame : ∀ p : MemPlace, p.block < W.heap.size → W.sameAt W' p) : ∀ (ts : List TypeId) (vs : List Value) (ds : List (DataW H)) (ps : List MemPlace),
    (∀ t ∈ ts, P.readableRec t = true ∧ t < P.types.size) → DataW.TrodAll enc P W 0 (fun _ => true) true ts vs ds ps → (∀ p ∈ ps, p.block < W.heap.size) → (∀ p ∈ ps, sp p.block = true) → DataW.TrodAll enc P W' 0 sp true ts vs ds ps
  | [], _, _, _, _, h, _, _ => by obtain ⟨rfl, rfl, rfl⟩ := trodAll_nil h; exact trodAll_mk0
  | t :: ts, vs, ds, ps, hr, h, hlt, hsp => by
    obtain ⟨v, vs', d, ds', p, q, rfl, rfl, rfl, h0, h1⟩ := trodAll_cons h
    have hr0 := hr t (List.mem_cons_self)
    exact trodAll_cons_mk (WideElems.Trod_stays hl hr0.1 hr0.2 h0 (fun x hx => hsame x (hlt x (List.mem_append_left _ hx))) (fun x hx => hsp x (List.mem_append_left _ hx)))
      (trodAll_stays hl hsame ts vs' ds' q (fun t' ht' => hr t' (List.mem_cons_of_mem _ ht')) h1 (fun x hx => hlt x (List.mem_append_right _ hx)) (fun x hx => hsp x (List.mem_append_right _ hx)))

/-- The row's last step: the call answered true, and nothing that was there has turned. -/
theorem post_law {f : Func} {s : ChangeSpec} {tb : TypeId} {W W' : World} {args : Array Value} {ds gs : List (DataW H)} {before : List MemPlace}
    (hl : laidOutB P = true) (hb : P.underlying tb = some .bool) (hrt : f.resultTypes = #[tb]) (hv0 : s.vars = []) (hr : f.params.toList.all (fun t => P.readableRec t && decide (t < P.types.size)) = true)
    (hs : (s.fn H (ds ++ gs)).results = [.lit (.bool true)] ∧ (s.fn H (ds ++ gs)).args = ds ∧ (s.fn H (ds ++ gs)).vars = [])
    (hW : DataW.Whole enc P f.params.toList s.vars false W args.toList ds gs before) (hbe : Below W.heap.size W W') :
    s.post enc P f false true false false W args (.bool true) W' := by
  have hlt : ∀ p ∈ before, p.block < W.heap.size := fun p hp => hW.lt p hp
  obtain ⟨p, q, hA, hV, rfl, hz, hn⟩ := id hW
  rw [hv0] at hV
  obtain ⟨rfl, rfl⟩ := trodVars_none hV
  rw [List.append_nil] at hs
  have hr' : ∀ t ∈ f.params.toList, P.readableRec t = true ∧ t < P.types.size := fun t ht => by
    have := List.all_eq_true.1 hr t ht
    simpa using this
  have hargs : ∀ sp : Nat → Bool, (∀ x ∈ p, sp x.block = true) → DataW.TrodAll enc P W' 0 sp true f.params.toList args.toList ds p := fun sp hsp =>
    trodAll_stays hl (fun x hx => hbe.same hx) _ _ _ _ hr' hA (fun x hx => hlt x (by simpa using hx)) hsp
  have hres : ∀ (b : Nat) (sp : Nat → Bool) (hd : Bool), DataW.TrodAll enc P W' b sp hd f.resultTypes.toList (Value.resultList f.resultTypes.size (.bool true)) [.lit (.bool true)] [] := fun b sp hd => by
    rw [hrt]
    exact trodAll_mk1 (shut_bool hb true)
  have hold : ∀ x ∈ p, (fun b => decide (b < W.heap.size)) x.block = true := fun x hx => by simpa using hlt x (by simpa using hx)
  refine ⟨ds, [], p ++ [], [], p, [], hW, ?_, ?_, ?_, World.keptBut_mono (fun _ hx => hx.elim) (hbe.frame (fun _ => False)), fun h => by cases h⟩
  · rw [List.append_nil, hs.1]; exact hres _ _ _
  · rw [List.append_nil, hs.2.1]; exact hargs _ hold
  · rw [List.append_nil, hs.2.2, hv0]; exact rfl
end
end Go.Proofs.YtjcjedolhejnaaaGreatDoor
