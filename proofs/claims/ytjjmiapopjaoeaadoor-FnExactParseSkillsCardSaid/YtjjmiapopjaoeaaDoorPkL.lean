/-
  Of Go's library: SplitAfter and TrimSuffix at a semicolon. No conditions.
-/
import Derived.Test.YtjjmiapopjaoeaaDoorPkP
import Derived.Test.YtjjmiapopjaoeaaDoorPiL
import Derived.Shelf.Strings.Prefix
namespace Go.Proofs.YtjjmiapopjaoeaaDoor
open Go.RowKit

theorem splitA_piece (c : UInt8) (save : Nat) : ∀ (k : Nat) (s x : ByteArray), x ∈ Lib.splitB ⟨#[c]⟩ save k s → x.size ≤ s.size
  | 0, s, x, h => by
    rw [Lib.splitB_zero, List.mem_singleton] at h
    subst h; exact Nat.le_refl _
  | k + 1, s, x, h => by
    rcases Lib.indexB_cases s ⟨#[c]⟩ with h1 | ⟨i, h1, _⟩
    · rw [Lib.splitB_miss _ _ _ _ h1, List.mem_singleton] at h
      subst h; exact Nat.le_refl _
    · rw [Lib.splitB_hit _ _ _ _ _ h1] at h
      rcases List.mem_cons.1 h with rfl | h
      · rw [ByteArray.size_extract]; omega
      · have := splitA_piece c save k _ x h
        rw [ByteArray.size_extract] at this; omega
def partsA (s : ByteArray) : List ByteArray := Lib.splitB ⟨#[59]⟩ 1 (Lib.countB s ⟨#[59]⟩) s
theorem partsA_len (s : ByteArray) : (partsA s).length = Lib.countB s ⟨#[59]⟩ + 1 := Lib.splitB_all ⟨#[59]⟩ (Nat.le_refl 1) 1 _ s rfl
theorem partsA_nil {s : ByteArray} (h : s.data.toList = []) : partsA s = [⟨#[]⟩] := by
  have e : s = ⟨#[]⟩ := ba_ext h
  subst e
  have h1 : Lib.indexB ⟨#[]⟩ ⟨#[59]⟩ = -1 := by
    rcases Lib.indexB_cases ⟨#[]⟩ ⟨#[59]⟩ with h1 | ⟨i, _, h2⟩
    · exact h1
    · have e1 : (⟨#[59]⟩ : ByteArray).size = 1 := rfl
      have e2 : (⟨#[]⟩ : ByteArray).size = 0 := rfl
      rw [e1, e2] at h2; omega
  unfold partsA
  rw [Lib.splitB_miss _ _ _ _ h1]
theorem partsA_cons {s : ByteArray} {a r : List UInt8} (ha : (59 : UInt8) ∉ a) (h : s.data.toList = a ++ 59 :: r) : partsA s = ⟨(a ++ [59]).toArray⟩ :: partsA ⟨r.toArray⟩ := by
  have h1 : Lib.indexB s ⟨#[59]⟩ = (a.length : Int) := by
    show Lib.index s.data.toList [59] = _
    rw [h, index_at ha]
  have hl : s.data.toList.length = s.size := ba_len s
  have e1 : (⟨#[59]⟩ : ByteArray).size = 1 := rfl
  have e2 : s.extract (a.length + 1) s.size = ⟨r.toArray⟩ := by
    apply ba_ext
    rw [ba_ex, h]
    have e3 : (a ++ 59 :: r).drop (a.length + 1) = r := by
      rw [show a ++ 59 :: r = (a ++ [59]) ++ r by simp]
      rw [List.drop_left' (by simp)]
    rw [e3, List.take_of_length_le (by rw [h] at hl; simp at hl; omega)]
  have e4 : s.extract 0 (a.length + 1) = ⟨(a ++ [59]).toArray⟩ := by
    apply ba_ext
    rw [ba_ex, h, List.drop_zero]
    rw [show a ++ 59 :: r = (a ++ [59]) ++ r by simp, List.take_left' (by simp)]
  unfold partsA
  rw [Lib.countB_hit s ⟨#[59]⟩ a.length (Nat.le_refl 1) h1, e1, e2, Nat.add_comm 1, Lib.splitB_hit _ _ _ _ _ h1, e1, e2, e4]
theorem partsA_flat : ∀ (l : List Skill), (∀ x, x ∈ l → (59 : UInt8) ∉ skL x) → partsA ⟨(l.flatMap (fun x => skL x ++ [59])).toArray⟩ = l.map (fun x => ⟨(skL x ++ [59]).toArray⟩) ++ [⟨#[]⟩]
  | [], _ => partsA_nil rfl
  | x :: r, h => by
    rw [partsA_cons (a := skL x) (r := r.flatMap (fun x => skL x ++ [59])) (h x List.mem_cons_self) (by simp), partsA_flat r (fun y hy => h y (List.mem_cons_of_mem _ hy))]
    rfl
theorem partsA_good {s : ByteArray} {l : List Skill} (h : GoodK s l) : partsA s = l.map (fun x => ⟨(skL x ++ [59]).toArray⟩) ++ [⟨#[]⟩] := by
  have e : s = ⟨(l.flatMap (fun x => skL x ++ [59])).toArray⟩ := ba_ext (by rw [goodK_text h])
  rw [e, partsA_flat l (fun x hx => skL_no h hx)]
theorem splitAfter_any (s : ByteArray) (w : World) (hs : s.size ≤ 1048576) (he : Env w) :
    Calls Tryd.prog 13 #[.string s, .string ⟨#[59]⟩] w (RetOwn w 9 (partsA s)) := by
  obtain ⟨m, hm⟩ := he.len
  have hcb := Lib.countB_le ⟨#[59]⟩ (Nat.le_refl 1) s.size s (Nat.le_refl _)
  have hg : Calls Tryd.prog 25 #[.string s, .string ⟨#[59]⟩, .int .i64 1, .int .i64 (-1)] w fun e w' => e = .returned (.slice (some ⟨w.heap.size, 0, none⟩) (partsA s).length (partsA s).length) ∧ w' = w.alloc (.cells ((partsA s).map Value.string).toArray 9) := by
    have h := Any.strings_genSplit { Tryd.laysSplit with } Tryd.laysSplit.i9 s ⟨#[59]⟩ 1 (-1) (Lib.countB s ⟨#[59]⟩ + 1) m w (by omega) hm (Nat.le_refl 1) (Nat.le_refl 1) (by omega) (by omega) (by rw [if_pos (by omega)]; omega)
    refine h.mono fun e w' ⟨h1, h2⟩ => ?_
    have e1 : Lib.countB s ⟨#[59]⟩ + 1 - 1 = Lib.countB s ⟨#[59]⟩ := by omega
    rw [e1] at h1 h2
    have e2 : (partsA s).length = Lib.countB s ⟨#[59]⟩ + 1 := partsA_len s
    refine ⟨by rw [h1, e2]; unfold partsA at e2; rw [e2], ?_⟩
    rw [h2]
    have e3 : Lib.cellsOf (Lib.splitB ⟨#[59]⟩ 1 (Lib.countB s ⟨#[59]⟩) s) (Lib.countB s ⟨#[59]⟩ + 1) = ((partsA s).map Value.string).toArray := by
      unfold Lib.cellsOf partsA
      simp [Lib.splitB_all ⟨#[59]⟩ (Nat.le_refl 1) 1 _ s rfl]
    rw [e3]
    rfl
  obtain ⟨P, hP⟩ : ∃ P, P = partsA s := ⟨_, rfl⟩
  have hcs : P.length ≤ s.size + 1 := by rw [hP, partsA_len]; omega
  rw [← hP] at hg ⊢
  have HG := Lib.hid hg
  clear hg hP
  go_enter Tryd.func13, Tryd.ntmps13
  go_wp2_with fail
  refine HG.out.mono ?_
  rintro e V ⟨rfl, rfl⟩
  go_wp2
  go_ret
  refine ⟨some ⟨w.heap.size, 0, none⟩, P.length, rfl, ?_, bl_alloc (bl_refl _) _⟩
  unfold Own
  have hcl : cellsOf P = P.map (fun s => Value.string s) := by
    clear hcs HG
    induction P with
    | nil => rfl
    | cons a l ih =>
      have h : cellsOf (a :: l) = Flat.enc a ++ cellsOf l := rfl
      rw [h, ih]; rfl
  have hsz : Flat.sz ByteArray = 1 := rfl
  rw [hcl, hsz]
  refine ⟨by simp, .inr ⟨w.heap.size, P.length, (P.map (fun s => Value.string s)).toArray, rfl, Nat.le_refl _, ?_, Nat.le_refl _, by unfold maxLen; omega, by simp, by simp only [Nat.mul_one]; exact List.take_of_length_le (by simp)⟩⟩
  simp only [World.alloc, Array.getElem?_push_size]
theorem trimSuffix_any (s : ByteArray) (w : World) (hs : s.size ≤ 1048576) :
    Calls Tryd.prog 15 #[.string s, .string ⟨#[59]⟩] w fun e w' => ∃ a, e = .returned (.string a) ∧ a.size ≤ 1048576 ∧ Hid (∀ l : List UInt8, s.data.toList = l ++ [59] → a = ⟨l.toArray⟩) ∧ w' = w := by
  have hsl : s.data.toList.length = s.size := ba_len s
  refine (Any.strings_TrimSuffix Tryd.laysTrimSuffix s ⟨#[59]⟩ w (by omega)).mono fun e w' ⟨hr, hw⟩ => ⟨_, hr, ?_, fun l hl => ?_, hw⟩
  · show (Lib.trimSuffix s.data.toList [59]).toArray.size ≤ _
    rw [List.size_toArray]
    unfold Lib.trimSuffix
    split
    · simp only [List.length_take]; omega
    · omega
  · have e1 : Lib.hasSuffix s.data.toList [59] = true := by
      unfold Lib.hasSuffix
      rw [List.isSuffixOf_iff_suffix, hl]
      exact List.suffix_append _ _
    show (⟨(Lib.trimSuffix s.data.toList [59]).toArray⟩ : ByteArray) = _
    unfold Lib.trimSuffix
    rw [if_pos e1, hl]
    simp

end Go.Proofs.YtjjmiapopjaoeaaDoor
