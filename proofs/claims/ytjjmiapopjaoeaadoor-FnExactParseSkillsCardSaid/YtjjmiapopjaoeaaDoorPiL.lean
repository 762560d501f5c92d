/-
  Of Go's library: Cut, CutSuffix, Split. No conditions.
-/
import Derived.Test.YtjjmiapopjaoeaaDoorJnEq
import Derived.Test.YtjjmiapopjaoeaaDoorStrsI
import Derived.Test.YtjjmiapopjaoeaaDoorMem6
import Derived.Test.YtjjmiapopjaoeaaDoorInts
import Derived.Shelf.Strings.Shaped
import Derived.Shelf.Small.Wraps
namespace Go.Proofs.YtjjmiapopjaoeaaDoor
open Go.RowKit

theorem index_at {l r : List UInt8} {c : UInt8} (h : c ∉ l) : Lib.index (l ++ c :: r) [c] = (l.length : Int) := by
  rw [Lib.index_one]
  have e0 : (l ++ c :: r)[l.length]? = some c := by rw [List.getElem?_append_right (Nat.le_refl _)]; simp
  have hs : (⟨(l ++ c :: r).toArray⟩ : ByteArray).data.toList = l ++ c :: r := rfl
  have hix : Lib.indexB ⟨(l ++ c :: r).toArray⟩ ⟨#[c]⟩ = Lib.indexByte (l ++ c :: r) c := Lib.index_one _ c
  rcases Lib.indexB_cases ⟨(l ++ c :: r).toArray⟩ ⟨#[c]⟩ with h1 | ⟨i, h1, _⟩
  · rw [hix] at h1
    exact absurd e0 (Lib.indexByte_none h1 _)
  · rw [hix] at h1
    obtain ⟨h2, h3⟩ := Lib.indexByte_some h1
    rw [h1]
    rcases Nat.lt_trichotomy i l.length with h4 | h4 | h4
    · rw [List.getElem?_append_left h4] at h2
      exact absurd (List.mem_of_getElem? h2) h
    · rw [h4]
    · exact absurd e0 (h3 _ h4)
theorem cut_len (s p : List UInt8) : (Lib.cut s p).1.length ≤ s.length ∧ (Lib.cut s p).2.1.length ≤ s.length := by
  unfold Lib.cut
  split
  · constructor
    · simp only [List.length_take]; omega
    · simp only [List.length_drop]; omega
  · simp
theorem cut_any (s : ByteArray) (c : UInt8) (w : World) (hs : s.size ≤ 1048576) (he : Env w) :
    Calls Tryd.prog 14 #[.string s, .string ⟨#[c]⟩] w fun e w' => ∃ a b f, e = .returned (.tuple #[.string a, .string b, .bool f]) ∧ (a.size ≤ 1048576 ∧ b.size ≤ 1048576) ∧ Hid (∀ l r : List UInt8, c ∉ l → s.data.toList = l ++ c :: r → a = ⟨l.toArray⟩ ∧ b = ⟨r.toArray⟩) ∧ Below w.heap.size w w' := by
  obtain ⟨m, hm⟩ := he.len
  have hsl : s.data.toList.length = s.size := ba_len s
  obtain ⟨h1, h2⟩ := cut_len s.data.toList [c]
  refine (Any.strings_Cut { Tryd.laysCut with } s ⟨#[c]⟩ m w (by omega) hm).mono fun e w' ⟨hr, q, hw⟩ => ⟨_, _, _, hr, ⟨?_, ?_⟩, fun l r hn hl => ?_, by rw [hw]; exact bl_drewN (bl_refl _) _⟩
  · show (Lib.cut s.data.toList [c]).1.toArray.size ≤ _
    rw [List.size_toArray]; omega
  · show (Lib.cut s.data.toList [c]).2.1.toArray.size ≤ _
    rw [List.size_toArray]; omega
  · have e1 : Lib.cut s.data.toList [c] = (l, r, true) := by
      unfold Lib.cut
      rw [hl, index_at hn, if_pos (by omega)]
      simp
    show (⟨(Lib.cut s.data.toList [c]).1.toArray⟩ : ByteArray) = _ ∧ (⟨(Lib.cut s.data.toList [c]).2.1.toArray⟩ : ByteArray) = _
    rw [e1]
    exact ⟨rfl, rfl⟩
theorem splitO_any (s : ByteArray) (c : UInt8) (w : World) (hs : s.size ≤ 1048576) (he : Env w) :
    Calls Tryd.prog 28 #[.string s, .string ⟨#[c]⟩] w (RetOwn w 9 (cutB c s)) := by
  obtain ⟨m, hm⟩ := he.len
  refine (Any.strings_Split { Tryd.laysSplit with } Tryd.laysSplit.i9 s ⟨#[c]⟩ m w (by omega) hm (Nat.le_refl 1)).mono fun e w' ⟨h1, h2⟩ => ?_
  have hl : Lib.countB s ⟨#[c]⟩ + 1 = (cutB c s).length := by rw [← splitB_cut c s.size s (Nat.le_refl _), Lib.splitB_all ⟨#[c]⟩ (Nat.le_refl 1) 0 _ s rfl]
  rw [hl] at h1
  rw [splitB_cut c s.size s (Nat.le_refl _)] at h2
  have hcl : cellsOf (cutB c s) = (cutB c s).map (fun s => Value.string s) := by
    induction (cutB c s) with
    | nil => rfl
    | cons a l ih =>
      have h : cellsOf (a :: l) = Flat.enc a ++ cellsOf l := rfl
      rw [h, ih]; rfl
  have hsz : Flat.sz ByteArray = 1 := rfl
  have hcs : (cutB c s).length ≤ s.size + 1 := by rw [← hl]; have := Lib.countB_le ⟨#[c]⟩ (Nat.le_refl 1) s.size s (Nat.le_refl _); omega
  refine ⟨some ⟨w.heap.size, 0, none⟩, (cutB c s).length, h1, ?_, by rw [h2]; exact bl_alloc (bl_refl _) _⟩
  unfold Own
  rw [hcl, hsz]
  refine ⟨by simp, .inr ⟨w.heap.size, (cutB c s).length, ((cutB c s).map (fun s => Value.string s)).toArray, rfl, Nat.le_refl _, ?_, Nat.le_refl _, by unfold maxLen; omega, by simp, by simp only [Nat.mul_one]; exact List.take_of_length_le (by simp)⟩⟩
  rw [h2]
  simp only [World.alloc, Array.getElem?_push_size]
  rfl

end Go.Proofs.YtjjmiapopjaoeaaDoor
