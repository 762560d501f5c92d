/-
  ParseIncident: small facts. No conditions.
-/
import Derived.Test.YtpdblmcflniomaaGreatDoorPiQ
import Derived.Test.YtpdblmcflniomaaGreatDoorIv33
import Derived.Test.YtpdblmcflniomaaGreatDoorIv6
namespace Go.Proofs.YtpdblmcflniomaaGreatDoor
open Go.RowKit

theorem emp0S {m : ByteArray} (h : m.size = 0) : m.toList.isEmpty = true := by
  have h5 : m.data.toList.length = m.size := ba_len m
  rw [Lib.toList_data, List.eq_nil_of_length_eq_zero (h5.trans h)]; rfl
theorem empNS {m : ByteArray} (h : m.size ≠ 0) : m.toList.isEmpty = false := by
  have h5 : m.data.toList.length = m.size := ba_len m
  rw [Lib.toList_data]
  cases hl : m.data.toList with
  | nil => rw [hl] at h5; exact absurd h5.symm h
  | cons a l => rfl
theorem size0S {m : ByteArray} (h : m.size = 0) : m = ⟨#[]⟩ := by
  apply ba_ext
  have h5 : m.data.toList.length = m.size := ba_len m
  rw [List.eq_nil_of_length_eq_zero (h5.trans h)]
theorem sizeNS {m : ByteArray} (h : m.size ≠ 0) : (m.toList == (⟨#[]⟩ : ByteArray).toList) = false := by
  rw [bytes_beq]
  cases hc : sameB m ⟨#[]⟩ with
  | false => rfl
  | true => exact absurd (by rw [sameB_iff.1 hc]; rfl) h
theorem cut_manyS {c : UInt8} {s : ByteArray} (hs : s.size ≤ 1048576) : (cutB c s).length ≤ 1048577 := by
  have hl : Lib.countB s ⟨#[c]⟩ + 1 = (cutB c s).length := by rw [← splitB_cut c s.size s (Nat.le_refl _), Lib.splitB_all ⟨#[c]⟩ (Nat.le_refl 1) 0 _ s rfl]
  have := Lib.countB_le ⟨#[c]⟩ (Nat.le_refl 1) s.size s (Nat.le_refl _)
  omega
theorem good_size {s : ByteArray} {x : Incident} (h : GoodI s x) : s.size ≤ 120 := by
  obtain ⟨h1, h2, h3, h4⟩ := good_bd h
  rw [← h.2]
  have := nmT_len (h := hdT x.Number x.Node x.Closed) (hdT_len x.Closed h1 h2) h4 x.Names.length (Nat.le_refl _)
  unfold incT
  omega

end Go.Proofs.YtpdblmcflniomaaGreatDoor
