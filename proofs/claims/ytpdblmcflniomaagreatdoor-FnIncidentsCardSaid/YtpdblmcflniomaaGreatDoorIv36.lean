/-
  Several texts in one. No conditions.
-/
import Derived.Test.YtpdblmcflniomaaGreatDoorIv35
import Derived.Test.YtpdblmcflniomaaGreatDoorIv29
import Derived.Test.YtpdblmcflniomaaGreatDoorIv16
import Derived.Test.YtpdblmcflniomaaGreatDoorIv33
import Derived.Test.YtpdblmcflniomaaGreatDoorIv13
import Derived.Test.YtpdblmcflniomaaGreatDoorIv12
import Derived.Test.YtpdblmcflniomaaGreatDoorIv2
import Derived.Test.YtpdblmcflniomaaGreatDoorIv4
import Derived.Test.YtpdblmcflniomaaGreatDoorIv3
import Derived.Shelf.Strings.Shaped
import Derived.Shelf.Small.Wraps
namespace Go.Proofs.YtpdblmcflniomaaGreatDoor
open Go.RowKit

def apF (fs : List Appliance) (s : ByteArray) : Int := indexF (fun a => a.Name.toList == s.toList) fs
def isU (fs : List Appliance) (s : ByteArray) : Bool := decide (apF fs s < 0)
/-- the unknown names of the first k incidents, and of the first j names of the next one -/
def unU (xs : List Incident) (fs : List Appliance) (k j : Nat) : List ByteArray := ((xs.take k).flatMap (·.Names) ++ (nth xs k).Names.take j).filter (isU fs)
def unkL (xs : List Incident) (fs : List Appliance) : List ByteArray := (xs.flatMap (·.Names)).filter (isU fs)
theorem unU_0 (xs : List Incident) (fs : List Appliance) (k : Nat) : unU xs fs k 0 = ((xs.take k).flatMap (·.Names)).filter (isU fs) := by simp [unU]
theorem unU_start (xs : List Incident) (fs : List Appliance) : unU xs fs 0 0 = [] := by simp [unU]
theorem unU_next {xs : List Incident} {fs : List Appliance} {k : Nat} (hk : k < xs.length) : unU xs fs k (nth xs k).Names.length = unU xs fs (k + 1) 0 := by
  rw [unU_0]; unfold unU
  rw [List.take_length, take_succ hk, List.flatMap_append]
  simp
theorem unU_end {xs : List Incident} {fs : List Appliance} {k : Nat} (hk : xs.length ≤ k) : unU xs fs k 0 = unkL xs fs := by rw [unU_0, List.take_of_length_le hk]; rfl
theorem unU_yes {xs : List Incident} {fs : List Appliance} {k j : Nat} (hj : j < (nth xs k).Names.length) (h : apF fs (nth (nth xs k).Names j) < 0) : unU xs fs k (j + 1) = unU xs fs k j ++ [nth (nth xs k).Names j] := by
  unfold unU
  rw [take_succ hj, ← List.append_assoc, List.filter_append]
  simp [isU, h]
theorem unU_no {xs : List Incident} {fs : List Appliance} {k j : Nat} (hj : j < (nth xs k).Names.length) (h : ¬ apF fs (nth (nth xs k).Names j) < 0) : unU xs fs k (j + 1) = unU xs fs k j := by
  unfold unU
  rw [take_succ hj, ← List.append_assoc, List.filter_append]
  simp [isU, h]
theorem flat_mem {xs : List Incident} {k : Nat} (hk : k ≤ xs.length) {t : ByteArray} : t ∈ (xs.take k).flatMap (·.Names) ↔ ∃ i, i < k ∧ t ∈ (nth xs i).Names := by
  rw [List.mem_flatMap]
  constructor
  · rintro ⟨x, hx, ht⟩
    obtain ⟨i, hi, rfl⟩ := List.getElem_of_mem hx
    rw [List.length_take] at hi
    refine ⟨i, by omega, ?_⟩
    rwa [List.getElem_take, nth_ge (by omega : i < xs.length)] at ht
  · rintro ⟨i, hi, ht⟩
    refine ⟨nth xs i, ?_, ht⟩
    rw [List.mem_iff_getElem?]
    exact ⟨i, by rw [List.getElem?_take, if_pos hi]; exact get_nth (by omega)⟩
theorem flat_nodup {xs : List Incident} (hv : Vi xs) : ∀ k, k ≤ xs.length → ((xs.take k).flatMap (·.Names)).Nodup
  | 0, _ => by simp
  | k + 1, hk => by
    have ih := flat_nodup hv k (by omega)
    rw [take_succ (by omega : k < xs.length), List.flatMap_append, List.nodup_append]
    refine ⟨ih, ?_, fun a ha b hb e => ?_⟩
    · simpa using sort_nodup (incB_split (hv.one k (by omega))).2.2.2.1
    · subst e
      obtain ⟨i, hi, hm⟩ := (flat_mem (by omega)).1 ha
      exact hv.dis i k a hi (by omega) hm (by simpa using hb)
theorem unU_nodup {xs : List Incident} {fs : List Appliance} {k j : Nat} (hv : Vi xs) (hk : k < xs.length) : (unU xs fs k j).Nodup := by
  unfold unU
  have h0 : ((xs.take k).flatMap (·.Names) ++ (nth xs k).Names.take j).Nodup := ?_
  · exact List.Pairwise.filter _ h0
  rw [List.nodup_append]
  refine ⟨flat_nodup hv k (by omega), (sort_nodup (incB_split (hv.one k hk)).2.2.2.1).sublist (List.take_sublist _ _), fun a ha b hb e => ?_⟩
  subst e
  obtain ⟨i, hi, hm⟩ := (flat_mem (by omega)).1 ha
  exact hv.dis i k a hi hk hm (List.mem_of_mem_take hb)
theorem unU_fresh {xs : List Incident} {fs : List Appliance} {k j : Nat} (hv : Vi xs) (hk : k < xs.length) (hj : j < (nth xs k).Names.length) : nth (nth xs k).Names j ∉ unU xs fs k j := fun hm => by
  have hm' := (List.mem_filter.1 hm).1
  rcases List.mem_append.1 hm' with h | h
  · obtain ⟨i, hi, hm2⟩ := (flat_mem (by omega)).1 h
    exact hv.dis i k _ hi hk hm2 (nth_mem hj)
  · have hn := sort_nodup (incB_split (hv.one k hk)).2.2.2.1
    rw [← List.take_append_drop j (nth xs k).Names, List.nodup_append] at hn
    refine hn.2.2 _ h _ ?_ rfl
    rw [List.drop_eq_getElem_cons hj, nth_ge hj]
    exact List.mem_cons_self
theorem flat_len {xs : List Incident} (hv : Vi xs) : ∀ k, k ≤ xs.length → ((xs.take k).flatMap (·.Names)).length ≤ 12 * k
  | 0, _ => by simp
  | k + 1, hk => by
    have ih := flat_len hv k (by omega)
    have h := vi_names hv _ (nth_mem (by omega : k < xs.length))
    rw [take_succ (by omega : k < xs.length), List.flatMap_append, List.length_append]
    simp only [List.flatMap_cons, List.flatMap_nil, List.append_nil]
    omega
theorem unU_len {xs : List Incident} {fs : List Appliance} {k j : Nat} (hv : Vi xs) (hk : k < xs.length) : (unU xs fs k j).length ≤ 200 := by
  have h1 := flat_len hv k (by omega)
  have h2 := vi_names hv _ (nth_mem hk)
  have h3 := hv.len
  unfold unU
  refine Nat.le_trans (List.length_filter_le _ _) ?_
  rw [List.length_append, List.length_take]; omega
theorem unk_props {xs : List Incident} {fs : List Appliance} (hv : Vi xs) : (unkL xs fs).Nodup ∧ (unkL xs fs).length ≤ 200 := by
  have h1 := flat_nodup hv xs.length (Nat.le_refl _)
  have h2 := flat_len hv xs.length (Nat.le_refl _)
  have h3 := hv.len
  rw [List.take_length] at h1 h2
  exact ⟨h1.filter _, Nat.le_trans (List.length_filter_le _ _) (by omega)⟩
theorem adL_len {l : List ByteArray} (hn : l.Nodup) : (adL [] l).length = l.length ∧ ∀ t, t ∈ adL [] l ↔ t ∈ l := by
  obtain ⟨_, h2, h3⟩ := adL_props l [] rfl hn (fun s _ => by simp)
  exact ⟨by rw [h2]; simp, fun t => by rw [h3]; simp⟩
theorem adL_snoc (l : List ByteArray) (s : ByteArray) : adL [] (l ++ [s]) = insQ (adL [] l) (posS (adL [] l) s) s := by unfold adL; rw [List.foldl_append]; rfl
def unF (xs : List Incident) (fs : List Appliance) : List ByteArray × Bool := if incsB xs && fleetB fs then (adL [] (unkL xs fs), true) else ([], false)
theorem unF_no {xs : List Incident} {fs : List Appliance} (h : (incsB xs && fleetB fs) = false) : unF xs fs = ([], false) := by unfold unF; rw [if_neg (by rw [h]; exact Bool.false_ne_true)]
theorem unF_yes {xs : List Incident} {fs : List Appliance} (h : incsB xs = true) (h' : fleetB fs = true) : unF xs fs = (adL [] (unkL xs fs), true) := by unfold unF; rw [h, h']; rfl
theorem unF_len (xs : List Incident) (fs : List Appliance) : (unF xs fs).1.length ≤ 1048576 := by
  cases h : (incsB xs && fleetB fs) with
  | false => rw [unF_no h]; simp
  | true =>
    simp only [Bool.and_eq_true] at h
    obtain ⟨h1, h2⟩ := unk_props (fs := fs) (incs_iff.1 h.1)
    rw [unF_yes h.1 h.2]
    show (adL [] (unkL xs fs)).length ≤ _
    rw [(adL_len h1).1]; omega

end Go.Proofs.YtpdblmcflniomaaGreatDoor

namespace Go.Proofs.YtpdblmcflniomaaGreatDoor
open Go.RowKit

theorem join_snoc (x : List UInt8) (r : List (List UInt8)) (a sep : List UInt8) : Lib.join (x :: (r ++ [a])) sep = Lib.join (x :: r) sep ++ sep ++ a := by
  rw [Lib.join_cons, Lib.join_cons]
  unfold Lib.joinTail
  simp
theorem nmT_join {h : ByteArray} {xs : List ByteArray} : ∀ i, i ≤ xs.length → (nmT h xs i).data.toList = h.data.toList ++ Lib.join ((xs.take i).map (·.data.toList)) [44]
  | 0, _ => by simp [nmT, Lib.join_nil]
  | i + 1, hi => by
    have ih := nmT_join (h := h) (xs := xs) i (by omega)
    rw [take_succ (by omega : i < xs.length), List.map_append]
    by_cases h0 : 0 < i
    · rw [nmT_1 h0, ba_app, ba_app, ih]
      obtain ⟨x, r, e⟩ : ∃ x r, (xs.take i).map (·.data.toList) = x :: r := by
        cases hx : (xs.take i).map (·.data.toList) with
        | nil => have := congrArg List.length hx; rw [List.length_map, List.length_take, List.length_nil] at this; omega
        | cons x r => exact ⟨x, r, rfl⟩
      rw [e, List.map_cons, List.map_nil, List.cons_append, join_snoc]
      simp
    · have hi0 : i = 0 := by omega
      subst hi0
      rw [nmT_0 h0, ba_app, ih]
      simp [Lib.join_nil, Lib.join_one]
theorem incT_join (number node : Int) (closed : Bool) (xs : List ByteArray) : hdT number node closed ++ joinB ⟨#[44]⟩ xs = incT number node closed xs := by
  apply ba_ext
  unfold incT
  rw [nmT_join _ (Nat.le_refl _), ba_app, List.take_length]
  rfl
theorem joinS_any (xs : List ByteArray) (sep : ByteArray) (A : Option Addr) (n c : Nat) (w : World) (hs : Sl w A n xs) (hn : n ≤ 1048576) (hc : n ≤ c) (hl : (joinB sep xs).size ≤ 140737488355328) :
    Calls Tryz.prog 91 #[.slice A n c, .string sep] w fun e w' => e = .returned (.string (joinB sep xs)) ∧ Below w.heap.size w w' := by
  have h := hs.1
  subst h
  have hl2 : (Lib.join (xs.map (·.data.toList)) sep.data.toList).length ≤ 140737488355328 := by
    rw [← ba_len] at hl
    unfold joinB at hl
    simpa using hl
  cases xs with
  | nil => exact (Any.strings_Join_none Tryz.laysJoin join_extra A c sep w).mono fun e w' ⟨he, hw⟩ => ⟨he, hw ▸ Below.refl _ _⟩
  | cons x r =>
    obtain ⟨b, o, rfl, hb, _⟩ := hs.str (k := 0) (by simp)
    refine Any.strings_Join Tryz.laysJoin join_extra b o c (x :: r) sep w (fun j y hy => ?_) hb (by omega) hc hl2
    have hj : j < (x :: r).length := (List.getElem?_eq_some_iff.1 hy).1
    obtain ⟨b', o', e, _, hcell⟩ := hs.str hj
    injection e with e
    injection e with e1 e2
    subst e1 e2
    rw [hcell, nth_get hy]

end Go.Proofs.YtpdblmcflniomaaGreatDoor

namespace Go.Proofs.YtpdblmcflniomaaGreatDoor
open Go.RowKit

theorem index_at {l r : List UInt8} {c : UInt8} (h : c ∉ l) : Lib.index (l ++ c :: r) [c] = (l.length : Int) := by
  rw [Lib.index_one]
  have e0 : (l ++ c :: r)[l.length]? = some c := by rw [List.getElem?_append_right (Nat.le_refl _)]; simp
  have hs : (⟨(l ++ c :: r).toArray⟩ : ByteArray).data.toList = l ++ c :: r := rfl
  have hix : Lib.indexB ⟨(l ++ c :: r).toArray⟩ ⟨#[c]⟩ = Lib.indexByte (l ++ c :: r) c := Lib.index_one _ c
  rcases Lib.indexB_cases ⟨(l ++ c :: r).toArray⟩ ⟨#[c]⟩ with h1 | ⟨i, h1, _⟩
  · rw [hix] at h1
    exact absurd e0 (Lib.indexByte_none h1 _)
  · rw [hix] at h1
    obtain ⟨h2, h3⟩ := Lib.indexByte_some h1
    rw [h1]
    rcases Nat.lt_trichotomy i l.length with h4 | h4 | h4
    · rw [List.getElem?_append_left h4] at h2
      exact absurd (List.mem_of_getElem? h2) h
    · rw [h4]
    · exact absurd e0 (h3 _ h4)
theorem cut_len (s p : List UInt8) : (Lib.cut s p).1.length ≤ s.length ∧ (Lib.cut s p).2.1.length ≤ s.length := by
  unfold Lib.cut
  split
  · constructor
    · simp only [List.length_take]; omega
    · simp only [List.length_drop]; omega
  · simp
theorem cut_any (s : ByteArray) (c : UInt8) (w : World) (hs : s.size ≤ 1048576) (he : Env w) :
    Calls Tryz.prog 66 #[.string s, .string ⟨#[c]⟩] w fun e w' => ∃ a b f, e = .returned (.tuple #[.string a, .string b, .bool f]) ∧ (a.size ≤ 1048576 ∧ b.size ≤ 1048576) ∧ Hid (∀ l r : List UInt8, c ∉ l → s.data.toList = l ++ c :: r → a = ⟨l.toArray⟩ ∧ b = ⟨r.toArray⟩) ∧ Below w.heap.size w w' := by
  obtain ⟨m, hm⟩ := he.len
  have hsl : s.data.toList.length = s.size := ba_len s
  obtain ⟨h1, h2⟩ := cut_len s.data.toList [c]
  refine (Any.strings_Cut { Tryz.laysCut with } s ⟨#[c]⟩ m w (by omega) hm).mono fun e w' ⟨hr, q, hw⟩ => ⟨_, _, _, hr, ⟨?_, ?_⟩, fun l r hn hl => ?_, by rw [hw]; exact bl_drewN (bl_refl _) _⟩
  · show (Lib.cut s.data.toList [c]).1.toArray.size ≤ _
    rw [List.size_toArray]; omega
  · show (Lib.cut s.data.toList [c]).2.1.toArray.size ≤ _
    rw [List.size_toArray]; omega
  · have e1 : Lib.cut s.data.toList [c] = (l, r, true) := by
      unfold Lib.cut
      rw [hl, index_at hn, if_pos (by omega)]
      simp
    show (⟨(Lib.cut s.data.toList [c]).1.toArray⟩ : ByteArray) = _ ∧ (⟨(Lib.cut s.data.toList [c]).2.1.toArray⟩ : ByteArray) = _
    rw [e1]
    exact ⟨rfl, rfl⟩
theorem cutSuffix_any (s : ByteArray) (c : UInt8) (w : World) (hs : s.size ≤ 1048576) :
    Calls Tryz.prog 67 #[.string s, .string ⟨#[c]⟩] w fun e w' => ∃ a f, e = .returned (.tuple #[.string a, .bool f]) ∧ a.size ≤ 1048576 ∧ Hid ((∀ l : List UInt8, s.data.toList = l ++ [c] → a = ⟨l.toArray⟩ ∧ f = true) ∧ ((∀ l : List UInt8, s.data.toList ≠ l ++ [c]) → a = s ∧ f = false)) ∧ w' = w := by
  have hsl : s.data.toList.length = s.size := ba_len s
  refine (Any.strings_CutSuffix Tryz.laysCutSuffix s ⟨#[c]⟩ w (by omega)).mono fun e w' ⟨hr, hw⟩ => ⟨_, _, hr, ?_, ⟨fun l hl => ?_, fun hno => ?_⟩, hw⟩
  · show (Lib.trimSuffix s.data.toList [c]).toArray.size ≤ _
    rw [List.size_toArray]
    unfold Lib.trimSuffix
    split
    · simp only [List.length_take]; omega
    · omega
  · have e1 : Lib.hasSuffix s.data.toList [c] = true := by
      unfold Lib.hasSuffix
      rw [List.isSuffixOf_iff_suffix, hl]
      exact List.suffix_append _ _
    refine ⟨?_, e1⟩
    show (⟨(Lib.trimSuffix s.data.toList [c]).toArray⟩ : ByteArray) = _
    unfold Lib.trimSuffix
    rw [if_pos e1, hl]
    simp
  · have e1 : Lib.hasSuffix s.data.toList [c] = false := by
      cases h : Lib.hasSuffix s.data.toList [c] with
      | false => rfl
      | true =>
        unfold Lib.hasSuffix at h
        rw [List.isSuffixOf_iff_suffix] at h
        obtain ⟨t, ht⟩ := h
        exact absurd ht.symm (hno t)
    refine ⟨?_, e1⟩
    show (⟨(Lib.trimSuffix s.data.toList [c]).toArray⟩ : ByteArray) = _
    unfold Lib.trimSuffix
    rw [if_neg (by rw [e1]; exact Bool.false_ne_true)]
theorem splitO_any (s : ByteArray) (c : UInt8) (w : World) (hs : s.size ≤ 1048576) (he : Env w) :
    Calls Tryz.prog 69 #[.string s, .string ⟨#[c]⟩] w (RetOwn w 9 (cutB c s)) := by
  obtain ⟨m, hm⟩ := he.len
  refine (Any.strings_Split { Tryz.laysSplit with } Tryz.laysSplit.i9 s ⟨#[c]⟩ m w (by omega) hm (Nat.le_refl 1)).mono fun e w' ⟨h1, h2⟩ => ?_
  have hl : Lib.countB s ⟨#[c]⟩ + 1 = (cutB c s).length := by rw [← splitB_cut c s.size s (Nat.le_refl _), Lib.splitB_all ⟨#[c]⟩ (Nat.le_refl 1) 0 _ s rfl]
  rw [hl] at h1
  rw [splitB_cut c s.size s (Nat.le_refl _)] at h2
  have hcl : cellsOf (cutB c s) = (cutB c s).map (fun s => Value.string s) := by
    induction (cutB c s) with
    | nil => rfl
    | cons a l ih =>
      have h : cellsOf (a :: l) = Flat.enc a ++ cellsOf l := rfl
      rw [h, ih]; rfl
  have hsz : Flat.sz ByteArray = 1 := rfl
  have hcs : (cutB c s).length ≤ s.size + 1 := by rw [← hl]; have := Lib.countB_le ⟨#[c]⟩ (Nat.le_refl 1) s.size s (Nat.le_refl _); omega
  refine ⟨some ⟨w.heap.size, 0, none⟩, (cutB c s).length, h1, ?_, by rw [h2]; exact bl_alloc (bl_refl _) _⟩
  unfold Own
  rw [hcl, hsz]
  refine ⟨by simp, .inr ⟨w.heap.size, (cutB c s).length, ((cutB c s).map (fun s => Value.string s)).toArray, rfl, Nat.le_refl _, ?_, Nat.le_refl _, by unfold maxLen; omega, by simp, by simp only [Nat.mul_one]; exact List.take_of_length_le (by simp)⟩⟩
  rw [h2]
  simp only [World.alloc, Array.getElem?_push_size]
  rfl

end Go.Proofs.YtpdblmcflniomaaGreatDoor
