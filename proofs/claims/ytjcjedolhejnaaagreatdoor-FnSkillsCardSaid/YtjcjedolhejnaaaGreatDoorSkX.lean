/-
  Several texts in one. No conditions.
-/
import Derived.Test.YtjcjedolhejnaaaGreatDoorSkillB
import Derived.Test.YtjcjedolhejnaaaGreatDoorLibK
import Derived.Test.YtjcjedolhejnaaaGreatDoorMem7
import Derived.Test.YtjcjedolhejnaaaGreatDoorInts
import Derived.Test.YtjcjedolhejnaaaGreatDoorStPq
import Derived.Test.YtjcjedolhejnaaaGreatDoorJnEq
import Derived.Test.YtjcjedolhejnaaaGreatDoorSkLr
namespace Go.Proofs.YtjcjedolhejnaaaGreatDoor
open Go.RowKit

def hasP (person : ByteArray) (kind day : Int) (x : Skill) : Bool := x.Person.toList == person.toList && x.Kind == kind && decide (x.Until ≥ day)
def hasB (xs : List Skill) (person : ByteArray) (kind day : Int) : Bool := xs.any (hasP person kind day)
theorem any_no {α : Type} [Inhabited α] {p : α → Bool} {xs : List α} (h : ∀ j, j < xs.length → p (nth xs j) = false) : xs.any p = false := by
  rw [any_index, indexF_none h]; rfl
theorem any_yes {α : Type} [Inhabited α] {p : α → Bool} {xs : List α} {k : Nat} (hk : k < xs.length) (h : p (nth xs k) = true) : xs.any p = true := by
  rw [List.any_eq_true]; exact ⟨_, nth_mem hk, h⟩
theorem enters_isQ : Enters Tryz.prog 79 := enters_of Tryz.func79 (by kernel_rfl) (by kernel_rfl)
set_option maxHeartbeats 1000000 in
theorem pred_isQ (w : World) (a b c : Addr) (person : ByteArray) (kind day : Int) (ha : w.cell? a = some (.string person)) (hb : w.cell? b = some (.int .i64 kind)) (hc : w.cell? c = some (.int .i64 day)) (xs : List Skill) :
    Pred Tryz.prog w [] xs 79 SkillVal #[.pointer (some a), .pointer (some b), .pointer (some c)] (hasP person kind day) := by
  intro W x _ hb0
  have hbb := hb0.nil_below
  have ha' := cell_later hbb ha
  have hb' := cell_later hbb hb
  have hc' := cell_later hbb hc
  have hz1 := World.block_lt_of_cell? W _ ha'
  have hz2 := World.block_lt_of_cell? W _ hb'
  have hz3 := World.block_lt_of_cell? W _ hc'
  clear ha hb hc hbb hb0
  show Calls _ _ #[SkillVal x, .pointer (some a), .pointer (some b), .pointer (some c)] W _
  unfold SkillVal
  cases e0 : x.Person.toList == person.toList
  · have q : Hid (hasP person kind day x = false) := by rw [Hid, hasP, e0]; simp
    go_enter Tryz.func79, Tryz.ntmps79
    go_wp2
    go_ret
    exact ⟨ret_bool q.out.symm, bl_alloc (bl_refl _) _⟩
  cases e1 : x.Kind == kind
  · have q : Hid (hasP person kind day x = false) := by rw [Hid, hasP, e0, e1]; simp
    go_enter Tryz.func79, Tryz.ntmps79
    go_wp2
    go_ret
    exact ⟨ret_bool q.out.symm, bl_alloc (bl_refl _) _⟩
  cases e2 : decide (x.Until ≥ day)
  · have q : Hid (hasP person kind day x = false) := by rw [Hid, hasP, e0, e1, e2]; simp
    go_enter Tryz.func79, Tryz.ntmps79
    go_wp2
    go_ret
    exact ⟨ret_bool q.out.symm, bl_alloc (bl_refl _) _⟩
  have q : Hid (hasP person kind day x = true) := by rw [Hid, hasP, e0, e1, e2]; rfl
  go_enter Tryz.func79, Tryz.ntmps79
  go_wp2
  go_ret
  exact ⟨ret_bool q.out.symm, bl_alloc (bl_refl _) _⟩
theorem isQualified_any (xs : List Skill) (person : ByteArray) (kind day : Int) (A : Option Addr) (n c : Nat) (w : World) (hn : (n : Int) ≤ 9223372036854775807) (hs : Sl w A n xs) :
    Calls Tryz.prog 45 #[.slice A n c, .string person, .int .i64 kind, .int .i64 day] w fun e w' => e = .returned (.bool (hasB xs person kind day)) ∧ Below w.heap.size w w' := by
  have hk := bl_alloc (bl_alloc (bl_alloc (bl_refl w) (.cells #[.string person] 9)) (.cells #[.int .i64 kind] 3)) (.cells #[.int .i64 day] 3)
  go_enter Tryz.func45, Tryz.ntmps45
  go_wp2_with fail
  refine (containsFunc_skill xs _ _ _ _ _ _ _ hn (hs.below hk) enters_isQ _ (pred_isQ _ ⟨w.heap.size, 0, none⟩ ⟨w.heap.size + 1, 0, none⟩ ⟨w.heap.size + 1 + 1, 0, none⟩ person kind day (by go_simp) (by go_simp) (by go_simp) xs)).mono ?_
  rintro e V ⟨rfl, hV⟩
  go_wp2
  go_ret
  exact ⟨rfl, bl_trans hk hV⟩

end Go.Proofs.YtjcjedolhejnaaaGreatDoor

namespace Go.Proofs.YtjcjedolhejnaaaGreatDoor
open Go.RowKit

theorem ret_bb {a a' b b' : Bool} (h : a = a') (h' : b = b') : Ending.returned (.tuple #[.bool a, .bool b]) = .returned (.tuple #[.bool a', .bool b']) := by rw [h, h']
theorem ret_ib {a a' : Int} {b b' : Bool} (h : a = a') (h' : b = b') : Ending.returned (.tuple #[.int .i64 a, .bool b]) = .returned (.tuple #[.int .i64 a', .bool b']) := by rw [h, h']
def qualF (xs : List Skill) (person : ByteArray) (kind day : Int) : Bool × Bool := if skillsB xs && nameB person && inB kind 0 5 && inB day 0 20000 then (hasB xs person kind day, true) else (false, false)
theorem qualF_yes {xs : List Skill} {person : ByteArray} {kind day : Int} (h : (skillsB xs && nameB person && inB kind 0 5 && inB day 0 20000) = true) : qualF xs person kind day = (hasB xs person kind day, true) := by unfold qualF; rw [if_pos h]
theorem qualF_no {xs : List Skill} {person : ByteArray} {kind day : Int} (h : (skillsB xs && nameB person && inB kind 0 5 && inB day 0 20000) = false) : qualF xs person kind day = (false, false) := by unfold qualF; rw [if_neg (by rw [h]; exact Bool.false_ne_true)]
set_option maxHeartbeats 4000000 in
theorem implIsQualified_any (xs : List Skill) (person : ByteArray) (kind day : Int) (A : Option Addr) (n c : Nat) (w : World) (hz : person.size ≤ maxLen) (hn : (n : Int) ≤ 9223372036854775807) (hs : Sl w A n xs) (hv : ∀ x, x ∈ xs → x.Person.size ≤ maxLen) :
    Calls Tryz.prog 9 #[.slice A n c, .string person, .int .i64 kind, .int .i64 day] w fun e w' => e = .returned (.tuple #[.bool (qualF xs person kind day).1, .bool (qualF xs person kind day).2]) ∧ Below w.heap.size w w' := by
  have HV := Lib.hid hv
  have HL := Lib.hid hs.1
  clear hv
  go_enter Tryz.func9, Tryz.ntmps9
  have hk0 := bl_refl w
  go_wp2_with fail
  refine (areSkills_any xs _ _ _ _ hn hs HV.out).mono ?_
  rintro e V1 ⟨rfl, hb1⟩
  have hB1 := bl_trans (a := w) (bl_refl _) hb1
  have hk1 := bl_trans hk0 hB1
  have z1 := Lib.hid hB1.size
  cases h0 : skillsB xs
  · have Hz := Lib.hid (qualF_no (xs := xs) (person := person) (kind := kind) (day := day) (by rw [h0]; first | done | simp))
    clear h0
    go_wp2
    go_ret2
    exact ⟨ret_bb (by rw [Hz.out]) (by rw [Hz.out]), hk1⟩
  have H0 := Lib.hid h0
  clear h0
  go_wp2_with fail
  refine (isName_any person _ hz).mono ?_
  rintro e V2 ⟨rfl, hb2⟩
  have hB2 := bl_trans (a := V1) (bl_refl _) hb2
  have hk2 := bl_trans hk1 hB2
  have z2 := Lib.hid hB2.size
  clear hk1
  cases h1 : nameB person
  · have Hz := Lib.hid (qualF_no (xs := xs) (person := person) (kind := kind) (day := day) (by rw [h1]; first | done | simp))
    clear h1
    go_wp2
    go_ret2
    exact ⟨ret_bb (by rw [Hz.out]) (by rw [Hz.out]), hk2⟩
  have H1 := Lib.hid h1
  clear h1
  go_wp2_with fail
  refine (isKind_any kind _).mono ?_
  rintro _ V2 ⟨rfl, rfl⟩
  cases h2 : inB kind 0 5
  · have Hz := Lib.hid (qualF_no (xs := xs) (person := person) (kind := kind) (day := day) (by rw [h2]; first | done | simp))
    clear h2
    go_wp2
    go_ret2
    exact ⟨ret_bb (by rw [Hz.out]) (by rw [Hz.out]), hk2⟩
  have H2 := Lib.hid h2
  clear h2
  go_wp2_with fail
  refine (isDay_any day _).mono ?_
  rintro _ V2 ⟨rfl, rfl⟩
  cases h3 : inB day 0 20000
  · have Hz := Lib.hid (qualF_no (xs := xs) (person := person) (kind := kind) (day := day) (by rw [h3]; first | done | simp))
    clear h3
    go_wp2
    go_ret2
    exact ⟨ret_bb (by rw [Hz.out]) (by rw [Hz.out]), hk2⟩
  have H3 := Lib.hid h3
  clear h3
  have Hz := Lib.hid (qualF_yes (xs := xs) (person := person) (kind := kind) (day := day) (by rw [H0.out, H1.out, H2.out, H3.out]; rfl))
  go_wp2_with fail
  refine (isQualified_any xs person kind day _ _ _ _ hn (hs.below hk2)).mono ?_
  rintro e V3 ⟨rfl, hb3⟩
  have hB3 := bl_trans (a := V2) (bl_refl _) hb3
  have hk3 := bl_trans hk2 hB3
  have z3 := Lib.hid hB3.size
  clear hk2
  go_wp2
  go_ret2
  exact ⟨ret_bb (by rw [Hz.out]) (by rw [Hz.out]), hk3⟩

end Go.Proofs.YtjcjedolhejnaaaGreatDoor

namespace Go.Proofs.YtjcjedolhejnaaaGreatDoor
open Go.RowKit

theorem filt_yes {α : Type} [Inhabited α] {p : α → Bool} {xs : List α} {k : Nat} (hk : k < xs.length) (h : p (nth xs k) = true) : (xs.take (k + 1)).filter p = (xs.take k).filter p ++ [nth xs k] := by
  rw [take_succ hk, List.filter_append]; simp [h]
theorem filt_no {α : Type} [Inhabited α] {p : α → Bool} {xs : List α} {k : Nat} (hk : k < xs.length) (h : p (nth xs k) = false) : (xs.take (k + 1)).filter p = (xs.take k).filter p := by
  rw [take_succ hk, List.filter_append]; simp [h]
def isP (person : ByteArray) (x : Skill) : Bool := x.Person.toList == person.toList
def dropL (xs : List Skill) (person : ByteArray) : List Skill := xs.filter (fun x => !isP person x)
def dropF (xs : List Skill) (person : ByteArray) : List Skill × Bool := if skillsB xs && nameB person && !decide ((dropL xs person).length = xs.length) then (dropL xs person, true) else ([], false)
theorem dropF_yes {xs : List Skill} {person : ByteArray} (h : skillsB xs = true) (h' : nameB person = true) (h2 : ¬ (dropL xs person).length = xs.length) : dropF xs person = (dropL xs person, true) := by unfold dropF; rw [h, h', decide_eq_false h2]; rfl
theorem dropF_no {xs : List Skill} {person : ByteArray} (h : (skillsB xs && nameB person && !decide ((dropL xs person).length = xs.length)) = false) : dropF xs person = ([], false) := by unfold dropF; rw [h]; rfl
theorem dropF_len (xs : List Skill) (person : ByteArray) : (dropF xs person).1.length ≤ 1048576 := by
  unfold dropF; split
  · rename_i h
    simp only [Bool.and_eq_true] at h
    have h1 := skillsB_len h.1.1
    have h2 : (dropL xs person).length ≤ xs.length := List.length_filter_le _ _
    simp only; omega
  · simp
theorem enters_drop : Enters Tryz.prog 47 := enters_of Tryz.func47 (by kernel_rfl) (by kernel_rfl)
theorem pred_drop (w0 w : World) (F : List Nat) (B : Nat) (person : ByteArray) (hb0 : Below w0.heap.size w0 w) (hF : ∀ k, k ∈ F → w0.heap.size ≤ k) (ha : w0.cell? ⟨B, 0, none⟩ = some (.string person)) (xs : List Skill) :
    Pred Tryz.prog w F xs 47 SkillVal #[.pointer (some ⟨B, 0, none⟩)] (isP person) := by
  intro W x _ hof
  have hb : Below w0.heap.size w0 W := hb0.trans ⟨hof.os, hof.tape, hof.output, hof.size, fun k hk => hof.block k (Nat.lt_of_lt_of_le hk hb0.size) (fun hm => by have := hF k hm; omega)⟩
  have ha' := cell_later hb ha
  have hz : B < W.heap.size := World.block_lt_of_cell? W _ ha'
  clear ha hb0 hF hof hb
  show Calls _ _ #[SkillVal x, .pointer (some ⟨B, 0, none⟩)] W _
  unfold SkillVal isP
  go_enter Tryz.func47, Tryz.ntmps47
  go_wp2
  go_ret
  exact ⟨rfl, bl_alloc (bl_refl _) _⟩
set_option maxHeartbeats 4000000 in
theorem specDropPerson_any (xs : List Skill) (person : ByteArray) (A : Option Addr) (n c : Nat) (w : World) (hz : person.size ≤ maxLen) (hn : (n : Int) ≤ 9223372036854775807) (hs : Sl w A n xs) (hv : ∀ x, x ∈ xs → x.Person.size ≤ maxLen) :
    Calls Tryz.prog 13 #[.slice A n c, .string person] w (RetOwn2 w 62 (dropF xs person)) := by
  have HV := Lib.hid hv
  have HL := Lib.hid hs.1
  clear hv
  go_enter Tryz.func13, Tryz.ntmps13
  have hk0 := bl_refl w
  go_wp2_with fail
  refine (drGood_any xs _ _ _ _ hn hs HV.out).mono ?_
  rintro e V1 ⟨rfl, hb1⟩
  have hB1 := bl_trans (a := w) (bl_refl _) hb1
  have hk1 := bl_trans hk0 hB1
  have z1 := Lib.hid hB1.size
  cases h0 : skillsB xs
  · have Hz := Lib.hid (dropF_no (xs := xs) (person := person) (by rw [h0]; first | done | simp))
    clear h0
    go_wp2
    go_ret2
    exact retOwn2_mk Hz.out (Own.nil _ _ _) hk1
  have H0 := Lib.hid h0
  clear h0
  go_wp2_with fail
  refine (apName_any person _ hz).mono ?_
  rintro e V2 ⟨rfl, hb2⟩
  have hB2 := bl_trans (a := V1) (bl_refl _) hb2
  have hk2 := bl_trans hk1 hB2
  have z2 := Lib.hid hB2.size
  clear hk1
  cases h1 : nameB person
  · have Hz := Lib.hid (dropF_no (xs := xs) (person := person) (by rw [h1]; first | done | simp))
    clear h1
    go_wp2
    go_ret2
    exact retOwn2_mk Hz.out (Own.nil _ _ _) hk2
  have H1 := Lib.hid h1
  clear h1
  have hn2 : n ≤ 24 := by have := skillsB_len H0.out; have := HL.out; omega
  go_wp2
  go_loopw [6, 19] (fun v i wr => ∃ (k q c' : Nat) (A' : Option Addr), k ≤ n ∧ i = .int .i64 k ∧ v = .slice A' q c' ∧ q ≤ k ∧ Own wr w.heap.size 62 (.slice A' q c') ((xs.take k).filter (fun x => !isP person x)) ∧ Below w.heap.size w wr) (fun _ i _ => n - (intOf i).toNat)
  case atStart => exact ⟨0, 0, 0, none, Nat.zero_le _, rfl, rfl, Nat.le_refl _, Own.nil _ _ _, hk2⟩
  case round =>
    obtain ⟨k, q, c', A', hk, rfl, rfl, hq, ho, hb⟩ := hrel
    by_cases hlt : k < n
    · obtain ⟨b, o, rfl, hbz, c0, c1, c2⟩ := (hs.below hb).skill hlt
      have hkx : Hid (k < xs.length) := by rw [Hid, HL.out]; exact hlt
      clear hs
      cases hp : (nth xs k).Person.toList == person.toList
      · have hp2 : Hid ((!isP person (nth xs k)) = true) := by rw [Hid, isP, hp]; rfl
        go_wp2_with ((at_builtin; refine wpList_app1g rfl (.tmp 27) (.tmp 29) _ _ rfl el_skill (nth xs k) rfl (ho.alloc _) (bl_alloc hb _) rfl (by simp) (by omega) ?_; intro A2 c2 w2 ho2 hb2 hg2))
        go_roundw
        case rel => exact ⟨k + 1, q + 1, c2, A2, by omega, by go_num, rfl, by omega, by rw [filt_yes (p := fun x => !isP person x) hkx.out hp2.out]; exact ho2, hb2⟩
        case measure => simp [intOf]; omega
      · have hp2 : Hid ((!isP person (nth xs k)) = false) := by rw [Hid, isP, hp]; rfl
        go_wp2
        go_roundw
        case rel => exact ⟨k + 1, q, c', A', by omega, by go_num, rfl, by omega, by rw [filt_no (p := fun x => !isP person x) hkx.out hp2.out]; exact ho.alloc _, bl_alloc hb _⟩
        case measure => simp [intOf]; omega
    · obtain rfl : k = n := by omega
      have hfin : Hid ((xs.take k).filter (fun x => !isP person x) = dropL xs person) := by rw [Hid, List.take_of_length_le (by rw [HL.out]; exact Nat.le_refl _)]; rfl
      have hq2 := ho.sl.1
      rw [hfin.out] at ho hq2
      have hq3 := Lib.hid hq2
      clear hq2
      by_cases he : q = k
      · have he2 : ((q : Int) == (k : Int)) = true := by simp [he]
        have Hz := Lib.hid (dropF_no (xs := xs) (person := person) (by rw [decide_eq_true (by rw [hq3.out, HL.out]; exact he)]; simp))
        clear he
        go_wp2
        go_ret2
        exact retOwn2_mk Hz.out (Own.nil _ _ _) hb
      · have he2 : ((q : Int) == (k : Int)) = false := by simp; omega
        have Hz := Lib.hid (dropF_yes H0.out H1.out (by rw [hq3.out, HL.out]; exact he))
        go_wp2
        go_ret2
        exact retOwn2_mk Hz.out ho hb
set_option maxHeartbeats 4000000 in
theorem implDropPerson_any (xs : List Skill) (person : ByteArray) (A : Option Addr) (n c : Nat) (w : World) (hz : person.size ≤ maxLen) (hn : (n : Int) ≤ 9223372036854775807) (hs : Sl w A n xs) (hv : ∀ x, x ∈ xs → x.Person.size ≤ maxLen) :
    Calls Tryz.prog 12 #[.slice A n c, .string person] w (RetOwn2 w 62 (dropF xs person)) := by
  have HV := Lib.hid hv
  have HL := Lib.hid hs.1
  clear hv
  go_enter Tryz.func12, Tryz.ntmps12
  have hk0 := bl_refl w
  go_wp2_with fail
  refine (areSkills_any xs _ _ _ _ hn (hs.below (bl_trans hk0 (by repeat' (first | exact bl_refl _ | refine bl_alloc ?_ _ | refine bl_drew ?_ | refine bl_drewN ?_ _ | refine bl_set ?_ ?_ _ | (simp; done) | (simp; omega))))) HV.out).mono ?_
  rintro e V1 ⟨rfl, hb1⟩
  have hB1 := bl_trans (a := w) (by repeat' (first | exact bl_refl _ | refine bl_alloc ?_ _ | refine bl_drew ?_ | refine bl_drewN ?_ _ | refine bl_set ?_ ?_ _ | (simp; done) | (simp; omega))) hb1
  have hk1 := bl_trans hk0 hB1
  have z1 : Hid (w.heap.size + 1 ≤ V1.heap.size) := by have := hb1.size; simp only [World.size_alloc] at this; exact (by omega : _)
  have bp_0_1 : V1.cell? ⟨w.heap.size, 0, none⟩ = some (.string person) := cell_later hb1 (by go_simp)
  have lp_1 : w.heap.size < V1.heap.size := World.block_lt_of_cell? _ _ bp_0_1
  cases h0 : skillsB xs
  · have Hz := Lib.hid (dropF_no (xs := xs) (person := person) (by rw [h0]; first | done | simp))
    clear h0
    go_wp2
    go_ret2
    exact retOwn2_mk Hz.out (Own.nil _ _ _) hk1
  have H0 := Lib.hid h0
  clear h0
  go_wp2_with fail
  refine (isName_any person _ hz).mono ?_
  rintro e V2 ⟨rfl, hb2⟩
  have hB2 := bl_trans (a := V1) (bl_refl _) hb2
  have hk2 := bl_trans hk1 hB2
  have z2 := Lib.hid hB2.size
  have bp_0_2 : V2.cell? ⟨w.heap.size, 0, none⟩ = some (.string person) := cell_later hB2 bp_0_1
  have lp_2 : w.heap.size < V2.heap.size := World.block_lt_of_cell? _ _ bp_0_2
  clear hk1 bp_0_1 lp_1
  cases h1 : nameB person
  · have Hz := Lib.hid (dropF_no (xs := xs) (person := person) (by rw [h1]; first | done | simp))
    clear h1
    go_wp2
    go_ret2
    exact retOwn2_mk Hz.out (Own.nil _ _ _) hk2
  have H1 := Lib.hid h1
  clear h1
  have hn2 : n ≤ 24 := by have := skillsB_len H0.out; have := HL.out; omega
  go_wp2_with fail
  refine (clone_skill xs _ _ _ _ (by omega) (hs.below hk2)).mono ?_
  rintro e V3 ⟨A_c, c_c, rfl, ho_c, hb3⟩
  have hl_c := ho_c.lies
  have hb_c := hb3
  have hp_c := bp_0_2
  have hB3 := bl_trans (a := V2) (bl_refl _) hb3
  have hk3 := bl_trans hk2 hB3
  have z3 := Lib.hid hB3.size
  have bp_0_3 : V3.cell? ⟨w.heap.size, 0, none⟩ = some (.string person) := cell_later hB3 bp_0_2
  have lp_3 : w.heap.size < V3.heap.size := World.block_lt_of_cell? _ _ bp_0_3
  clear hk2 bp_0_2 lp_2
  go_wp2_with fail
  refine (deleteFunc_skill xs _ _ _ _ _ _ (isP person) _ (by have := HL.out; omega) ho_c enters_drop (pred_drop V2 _ _ _ person hb_c (fun k hk => (hl_c k hk).1) hp_c xs)).mono ?_
  rintro e VD ⟨q, rfl, ho2, hq, hof⟩
  have hbk := below_only hk3 hof hl_c (by have := z1.out; have := z2.out; have := z3.out; omega)
  have hq3 : Hid ((dropL xs person).length = q) := ho2.sl.1
  have ho3 : Own VD w.heap.size 62 (.slice A_c q c_c) (dropL xs person) := ho2.mono (by have := z1.out; have := z2.out; have := z3.out; omega)
  clear ho_c ho2 hl_c hp_c
  by_cases he : q = n
  · have he2 : ((q : Int) == (n : Int)) = true := by simp [he]
    have Hz := Lib.hid (dropF_no (xs := xs) (person := person) (by rw [decide_eq_true (by rw [hq3.out, HL.out]; exact he)]; simp))
    clear he
    go_wp2
    go_ret2
    exact retOwn2_mk Hz.out (Own.nil _ _ _) hbk
  · have he2 : ((q : Int) == (n : Int)) = false := by simp; omega
    have Hz := Lib.hid (dropF_yes H0.out H1.out (by rw [hq3.out, HL.out]; exact he))
    go_wp2
    go_ret2
    exact retOwn2_mk Hz.out ho3 hbk

end Go.Proofs.YtjcjedolhejnaaaGreatDoor

namespace Go.Proofs.YtjcjedolhejnaaaGreatDoor
open Go.RowKit

def cntB (kind day : Int) (x : Skill) : Bool := x.Kind == kind && decide (x.Until ≥ day)
def cnt (xs : List Skill) (kind day : Int) : Int := ((xs.filter (cntB kind day)).length : Int)
theorem cnt_yes {xs : List Skill} {kind day : Int} {k : Nat} (hk : k < xs.length) (h : cntB kind day (nth xs k) = true) : cnt (xs.take (k + 1)) kind day = cnt (xs.take k) kind day + 1 := by
  unfold cnt; rw [take_succ hk, List.filter_append]; simp [h]
theorem cnt_no {xs : List Skill} {kind day : Int} {k : Nat} (hk : k < xs.length) (h : cntB kind day (nth xs k) = false) : cnt (xs.take (k + 1)) kind day = cnt (xs.take k) kind day := by
  unfold cnt; rw [take_succ hk, List.filter_append]; simp [h]
theorem cnt_in (xs : List Skill) (kind day : Int) (k : Nat) : 0 ≤ cnt (xs.take k) kind day ∧ cnt (xs.take k) kind day ≤ k := by
  unfold cnt
  have h := List.length_filter_le (cntB kind day) (xs.take k)
  rw [List.length_take] at h
  omega
def cntL (xs : List Skill) (day : Int) : List Int := (List.range 6).map (fun j : Nat => cnt xs j day)
theorem cntL_nth {xs : List Skill} {day : Int} {j : Nat} (hj : j < 6) : nth (cntL xs day) j = cnt xs j day := nth_get (by simp [cntL, hj])
theorem cntL_len (xs : List Skill) (day : Int) : (cntL xs day).length = 6 := by simp [cntL]
theorem cntL_hit {xs : List Skill} {day : Int} {k j : Nat} (hk : k < xs.length) (hj : (nth xs k).Kind = (j : Int)) (h6 : j < 6) (h : (nth xs k).Until ≥ day) : (cntL (xs.take k) day).set j (nth (cntL (xs.take k) day) j + 1) = cntL (xs.take (k + 1)) day := by
  apply List.ext_getElem?
  intro i
  rw [List.getElem?_set]
  by_cases e : j = i
  · subst e
    rw [if_pos rfl, cntL_len, if_pos h6, cntL_nth h6]
    have hb : cntB (j : Int) day (nth xs k) = true := by simp [cntB, hj, h]
    simp [cntL, h6, cnt_yes hk hb]
  · rw [if_neg e]
    by_cases hi : i < 6
    · have hb : cntB (i : Int) day (nth xs k) = false := by
        have : ¬ ((j : Int) = (i : Int)) := by omega
        simp [cntB, hj, this]
      simp [cntL, hi, cnt_no hk hb]
    · simp [cntL, hi]
theorem cntL_miss {xs : List Skill} {day : Int} {k : Nat} (hk : k < xs.length) (h : ¬ (nth xs k).Until ≥ day) : cntL (xs.take (k + 1)) day = cntL (xs.take k) day := by
  unfold cntL
  apply List.map_congr_left
  intro i _
  exact cnt_no hk (by simp [cntB]; intro _; omega)
set_option maxHeartbeats 2000000 in
theorem drCount_any (xs : List Skill) (kind day : Int) (A : Option Addr) (n c : Nat) (w : World) (hn : n ≤ 1048576) (hs : Sl w A n xs) :
    Calls Tryz.prog 55 #[.slice A n c, .int .i64 kind, .int .i64 day] w fun e w' => e = .returned (.int .i64 (cnt xs kind day)) ∧ Below w.heap.size w w' := by
  have HL := Lib.hid hs.1
  go_enter Tryz.func55, Tryz.ntmps55
  go_wp2
  go_loopw [7, 12] (fun u i wr => ∃ (k : Nat) (q : Int), k ≤ n ∧ i = .int .i64 k ∧ u = .int .i64 q ∧ 0 ≤ q ∧ q ≤ (k : Int) ∧ Hid (q = cnt (xs.take k) kind day) ∧ Below w.heap.size w wr) (fun _ i _ => n - (intOf i).toNat)
  case atStart => exact ⟨0, 0, Nat.zero_le _, rfl, rfl, by omega, by omega, rfl, bl_refl _⟩
  case round =>
    obtain ⟨k, q, hk, rfl, rfl, hq0, hq1, hq, hb⟩ := hrel
    by_cases hlt : k < n
    · obtain ⟨b, o, rfl, hbz, c0, c1, c2⟩ := (hs.below hb).skill hlt
      have hkx : Hid (k < xs.length) := by rw [Hid, HL.out]; exact hlt
      clear hs
      cases e0 : (nth xs k).Kind == kind
      · have q_ : Hid (cntB kind day (nth xs k) = false) := by rw [Hid, cntB, e0]; simp
        go_wp2
        go_roundw
        case rel => exact ⟨k + 1, q, by omega, by go_num, rfl, by omega, by omega, by rw [Hid, cnt_no hkx.out q_.out]; exact hq.out, bl_alloc hb _⟩
        case measure => simp [intOf]; omega
      cases e1 : decide ((nth xs k).Until ≥ day)
      · have q_ : Hid (cntB kind day (nth xs k) = false) := by rw [Hid, cntB, e0, e1]; simp
        go_wp2
        go_roundw
        case rel => exact ⟨k + 1, q, by omega, by go_num, rfl, by omega, by omega, by rw [Hid, cnt_no hkx.out q_.out]; exact hq.out, bl_alloc hb _⟩
        case measure => simp [intOf]; omega
      have q_ : Hid (cntB kind day (nth xs k) = true) := by rw [Hid, cntB, e0, e1]; rfl
      go_wp2
      go_roundw
      case rel => exact ⟨k + 1, q + 1, by omega, by go_num, rfl, by omega, by omega, by rw [Hid, cnt_yes hkx.out q_.out, ← hq.out], bl_alloc hb _⟩
      case measure => simp [intOf]; omega
    · obtain rfl : k = n := by omega
      have hfin : Hid (q = cnt xs kind day) := by rw [Hid, hq.out, List.take_of_length_le (by rw [HL.out]; exact Nat.le_refl _)]
      go_wp2
      go_ret
      exact ⟨ret_i64 hfin.out, hb⟩
set_option maxHeartbeats 2000000 in
theorem drCounts_any (xs : List Skill) (day : Int) (A : Option Addr) (n c : Nat) (w : World) (hn : n ≤ 1048576) (hs : Sl w A n xs) :
    Calls Tryz.prog 56 #[.slice A n c, .int .i64 day] w (RetOwn w 3 (cntL xs day)) := by
  go_enter Tryz.func56, Tryz.ntmps56
  go_wp2
  go_loopw [5, 6] (fun v i wr => ∃ (k c' : Nat) (A' : Option Addr), k ≤ 6 ∧ i = .int .i64 k ∧ v = .slice A' k c' ∧ Own wr w.heap.size 3 (.slice A' k c') ((List.range k).map (fun j : Nat => cnt xs j day)) ∧ Below w.heap.size w wr) (fun _ i _ => 6 - (intOf i).toNat)
  case atStart => exact ⟨0, 0, none, Nat.zero_le _, rfl, rfl, Own.nil _ _ _, bl_refl _⟩
  case round =>
    obtain ⟨k, c', A', hk, rfl, rfl, ho, hb⟩ := hrel
    by_cases hlt : k < 6
    · have hd : decide ((k : Int) < 6) = true := by simp; omega
      go_wp2_with fail
      refine (drCount_any xs (k : Int) day _ _ _ _ hn (hs.below hb)).mono ?_
      rintro e V ⟨rfl, hV⟩
      have hoV := ho.below hV
      have hbV := bl_trans hb hV
      clear ho hs
      go_wp2_with ((at_builtin; refine wpList_app1g rfl (.tmp 11) (.tmp 16) _ _ rfl el_int (cnt xs (k : Int) day) rfl hoV hbV rfl (by simp) (by omega) ?_; intro A2 c2 w2 ho2 hb2 hg2))
      go_roundw
      case rel => exact ⟨k + 1, c2, A2, by omega, by go_num, rfl, by rw [List.range_succ, List.map_append]; exact ho2, hb2⟩
      case measure => simp [intOf]; omega
    · obtain rfl : k = 6 := by omega
      go_wp2
      go_ret
      exact retOwn_mk (cntL_len xs day) ho hb
set_option maxHeartbeats 2000000 in
theorem countsOn_any (xs : List Skill) (day : Int) (A : Option Addr) (n c : Nat) (w : World) (hn : n ≤ 1048576) (hs : Sl w A n xs) (hg : skillsB xs = true) :
    Calls Tryz.prog 51 #[.slice A n c, .int .i64 day] w (RetOwn w 3 (cntL xs day)) := by
  have HL := Lib.hid hs.1
  have HG := Lib.hid hg
  clear hg
  have hmk : ∀ W, (Instr.makeSlice 40 (.int .i64 6) (.int .i64 6)).run Tryz.prog W = .ok (.slice (some ⟨W.heap.size, 0, none⟩) 6 6) (W.alloc (.cells #[.int .i64 0, .int .i64 0, .int .i64 0, .int .i64 0, .int .i64 0, .int .i64 0] 3)) := fun W => by kernel_rfl
  go_enter Tryz.func51, Tryz.ntmps51
  go_wp2
  clear hmk
  go_loopw [11] (fun i wr => ∃ (k : Nat) (L : List Int), k ≤ n ∧ i = .int .i64 k ∧ Own wr w.heap.size 3 (.slice (some ⟨w.heap.size, 0, none⟩) 6 6) L ∧ Hid (L = cntL (xs.take k) day) ∧ Below w.heap.size w wr) (fun i _ => n - (intOf i).toNat)
  case atStart =>
    have h := Own.made w 3 (0 : Int) (z := #[.int .i64 0]) rfl 6 (by unfold maxLen; omega)
    have e : madeCells #[Value.int .i64 0] (6 * Flat.sz Int) = #[.int .i64 0, .int .i64 0, .int .i64 0, .int .i64 0, .int .i64 0, .int .i64 0] := by kernel_rfl
    rw [e] at h
    exact ⟨0, List.replicate 6 0, Nat.zero_le _, rfl, h, rfl, bl_alloc (bl_refl _) _⟩
  case round =>
    obtain ⟨k, L, hk, rfl, ho, hL, hb⟩ := hrel
    by_cases hlt : k < n
    · obtain ⟨b, o, rfl, hbz, c0, c1, c2⟩ := (hs.below hb).skill hlt
      have hkx : Hid (k < xs.length) := by rw [Hid, HL.out]; exact hlt
      obtain ⟨⟨u0, u1⟩, _, _⟩ := kind_at HG.out hkx.out
      obtain ⟨j, hj⟩ := Int.eq_ofNat_of_zero_le u0
      rw [hj] at c1 u1
      have hj6 : j < 6 := by omega
      have HJ := Lib.hid hj
      have hwz : w.heap.size < wr.heap.size := (ho.lt _ rfl).2
      obtain ⟨v, hv⟩ : ∃ v, v = nth L j := ⟨_, rfl⟩
      have hvb : 0 ≤ v ∧ v ≤ (k : Int) := by rw [hv, hL.out, cntL_nth hj6]; exact cnt_in xs j day k
      obtain ⟨v0, v1⟩ := hvb
      have d0 := ho.int (k := j) hj6
      have f0 := ho.frozenAt j
      rw [← hv] at d0
      have HV := Lib.hid hv
      clear hs hj hv u0
      by_cases hd : (nth xs k).Until ≥ day
      · have hd2 : decide ((nth xs k).Until ≥ day) = true := by simpa using hd
        go_wp2
        go_roundw
        case rel =>
          refine ⟨k + 1, L.set j (v + 1), by omega, by go_num, ?_, ?_, ?_⟩
          · first | exact (ho.putint hj6 (v + 1)).alloc _ | exact (ho.alloc _).putint hj6 (v + 1)
          · rw [Hid, HV.out, hL.out]; exact cntL_hit hkx.out HJ.out hj6 hd
          · repeat' (first | exact hb | refine bl_alloc ?_ _ | refine bl_set ?_ (Nat.le_refl _) _)
        case measure => simp [intOf]; omega
      · have hd2 : decide ((nth xs k).Until ≥ day) = false := by simpa using hd
        go_wp2
        go_roundw
        case rel => exact ⟨k + 1, L, by omega, by go_num, ho.alloc _, by rw [Hid, cntL_miss hkx.out hd]; exact hL.out, bl_alloc hb _⟩
        case measure => simp [intOf]; omega
    · obtain rfl : k = n := by omega
      have hfin : Hid (L = cntL xs day) := by rw [Hid, hL.out, List.take_of_length_le (by rw [HL.out]; exact Nat.le_refl _)]
      go_wp2
      go_ret
      exact retOwn_mk (cntL_len xs day) (by rw [← hfin.out]; exact ho) hb

end Go.Proofs.YtjcjedolhejnaaaGreatDoor

namespace Go.Proofs.YtjcjedolhejnaaaGreatDoor
open Go.RowKit

def cntF (xs : List Skill) (day : Int) : List Int × Bool := if skillsB xs && inB day 0 20000 then (cntL xs day, true) else ([], false)
theorem cntF_yes {xs : List Skill} {day : Int} (h : (skillsB xs && inB day 0 20000) = true) : cntF xs day = (cntL xs day, true) := by unfold cntF; rw [if_pos h]
theorem cntF_no {xs : List Skill} {day : Int} (h : (skillsB xs && inB day 0 20000) = false) : cntF xs day = ([], false) := by unfold cntF; rw [if_neg (by rw [h]; exact Bool.false_ne_true)]
theorem cntF_len (xs : List Skill) (day : Int) : (cntF xs day).1.length ≤ 1048576 := by
  unfold cntF; split
  · simp only [cntL_len]; omega
  · simp
set_option maxHeartbeats 4000000 in
theorem specCountsOn_any (xs : List Skill) (day : Int) (A : Option Addr) (n c : Nat) (w : World) (hn : (n : Int) ≤ 9223372036854775807) (hs : Sl w A n xs) (hv : ∀ x, x ∈ xs → x.Person.size ≤ maxLen) :
    Calls Tryz.prog 18 #[.slice A n c, .int .i64 day] w (RetOwn2 w 3 (cntF xs day)) := by
  have HV := Lib.hid hv
  have HL := Lib.hid hs.1
  clear hv
  go_enter Tryz.func18, Tryz.ntmps18
  have hk0 := bl_refl w
  go_wp2_with fail
  refine (drGood_any xs _ _ _ _ hn hs HV.out).mono ?_
  rintro e V1 ⟨rfl, hb1⟩
  have hB1 := bl_trans (a := w) (bl_refl _) hb1
  have hk1 := bl_trans hk0 hB1
  have z1 := Lib.hid hB1.size
  cases h0 : skillsB xs
  · have Hz := Lib.hid (cntF_no (xs := xs) (day := day) (by rw [h0]; first | done | simp))
    clear h0
    go_wp2
    go_ret2
    exact retOwn2_mk Hz.out (Own.nil _ _ _) hk1
  have H0 := Lib.hid h0
  clear h0
  go_wp2_with fail
  refine (drDay_any day _).mono ?_
  rintro _ V1 ⟨rfl, rfl⟩
  cases h1 : inB day 0 20000
  · have Hz := Lib.hid (cntF_no (xs := xs) (day := day) (by rw [h1]; first | done | simp))
    clear h1
    go_wp2
    go_ret2
    exact retOwn2_mk Hz.out (Own.nil _ _ _) hk1
  have H1 := Lib.hid h1
  clear h1
  have Hz := Lib.hid (cntF_yes (xs := xs) (day := day) (by rw [H0.out, H1.out]; rfl))
  have hn2 : n ≤ 24 := by have := skillsB_len H0.out; have := HL.out; omega
  go_wp2_with fail
  refine (drCounts_any xs day _ _ _ _ (by omega) (hs.below hk1)).mono ?_
  rintro e V2 ⟨A_r, c_r, rfl, ho_r, hb2⟩
  have hB2 := bl_trans (a := V1) (bl_refl _) hb2
  have hk2 := bl_trans hk1 hB2
  have z2 := Lib.hid hB2.size
  clear hk1
  have hl6 := Lib.hid (cntL_len xs day)
  go_wp2
  go_ret2
  exact retOwn2_mk Hz.out (ho_r.mono (by have := z1.out; have := z2.out; omega)) hk2
set_option maxHeartbeats 4000000 in
theorem implCountsOn_any (xs : List Skill) (day : Int) (A : Option Addr) (n c : Nat) (w : World) (hn : (n : Int) ≤ 9223372036854775807) (hs : Sl w A n xs) (hv : ∀ x, x ∈ xs → x.Person.size ≤ maxLen) :
    Calls Tryz.prog 17 #[.slice A n c, .int .i64 day] w (RetOwn2 w 3 (cntF xs day)) := by
  have HV := Lib.hid hv
  have HL := Lib.hid hs.1
  clear hv
  go_enter Tryz.func17, Tryz.ntmps17
  have hk0 := bl_refl w
  go_wp2_with fail
  refine (areSkills_any xs _ _ _ _ hn hs HV.out).mono ?_
  rintro e V1 ⟨rfl, hb1⟩
  have hB1 := bl_trans (a := w) (bl_refl _) hb1
  have hk1 := bl_trans hk0 hB1
  have z1 := Lib.hid hB1.size
  cases h0 : skillsB xs
  · have Hz := Lib.hid (cntF_no (xs := xs) (day := day) (by rw [h0]; first | done | simp))
    clear h0
    go_wp2
    go_ret2
    exact retOwn2_mk Hz.out (Own.nil _ _ _) hk1
  have H0 := Lib.hid h0
  clear h0
  go_wp2_with fail
  refine (isDay_any day _).mono ?_
  rintro _ V1 ⟨rfl, rfl⟩
  cases h1 : inB day 0 20000
  · have Hz := Lib.hid (cntF_no (xs := xs) (day := day) (by rw [h1]; first | done | simp))
    clear h1
    go_wp2
    go_ret2
    exact retOwn2_mk Hz.out (Own.nil _ _ _) hk1
  have H1 := Lib.hid h1
  clear h1
  have Hz := Lib.hid (cntF_yes (xs := xs) (day := day) (by rw [H0.out, H1.out]; rfl))
  have hn2 : n ≤ 24 := by have := skillsB_len H0.out; have := HL.out; omega
  go_wp2_with fail
  refine (countsOn_any xs day _ _ _ _ (by omega) (hs.below hk1) H0.out).mono ?_
  rintro e V2 ⟨A_r, c_r, rfl, ho_r, hb2⟩
  have hB2 := bl_trans (a := V1) (bl_refl _) hb2
  have hk2 := bl_trans hk1 hB2
  have z2 := Lib.hid hB2.size
  clear hk1
  have hl6 := Lib.hid (cntL_len xs day)
  go_wp2
  go_ret2
  exact retOwn2_mk Hz.out (ho_r.mono (by have := z1.out; have := z2.out; omega)) hk2

end Go.Proofs.YtjcjedolhejnaaaGreatDoor

namespace Go.Proofs.YtjcjedolhejnaaaGreatDoor
open Go.RowKit

/-- the first day from d on, of f days, on which c is below need -/
def lapse (c : Int → Int) (need : Int) : Nat → Int → Option Int
  | 0, _ => none
  | f + 1, d => if c d < need then some d else lapse c need f (d + 1)
theorem lapse_hit {c : Int → Int} {need d : Int} (hd : d ≤ 20000) (h : c d < need) : lapse c need (20001 - d).toNat d = some d := by
  obtain ⟨f, hf⟩ : ∃ f, (20001 - d).toNat = f + 1 := ⟨(20000 - d).toNat, by omega⟩
  rw [hf, lapse, if_pos h]
theorem lapse_step {c : Int → Int} {need d : Int} (hd : d ≤ 20000) (h : ¬ c d < need) : lapse c need (20001 - d).toNat d = lapse c need (20001 - (d + 1)).toNat (d + 1) := by
  obtain ⟨f, hf⟩ : ∃ f, (20001 - d).toNat = f + 1 := ⟨(20000 - d).toNat, by omega⟩
  have hf2 : (20001 - (d + 1)).toNat = f := by omega
  rw [hf, hf2, lapse, if_neg h]
theorem lapse_end {c : Int → Int} {need : Int} : lapse c need (20001 - 20001 : Int).toNat 20001 = none := rfl
def pairO : Option Int → Int × Bool
  | some d => (d, true)
  | none => (0, false)
def lapF (xs : List Skill) (kind need frm : Int) : Int × Bool := if skillsB xs && inB kind 0 5 && inB need 1 20 && inB frm 0 20000 then pairO (lapse (cnt xs kind) need (20001 - frm).toNat frm) else (0, false)
theorem lapF_yes {xs : List Skill} {kind need frm : Int} (h : (skillsB xs && inB kind 0 5 && inB need 1 20 && inB frm 0 20000) = true) : lapF xs kind need frm = pairO (lapse (cnt xs kind) need (20001 - frm).toNat frm) := by unfold lapF; rw [if_pos h]
theorem lapF_no {xs : List Skill} {kind need frm : Int} (h : (skillsB xs && inB kind 0 5 && inB need 1 20 && inB frm 0 20000) = false) : lapF xs kind need frm = (0, false) := by unfold lapF; rw [if_neg (by rw [h]; exact Bool.false_ne_true)]
set_option maxHeartbeats 4000000 in
theorem specFirstLapse_any (xs : List Skill) (kind need frm : Int) (A : Option Addr) (n c : Nat) (w : World) (hn : (n : Int) ≤ 9223372036854775807) (hs : Sl w A n xs) (hv : ∀ x, x ∈ xs → x.Person.size ≤ maxLen) :
    Calls Tryz.prog 16 #[.slice A n c, .int .i64 kind, .int .i64 need, .int .i64 frm] w fun e w' => e = .returned (.tuple #[.int .i64 (lapF xs kind need frm).1, .bool (lapF xs kind need frm).2]) ∧ Below w.heap.size w w' := by
  have HV := Lib.hid hv
  have HL := Lib.hid hs.1
  clear hv
  go_enter Tryz.func16, Tryz.ntmps16
  have hk0 := bl_refl w
  go_wp2_with fail
  refine (drGood_any xs _ _ _ _ hn hs HV.out).mono ?_
  rintro e V1 ⟨rfl, hb1⟩
  have hB1 := bl_trans (a := w) (bl_refl _) hb1
  have hk1 := bl_trans hk0 hB1
  have z1 := Lib.hid hB1.size
  cases h0 : skillsB xs
  · have Hz := Lib.hid (lapF_no (xs := xs) (kind := kind) (need := need) (frm := frm) (by rw [h0]; first | done | simp))
    clear h0
    go_wp2
    go_ret2
    exact ⟨ret_ib (by rw [Hz.out]) (by rw [Hz.out]), hk1⟩
  have H0 := Lib.hid h0
  clear h0
  go_wp2_with fail
  refine (drKind_any kind _).mono ?_
  rintro _ V1 ⟨rfl, rfl⟩
  cases h1 : inB kind 0 5
  · have Hz := Lib.hid (lapF_no (xs := xs) (kind := kind) (need := need) (frm := frm) (by rw [h1]; first | done | simp))
    clear h1
    go_wp2
    go_ret2
    exact ⟨ret_ib (by rw [Hz.out]) (by rw [Hz.out]), hk1⟩
  have H1 := Lib.hid h1
  clear h1
  go_wp2_with fail
  refine (l1In_any need 1 20 _).mono ?_
  rintro _ V1 ⟨rfl, rfl⟩
  cases h2 : inB need 1 20
  · have Hz := Lib.hid (lapF_no (xs := xs) (kind := kind) (need := need) (frm := frm) (by rw [h2]; first | done | simp))
    clear h2
    go_wp2
    go_ret2
    exact ⟨ret_ib (by rw [Hz.out]) (by rw [Hz.out]), hk1⟩
  have H2 := Lib.hid h2
  clear h2
  go_wp2_with fail
  refine (drDay_any frm _).mono ?_
  rintro _ V1 ⟨rfl, rfl⟩
  cases h3 : inB frm 0 20000
  · have Hz := Lib.hid (lapF_no (xs := xs) (kind := kind) (need := need) (frm := frm) (by rw [h3]; first | done | simp))
    clear h3
    go_wp2
    go_ret2
    exact ⟨ret_ib (by rw [Hz.out]) (by rw [Hz.out]), hk1⟩
  have H3 := Lib.hid h3
  clear h3
  have Hz := Lib.hid (lapF_yes (xs := xs) (kind := kind) (need := need) (frm := frm) (by rw [H0.out, H1.out, H2.out, H3.out]; rfl))
  have hn2 : n ≤ 24 := by have := skillsB_len H0.out; have := HL.out; omega
  obtain ⟨f0, f1⟩ := inB_iff.1 H3.out
  obtain ⟨n0, n1⟩ := inB_iff.1 H2.out
  go_wp2
  go_loopw [10] (fun u wr => ∃ d : Int, 0 ≤ d ∧ d ≤ 20001 ∧ u = .int .i64 d ∧ Hid (lapse (cnt xs kind) need (20001 - frm).toNat frm = lapse (cnt xs kind) need (20001 - d).toNat d) ∧ Below w.heap.size w wr) (fun u _ => (20001 - intOf u).toNat)
  case atStart => exact ⟨frm, by omega, by omega, rfl, rfl, hk1⟩
  case round =>
    obtain ⟨d, hd0, hd1, rfl, hg, hb⟩ := hrel
    by_cases hlt : d ≤ 20000
    · have hz1 : True := trivial
      clear hz1
      go_wp2_with fail
      refine (drCount_any xs kind d _ _ _ _ (by omega) (hs.below hb)).mono ?_
      rintro e V ⟨rfl, hV⟩
      have hbV := bl_trans hb hV
      clear hs
      by_cases hc : cnt xs kind d < need
      · have hp := Lib.hid (lapse_hit (c := cnt xs kind) hlt hc)
        go_wp2
        go_ret2
        exact ⟨ret_ib (by rw [Hz.out, hg.out, hp.out]; rfl) (by rw [Hz.out, hg.out, hp.out]; rfl), hbV⟩
      · have hp := Lib.hid (lapse_step (c := cnt xs kind) hlt hc)
        go_wp2
        go_roundw
        case rel => exact ⟨d + 1, by omega, by omega, rfl, hg.out.trans hp.out, hbV⟩
        case measure => simp [intOf]; omega
    · obtain rfl : d = 20001 := by omega
      have hp := Lib.hid (lapse_end (c := cnt xs kind) (need := need))
      go_wp2
      go_ret2
      exact ⟨ret_ib (by rw [Hz.out, hg.out, hp.out]; rfl) (by rw [Hz.out, hg.out, hp.out]; rfl), hb⟩
set_option maxHeartbeats 4000000 in
theorem implFirstLapse_any (xs : List Skill) (kind need frm : Int) (A : Option Addr) (n c : Nat) (w : World) (hn : (n : Int) ≤ 9223372036854775807) (hs : Sl w A n xs) (hv : ∀ x, x ∈ xs → x.Person.size ≤ maxLen) :
    Calls Tryz.prog 15 #[.slice A n c, .int .i64 kind, .int .i64 need, .int .i64 frm] w fun e w' => e = .returned (.tuple #[.int .i64 (lapF xs kind need frm).1, .bool (lapF xs kind need frm).2]) ∧ Below w.heap.size w w' := by
  have HV := Lib.hid hv
  have HL := Lib.hid hs.1
  clear hv
  go_enter Tryz.func15, Tryz.ntmps15
  have hk0 := bl_refl w
  go_wp2_with fail
  refine (areSkills_any xs _ _ _ _ hn hs HV.out).mono ?_
  rintro e V1 ⟨rfl, hb1⟩
  have hB1 := bl_trans (a := w) (bl_refl _) hb1
  have hk1 := bl_trans hk0 hB1
  have z1 := Lib.hid hB1.size
  cases h0 : skillsB xs
  · have Hz := Lib.hid (lapF_no (xs := xs) (kind := kind) (need := need) (frm := frm) (by rw [h0]; first | done | simp))
    clear h0
    go_wp2
    go_ret2
    exact ⟨ret_ib (by rw [Hz.out]) (by rw [Hz.out]), hk1⟩
  have H0 := Lib.hid h0
  clear h0
  go_wp2_with fail
  refine (isKind_any kind _).mono ?_
  rintro _ V1 ⟨rfl, rfl⟩
  cases h1 : inB kind 0 5
  · have Hz := Lib.hid (lapF_no (xs := xs) (kind := kind) (need := need) (frm := frm) (by rw [h1]; first | done | simp))
    clear h1
    go_wp2
    go_ret2
    exact ⟨ret_ib (by rw [Hz.out]) (by rw [Hz.out]), hk1⟩
  have H1 := Lib.hid h1
  clear h1
  go_wp2_with fail
  refine (inside_any need 1 20 _).mono ?_
  rintro _ V1 ⟨rfl, rfl⟩
  cases h2 : inB need 1 20
  · have Hz := Lib.hid (lapF_no (xs := xs) (kind := kind) (need := need) (frm := frm) (by rw [h2]; first | done | simp))
    clear h2
    go_wp2
    go_ret2
    exact ⟨ret_ib (by rw [Hz.out]) (by rw [Hz.out]), hk1⟩
  have H2 := Lib.hid h2
  clear h2
  go_wp2_with fail
  refine (isDay_any frm _).mono ?_
  rintro _ V1 ⟨rfl, rfl⟩
  cases h3 : inB frm 0 20000
  · have Hz := Lib.hid (lapF_no (xs := xs) (kind := kind) (need := need) (frm := frm) (by rw [h3]; first | done | simp))
    clear h3
    go_wp2
    go_ret2
    exact ⟨ret_ib (by rw [Hz.out]) (by rw [Hz.out]), hk1⟩
  have H3 := Lib.hid h3
  clear h3
  have Hz := Lib.hid (lapF_yes (xs := xs) (kind := kind) (need := need) (frm := frm) (by rw [H0.out, H1.out, H2.out, H3.out]; rfl))
  have hn2 : n ≤ 24 := by have := skillsB_len H0.out; have := HL.out; omega
  obtain ⟨f0, f1⟩ := inB_iff.1 H3.out
  obtain ⟨n0, n1⟩ := inB_iff.1 H2.out
  obtain ⟨u0, u1⟩ := inB_iff.1 H1.out
  obtain ⟨j, rfl⟩ := Int.eq_ofNat_of_zero_le u0
  have hj6 : j < 6 := by omega
  go_wp2
  go_loopw [10] (fun u wr => ∃ d : Int, 0 ≤ d ∧ d ≤ 20001 ∧ u = .int .i64 d ∧ Hid (lapse (cnt xs (j : Int)) need (20001 - frm).toNat frm = lapse (cnt xs (j : Int)) need (20001 - d).toNat d) ∧ Below w.heap.size w wr) (fun u _ => (20001 - intOf u).toNat)
  case atStart => exact ⟨frm, by omega, by omega, rfl, rfl, hk1⟩
  case round =>
    obtain ⟨d, hd0, hd1, rfl, hg, hb⟩ := hrel
    by_cases hlt : d ≤ 20000
    · have hz1 : True := trivial
      clear hz1
      go_wp2_with fail
      refine (countsOn_any xs d _ _ _ _ (by omega) (hs.below hb) H0.out).mono ?_
      rintro e V ⟨A_r, c_r, rfl, ho_r, hV⟩
      have hl6 : (cntL xs d).length = 6 := cntL_len xs d
      rw [hl6] at ho_r ⊢
      obtain ⟨g, rfl⟩ := ho_r.form (by omega)
      have d0 := ho_r.int (k := j) hj6
      rw [cntL_nth hj6] at d0
      have hbV := bl_trans hb hV
      clear hs
      by_cases hc : cnt xs (j : Int) d < need
      · have hp := Lib.hid (lapse_hit (c := cnt xs (j : Int)) hlt hc)
        go_wp2
        go_ret2
        exact ⟨ret_ib (by rw [Hz.out, hg.out, hp.out]; rfl) (by rw [Hz.out, hg.out, hp.out]; rfl), hbV⟩
      · have hp := Lib.hid (lapse_step (c := cnt xs (j : Int)) hlt hc)
        go_wp2
        go_roundw
        case rel => exact ⟨d + 1, by omega, by omega, rfl, hg.out.trans hp.out, hbV⟩
        case measure => simp [intOf]; omega
    · obtain rfl : d = 20001 := by omega
      have hp := Lib.hid (lapse_end (c := cnt xs (j : Int)) (need := need))
      go_wp2
      go_ret2
      exact ⟨ret_ib (by rw [Hz.out, hg.out, hp.out]; rfl) (by rw [Hz.out, hg.out, hp.out]; rfl), hb⟩

end Go.Proofs.YtjcjedolhejnaaaGreatDoor

namespace Go.Proofs.YtjcjedolhejnaaaGreatDoor
open Go.RowKit

def GoodK (s : ByteArray) (l : List Skill) : Prop := skillsB l = true ∧ skText l l.length = s
/-- one skill's text without the semicolon -/
def skL (x : Skill) : List UInt8 := x.Person.data.toList ++ 47 :: ((itB x.Kind).data.toList ++ 47 :: (itB x.Until).data.toList)
theorem piece_list (x : Skill) : (pieceK x).data.toList = skL x ++ [59] := by simp [pieceK, skL]
theorem skText_list (l : List Skill) : ∀ i, i ≤ l.length → (skText l i).data.toList = (l.take i).flatMap (fun x => skL x ++ [59])
  | 0, _ => by simp [skText]
  | i + 1, hi => by
    have ih := skText_list l i (by omega)
    rw [take_succ (by omega : i < l.length), List.flatMap_append]
    show (skText l i ++ pieceK (nth l i)).data.toList = _
    rw [ba_app, ih, piece_list]
    simp
theorem goodK_text {s : ByteArray} {l : List Skill} (h : GoodK s l) : s.data.toList = l.flatMap (fun x => skL x ++ [59]) := by
  rw [← h.2, skText_list l _ (Nat.le_refl _), List.take_length]
theorem goodK_at {s : ByteArray} {l : List Skill} (h : GoodK s l) : l.length ≤ 24 ∧ ∀ x, x ∈ l → nameB x.Person = true ∧ (0 ≤ x.Kind ∧ x.Kind ≤ 5) ∧ (0 ≤ x.Until ∧ x.Until ≤ 20000) := by
  obtain ⟨h1, h2⟩ := skills_bd h.1
  refine ⟨h1, fun x hx => ?_⟩
  obtain ⟨k, hk, rfl⟩ := List.getElem_of_mem hx
  have h3 := skillsB_at h.1 hk
  have h4 := h2 k hk
  simp only [okSkill, skillB, Bool.and_eq_true] at h3
  rw [nth_get (List.getElem?_eq_getElem hk)] at h3 h4
  exact ⟨h3.1.1.1, h4.2.1, h4.2.2⟩
theorem person_bytes {y : ByteArray} (h : nameB y = true) : ∀ b ∈ y.data.toList, 48 ≤ b.toNat ∧ b.toNat ≠ 59 := by
  intro b hb
  obtain ⟨k, hk, e⟩ := List.getElem_of_mem hb
  rw [ba_len] at hk
  simp only [nameB, Bool.and_eq_true] at h
  have h1 := allB_iff.1 h.1 k hk
  have h2 : Go.PlainAid.bt y k = (b.toNat : Int) := by
    rw [← e]; unfold Go.PlainAid.bt; simp [hk]; rfl
  simp only [nameC, Bool.or_eq_true, Bool.and_eq_true, h2] at h1
  rcases h1 with h1 | ⟨_, h1⟩
  · have := inB_iff.1 h1; omega
  · have := inB_iff.1 h1; omega
theorem digs_no {n : Int} (h0 : 0 ≤ n) {c : UInt8} (hc : c.toNat < 48 ∨ 57 < c.toNat) : c ∉ (itB n).data.toList := dig_not (it_dig h0) hc
theorem skL_no {s : ByteArray} {l : List Skill} (h : GoodK s l) {x : Skill} (hx : x ∈ l) : (59 : UInt8) ∉ skL x := by
  obtain ⟨h1, ⟨h2, _⟩, h3, _⟩ := (goodK_at h).2 x hx
  unfold skL
  rw [List.mem_append, List.mem_cons, List.mem_append, List.mem_cons]
  rintro (h' | h' | h' | h' | h')
  · exact (person_bytes h1 _ h').2 rfl
  · exact absurd h' (by decide)
  · exact digs_no h2 (by decide) h'
  · exact absurd h' (by decide)
  · exact digs_no h3 (by decide) h'
theorem cut_pieces : ∀ (l : List Skill), (∀ x, x ∈ l → (59 : UInt8) ∉ skL x) → cutL 59 (l.flatMap (fun x => skL x ++ [59])) = l.map skL ++ [[]]
  | [], _ => rfl
  | x :: r, h => by
    have ih := cut_pieces r (fun y hy => h y (List.mem_cons_of_mem _ hy))
    rw [List.flatMap_cons, List.append_assoc]
    show cutL 59 (skL x ++ 59 :: r.flatMap (fun x => skL x ++ [59])) = _
    rw [cutL_app _ (h x List.mem_cons_self), ih]
    rfl
/-- cut at the semicolons: each skill's text, and an empty one -/
theorem cut_semis {s : ByteArray} {l : List Skill} (h : GoodK s l) : cutB 59 s = l.map (fun x => ⟨(skL x).toArray⟩) ++ [⟨#[]⟩] := by
  unfold cutB
  rw [goodK_text h, cut_pieces l (fun x hx => skL_no h hx), List.map_append, List.map_map]
  rfl
/-- cut at the slashes -/
theorem cut_slash {s : ByteArray} {l : List Skill} (h : GoodK s l) {x : Skill} (hx : x ∈ l) : cutB 47 ⟨(skL x).toArray⟩ = [x.Person, itB x.Kind, itB x.Until] := by
  obtain ⟨h1, ⟨h2, _⟩, h3, _⟩ := (goodK_at h).2 x hx
  unfold cutB
  show (cutL 47 (skL x)).map _ = _
  unfold skL
  have hp : (47 : UInt8) ∉ x.Person.data.toList := fun hm => by have := (person_bytes h1 _ hm).1; exact absurd this (by decide)
  rw [cutL_app _ hp, cutL_app _ (digs_no h2 (by decide)), cutL_none (digs_no h3 (by decide))]
  rfl
theorem skL_inj {s t : ByteArray} {l m : List Skill} (hl : GoodK s l) (hm : GoodK t m) {x y : Skill} (hx : x ∈ l) (hy : y ∈ m) (h : skL x = skL y) : x = y := by
  have e := cut_slash hl hx
  rw [h, cut_slash hm hy] at e
  injection e with e1 e2
  injection e2 with e2 e3
  injection e3 with e3 _
  obtain ⟨_, a1, a2⟩ := (goodK_at hl).2 x hx
  obtain ⟨_, b1, b2⟩ := (goodK_at hm).2 y hy
  have k1 := it_inj (by omega) (by omega) (by omega) (by omega) e2
  have k2 := it_inj (by omega) (by omega) (by omega) (by omega) e3
  cases x; cases y
  simp only at e1 k1 k2
  subst e1 k1 k2
  rfl
theorem goodK_inj {s : ByteArray} {l m : List Skill} (hl : GoodK s l) (hm : GoodK s m) : l = m := by
  have e := cut_semis hl
  rw [cut_semis hm] at e
  have e2 := List.append_cancel_right e
  have hlen : m.length = l.length := by have := congrArg List.length e2; simpa using this
  refine List.ext_getElem hlen.symm (fun k hk hk2 => ?_)
  refine skL_inj hl hm (List.getElem_mem hk) (List.getElem_mem hk2) ?_
  have e3 : (m.map (fun x => (⟨(skL x).toArray⟩ : ByteArray)))[k]? = (l.map (fun x => (⟨(skL x).toArray⟩ : ByteArray)))[k]? := by rw [e2]
  rw [List.getElem?_map, List.getElem?_map, List.getElem?_eq_getElem hk, List.getElem?_eq_getElem hk2] at e3
  simp only [Option.map_some, Option.some.injEq, ByteArray.mk.injEq] at e3
  simpa using (congrArg Array.toList e3).symm
open Classical in
noncomputable def pkF (s : ByteArray) : List Skill × Bool := if h : ∃ l, GoodK s l then (h.choose, true) else ([], false)
theorem pkF_yes {s : ByteArray} {l : List Skill} (h : GoodK s l) : pkF s = (l, true) := by
  have hx : ∃ l, GoodK s l := ⟨l, h⟩
  unfold pkF
  rw [dif_pos hx, goodK_inj hx.choose_spec h]
theorem pkF_no {s : ByteArray} (h : ∀ l, ¬ GoodK s l) : pkF s = ([], false) := by
  unfold pkF
  rw [dif_neg (fun ⟨l, hl⟩ => h l hl)]
theorem pkF_len (s : ByteArray) : (pkF s).1.length ≤ 1048576 := by
  by_cases hx : ∃ l, GoodK s l
  · obtain ⟨l, hx⟩ := hx
    rw [pkF_yes hx]
    have := (goodK_at hx).1
    show l.length ≤ _
    omega
  · rw [pkF_no (fun l h => hx ⟨l, h⟩)]; simp

end Go.Proofs.YtjcjedolhejnaaaGreatDoor

namespace Go.Proofs.YtjcjedolhejnaaaGreatDoor
open Go.RowKit

theorem has_put {r : List Skill} {x : Skill} {k : Nat} (hr : skillsB r = true) (hk : k < r.length) (hx : nth r k = x) : hasB r x.Person x.Kind x.Until = true ∧ hasB r x.Person x.Kind (x.Until + 1) = false := by
  constructor
  · refine any_yes hk ?_
    rw [hx]; simp [hasP]
  · refine any_no fun j hj => ?_
    cases e : hasP x.Person x.Kind (x.Until + 1) (nth r j) with
    | false => rfl
    | true =>
      exfalso
      simp only [hasP, Bool.and_eq_true, beq_iff_eq, decide_eq_true_eq] at e
      obtain ⟨⟨h1, h2⟩, h3⟩ := e
      rcases Nat.lt_trichotomy j k with h4 | h4 | h4
      · have := skills_srt hr k j h4 hk
        rw [hx, sk_irr h1 h2] at this; cases this
      · subst h4; rw [hx] at h3; omega
      · have := skills_srt hr j k h4 hj
        rw [hx, sk_irr h1.symm h2.symm] at this; cases this
theorem renew_facts {l r : List Skill} {x : Skill} (h : renF l x = (r, true)) : skillsB r = true ∧ skillB x = true ∧ hasB r x.Person x.Kind x.Until = true ∧ hasB r x.Person x.Kind (x.Until + 1) = false := by
  obtain ⟨h1, h2, k, h3, h4⟩ := renew_ok h
  exact ⟨h1, h2, has_put h1 h3 h4⟩
theorem skillB_parts {x : Skill} (h : skillB x = true) : nameB x.Person = true ∧ inB x.Kind 0 5 = true ∧ inB x.Until 0 20000 = true := by
  unfold skillB at h
  simp only [Bool.and_eq_true] at h
  exact ⟨h.1.1, h.1.2, h.2⟩
theorem renew_law {l r : List Skill} {x : Skill} (h : renF l x = (r, true)) : skillsB r = true ∧ qualF r x.Person x.Kind x.Until = (true, true) ∧ (x.Until < 20000 → qualF r x.Person x.Kind (x.Until + 1) = (false, true)) ∧ r.length ≤ 24 ∧ (∀ y, y ∈ r → y.Person.size ≤ 1048576) ∧ (0 ≤ x.Until ∧ x.Until ≤ 20000) := by
  obtain ⟨h1, h2, h3, h4⟩ := renew_facts h
  obtain ⟨n1, n2, n3⟩ := skillB_parts h2
  have n4 := inB_iff.1 n3
  obtain ⟨b1, b2⟩ := skills_bd h1
  refine ⟨h1, ?_, fun hu => ?_, b1, fun y hy => ?_, n4⟩
  · rw [qualF_yes (by rw [h1, n1, n2, n3]; rfl), h3]
  · rw [qualF_yes (by rw [h1, n1, n2, inB_yes (by omega) (by omega)]; rfl), h4]
  · obtain ⟨k, hk, rfl⟩ := List.getElem_of_mem hy
    have := (b2 k hk).1
    rw [nth_get (List.getElem?_eq_getElem hk)] at this
    omega
/-- dropped -/
theorem drop_law {u d : List Skill} {who : ByteArray} (h : dropF u who = (d, true)) : dropF d who = ([], false) ∧ (∀ y, y ∈ d → y ∈ u) ∧ d.length ≤ 24 := by
  unfold dropF at h
  split at h
  · rename_i hc
    simp only [Bool.and_eq_true] at hc
    injection h with h1 _
    subst h1
    refine ⟨dropF_no ?_, fun y hy => (List.mem_filter.1 hy).1, ?_⟩
    · have e : dropL (dropL u who) who = dropL u who := by unfold dropL; rw [List.filter_filter]; congr 1; funext y; simp
      rw [e, decide_eq_true rfl]; simp
    · have := skillsB_len hc.1.1
      have := List.length_filter_le (fun x => !isP who x) u
      unfold dropL; omega
  · cases h
/-- the first lapse -/
theorem lapse_spec {c : Int → Int} {need : Int} : ∀ {f : Nat} {d e : Int}, lapse c need f d = some e → c e < need ∧ d ≤ e ∧ e < d + f ∧ (d < e → ¬ c (e - 1) < need)
  | 0, d, e, h => by cases h
  | f + 1, d, e, h => by
    rw [lapse] at h
    split at h
    · rename_i hc
      injection h with h
      subst h
      exact ⟨hc, Int.le_refl _, by omega, fun h => absurd h (Int.lt_irrefl _)⟩
    · rename_i hc
      obtain ⟨h1, h2, h3, h4⟩ := lapse_spec h
      refine ⟨h1, by omega, by omega, fun _ => ?_⟩
      by_cases e1 : d + 1 < e
      · exact h4 e1
      · have : e - 1 = d := by omega
        rw [this]; exact hc
theorem lapse_law {v : List Skill} {k need frm lp : Int} (h : lapF v k need frm = (lp, true)) :
    ∃ kk : Nat, k = (kk : Int) ∧ kk < 6 ∧ cntF v lp = (cntL v lp, true) ∧ nth (cntL v lp) kk < need ∧ frm ≤ lp ∧ (frm < lp → cntF v (lp - 1) = (cntL v (lp - 1), true) ∧ ¬ nth (cntL v (lp - 1)) kk < need) ∧ (0 ≤ lp ∧ lp ≤ 20000) := by
  cases hc : (skillsB v && inB k 0 5 && inB need 1 20 && inB frm 0 20000) with
  | false => rw [lapF_no hc] at h; cases h
  | true =>
    rw [lapF_yes hc] at h
    simp only [Bool.and_eq_true] at hc
    obtain ⟨⟨⟨c1, c2⟩, c3⟩, c4⟩ := hc
    have k2 := inB_iff.1 c2
    have k4 := inB_iff.1 c4
    cases hl : lapse (cnt v k) need (20001 - frm).toNat frm with
    | none => rw [hl] at h; cases h
    | some e =>
      rw [hl] at h
      injection h with h1 _
      subst h1
      obtain ⟨l1, l2, l3, l4⟩ := lapse_spec hl
      obtain ⟨kk, rfl⟩ := Int.eq_ofNat_of_zero_le k2.1
      have hk : kk < 6 := by omega
      refine ⟨kk, rfl, hk, cntF_yes (by rw [c1, inB_yes (by omega) (by omega)]; rfl), by rw [cntL_nth hk]; exact l1, l2, fun h => ⟨cntF_yes (by rw [c1, inB_yes (by omega) (by omega)]; rfl), by rw [cntL_nth hk]; exact l4 h⟩, by omega, by omega⟩
/-- the text -/
theorem stK_snd (x : List Skill) : (stF x).2 = skillsB x := by
  cases h : skillsB x with
  | true => rw [stF_yes h]
  | false => rw [stF_no h]
theorem text_law {x : List Skill} {t : ByteArray} (h : stF x = (t, true)) : pkF t = (x, true) ∧ t.size ≤ 1048576 := by
  cases hs : skillsB x with
  | false => rw [stF_no hs] at h; cases h
  | true =>
    rw [stF_yes hs] at h
    injection h with h1 _
    have h2 := skillsB_len hs
    have h3 := skText_len hs x.length (Nat.le_refl _)
    rw [h1] at h3
    exact ⟨pkF_yes ⟨hs, h1⟩, by omega⟩

end Go.Proofs.YtjcjedolhejnaaaGreatDoor
