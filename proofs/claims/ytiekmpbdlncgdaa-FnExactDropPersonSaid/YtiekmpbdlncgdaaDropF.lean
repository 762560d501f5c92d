/-
  DropPerson: both texts answer dropF. No conditions.
-/
import Derived.Test.YtiekmpbdlncgdaaSkillB
import Derived.Test.YtiekmpbdlncgdaaLibK
import Derived.Test.YtiekmpbdlncgdaaMem7
namespace Go.Proofs.Ytiekmpbdlncgdaa
open Go.RowKit

theorem filt_yes {α : Type} [Inhabited α] {p : α → Bool} {xs : List α} {k : Nat} (hk : k < xs.length) (h : p (nth xs k) = true) : (xs.take (k + 1)).filter p = (xs.take k).filter p ++ [nth xs k] := by
  rw [take_succ hk, List.filter_append]; simp [h]
theorem filt_no {α : Type} [Inhabited α] {p : α → Bool} {xs : List α} {k : Nat} (hk : k < xs.length) (h : p (nth xs k) = false) : (xs.take (k + 1)).filter p = (xs.take k).filter p := by
  rw [take_succ hk, List.filter_append]; simp [h]
def isP (person : ByteArray) (x : Skill) : Bool := x.Person.toList == person.toList
def dropL (xs : List Skill) (person : ByteArray) : List Skill := xs.filter (fun x => !isP person x)
def dropF (xs : List Skill) (person : ByteArray) : List Skill × Bool := if skillsB xs && nameB person && !decide ((dropL xs person).length = xs.length) then (dropL xs person, true) else ([], false)
theorem dropF_yes {xs : List Skill} {person : ByteArray} (h : skillsB xs = true) (h' : nameB person = true) (h2 : ¬ (dropL xs person).length = xs.length) : dropF xs person = (dropL xs person, true) := by unfold dropF; rw [h, h', decide_eq_false h2]; rfl
theorem dropF_no {xs : List Skill} {person : ByteArray} (h : (skillsB xs && nameB person && !decide ((dropL xs person).length = xs.length)) = false) : dropF xs person = ([], false) := by unfold dropF; rw [h]; rfl
theorem dropF_len (xs : List Skill) (person : ByteArray) : (dropF xs person).1.length ≤ 1048576 := by
  unfold dropF; split
  · rename_i h
    simp only [Bool.and_eq_true] at h
    have h1 := skillsB_len h.1.1
    have h2 : (dropL xs person).length ≤ xs.length := List.length_filter_le _ _
    simp only; omega
  · simp
theorem enters_drop : Enters Try.prog 74 := enters_of Try.func74 (by kernel_rfl) (by kernel_rfl)
theorem pred_drop (w0 w : World) (F : List Nat) (B : Nat) (person : ByteArray) (hb0 : Below w0.heap.size w0 w) (hF : ∀ k, k ∈ F → w0.heap.size ≤ k) (ha : w0.cell? ⟨B, 0, none⟩ = some (.string person)) (xs : List Skill) :
    Pred Try.prog w F xs 74 SkillVal #[.pointer (some ⟨B, 0, none⟩)] (isP person) := by
  intro W x _ hof
  have hb : Below w0.heap.size w0 W := hb0.trans ⟨hof.os, hof.tape, hof.output, hof.size, fun k hk => hof.block k (Nat.lt_of_lt_of_le hk hb0.size) (fun hm => by have := hF k hm; omega)⟩
  have ha' := cell_later hb ha
  have hz : B < W.heap.size := World.block_lt_of_cell? W _ ha'
  clear ha hb0 hF hof hb
  show Calls _ _ #[SkillVal x, .pointer (some ⟨B, 0, none⟩)] W _
  unfold SkillVal isP
  go_enter Try.func74, Try.ntmps74
  go_wp2
  go_ret
  exact ⟨rfl, bl_alloc (bl_refl _) _⟩
set_option maxHeartbeats 4000000 in
theorem specDropPerson_any (xs : List Skill) (person : ByteArray) (A : Option Addr) (n c : Nat) (w : World) (hz : person.size ≤ maxLen) (hn : (n : Int) ≤ 9223372036854775807) (hs : Sl w A n xs) (hv : ∀ x, x ∈ xs → x.Person.size ≤ maxLen) :
    Calls Try.prog 32 #[.slice A n c, .string person] w (RetOwn2 w 65 (dropF xs person)) := by
  have HV := Lib.hid hv
  have HL := Lib.hid hs.1
  clear hv
  go_enter Try.func32, Try.ntmps32
  have hk0 := bl_refl w
  go_wp2_with fail
  refine (drGood_any xs _ _ _ _ hn hs HV.out).mono ?_
  rintro e V1 ⟨rfl, hb1⟩
  have hB1 := bl_trans (a := w) (bl_refl _) hb1
  have hk1 := bl_trans hk0 hB1
  have z1 := Lib.hid hB1.size
  cases h0 : skillsB xs
  · have Hz := Lib.hid (dropF_no (xs := xs) (person := person) (by rw [h0]; first | done | simp))
    clear h0
    go_wp2
    go_ret2
    exact retOwn2_mk Hz.out (Own.nil _ _ _) hk1
  have H0 := Lib.hid h0
  clear h0
  go_wp2_with fail
  refine (apName_any person _ hz).mono ?_
  rintro e V2 ⟨rfl, hb2⟩
  have hB2 := bl_trans (a := V1) (bl_refl _) hb2
  have hk2 := bl_trans hk1 hB2
  have z2 := Lib.hid hB2.size
  clear hk1
  cases h1 : nameB person
  · have Hz := Lib.hid (dropF_no (xs := xs) (person := person) (by rw [h1]; first | done | simp))
    clear h1
    go_wp2
    go_ret2
    exact retOwn2_mk Hz.out (Own.nil _ _ _) hk2
  have H1 := Lib.hid h1
  clear h1
  have hn2 : n ≤ 24 := by have := skillsB_len H0.out; have := HL.out; omega
  go_wp2
  go_loopw [6, 19] (fun v i wr => ∃ (k q c' : Nat) (A' : Option Addr), k ≤ n ∧ i = .int .i64 k ∧ v = .slice A' q c' ∧ q ≤ k ∧ Own wr w.heap.size 65 (.slice A' q c') ((xs.take k).filter (fun x => !isP person x)) ∧ Below w.heap.size w wr) (fun _ i _ => n - (intOf i).toNat)
  case atStart => exact ⟨0, 0, 0, none, Nat.zero_le _, rfl, rfl, Nat.le_refl _, Own.nil _ _ _, hk2⟩
  case round =>
    obtain ⟨k, q, c', A', hk, rfl, rfl, hq, ho, hb⟩ := hrel
    by_cases hlt : k < n
    · obtain ⟨b, o, rfl, hbz, c0, c1, c2⟩ := (hs.below hb).skill hlt
      have hkx : Hid (k < xs.length) := by rw [Hid, HL.out]; exact hlt
      clear hs
      cases hp : (nth xs k).Person.toList == person.toList
      · have hp2 : Hid ((!isP person (nth xs k)) = true) := by rw [Hid, isP, hp]; rfl
        go_wp2_with ((at_builtin; refine wpList_app1g rfl (.tmp 27) (.tmp 29) _ _ rfl el_skill (nth xs k) rfl (ho.alloc _) (bl_alloc hb _) rfl (by simp) (by omega) ?_; intro A2 c2 w2 ho2 hb2 hg2))
        go_roundw
        case rel => exact ⟨k + 1, q + 1, c2, A2, by omega, by go_num, rfl, by omega, by rw [filt_yes (p := fun x => !isP person x) hkx.out hp2.out]; exact ho2, hb2⟩
        case measure => simp [intOf]; omega
      · have hp2 : Hid ((!isP person (nth xs k)) = false) := by rw [Hid, isP, hp]; rfl
        go_wp2
        go_roundw
        case rel => exact ⟨k + 1, q, c', A', by omega, by go_num, rfl, by omega, by rw [filt_no (p := fun x => !isP person x) hkx.out hp2.out]; exact ho.alloc _, bl_alloc hb _⟩
        case measure => simp [intOf]; omega
    · obtain rfl : k = n := by omega
      have hfin : Hid ((xs.take k).filter (fun x => !isP person x) = dropL xs person) := by rw [Hid, List.take_of_length_le (by rw [HL.out]; exact Nat.le_refl _)]; rfl
      have hq2 := ho.sl.1
      rw [hfin.out] at ho hq2
      have hq3 := Lib.hid hq2
      clear hq2
      by_cases he : q = k
      · have he2 : ((q : Int) == (k : Int)) = true := by simp [he]
        have Hz := Lib.hid (dropF_no (xs := xs) (person := person) (by rw [decide_eq_true (by rw [hq3.out, HL.out]; exact he)]; simp))
        clear he
        go_wp2
        go_ret2
        exact retOwn2_mk Hz.out (Own.nil _ _ _) hb
      · have he2 : ((q : Int) == (k : Int)) = false := by simp; omega
        have Hz := Lib.hid (dropF_yes H0.out H1.out (by rw [hq3.out, HL.out]; exact he))
        go_wp2
        go_ret2
        exact retOwn2_mk Hz.out ho hb
set_option maxHeartbeats 4000000 in
theorem implDropPerson_any (xs : List Skill) (person : ByteArray) (A : Option Addr) (n c : Nat) (w : World) (hz : person.size ≤ maxLen) (hn : (n : Int) ≤ 9223372036854775807) (hs : Sl w A n xs) (hv : ∀ x, x ∈ xs → x.Person.size ≤ maxLen) :
    Calls Try.prog 33 #[.slice A n c, .string person] w (RetOwn2 w 65 (dropF xs person)) := by
  have HV := Lib.hid hv
  have HL := Lib.hid hs.1
  clear hv
  go_enter Try.func33, Try.ntmps33
  have hk0 := bl_refl w
  go_wp2_with fail
  refine (areSkills_any xs _ _ _ _ hn (hs.below (bl_trans hk0 (by repeat' (first | exact bl_refl _ | refine bl_alloc ?_ _ | refine bl_drew ?_ | refine bl_drewN ?_ _ | refine bl_set ?_ ?_ _ | (simp; done) | (simp; omega))))) HV.out).mono ?_
  rintro e V1 ⟨rfl, hb1⟩
  have hB1 := bl_trans (a := w) (by repeat' (first | exact bl_refl _ | refine bl_alloc ?_ _ | refine bl_drew ?_ | refine bl_drewN ?_ _ | refine bl_set ?_ ?_ _ | (simp; done) | (simp; omega))) hb1
  have hk1 := bl_trans hk0 hB1
  have z1 : Hid (w.heap.size + 1 ≤ V1.heap.size) := by have := hb1.size; simp only [World.size_alloc] at this; exact (by omega : _)
  have bp_0_1 : V1.cell? ⟨w.heap.size, 0, none⟩ = some (.string person) := cell_later hb1 (by go_simp)
  have lp_1 : w.heap.size < V1.heap.size := World.block_lt_of_cell? _ _ bp_0_1
  cases h0 : skillsB xs
  · have Hz := Lib.hid (dropF_no (xs := xs) (person := person) (by rw [h0]; first | done | simp))
    clear h0
    go_wp2
    go_ret2
    exact retOwn2_mk Hz.out (Own.nil _ _ _) hk1
  have H0 := Lib.hid h0
  clear h0
  go_wp2_with fail
  refine (isName_any person _ hz).mono ?_
  rintro e V2 ⟨rfl, hb2⟩
  have hB2 := bl_trans (a := V1) (bl_refl _) hb2
  have hk2 := bl_trans hk1 hB2
  have z2 := Lib.hid hB2.size
  have bp_0_2 : V2.cell? ⟨w.heap.size, 0, none⟩ = some (.string person) := cell_later hB2 bp_0_1
  have lp_2 : w.heap.size < V2.heap.size := World.block_lt_of_cell? _ _ bp_0_2
  clear hk1 bp_0_1 lp_1
  cases h1 : nameB person
  · have Hz := Lib.hid (dropF_no (xs := xs) (person := person) (by rw [h1]; first | done | simp))
    clear h1
    go_wp2
    go_ret2
    exact retOwn2_mk Hz.out (Own.nil _ _ _) hk2
  have H1 := Lib.hid h1
  clear h1
  have hn2 : n ≤ 24 := by have := skillsB_len H0.out; have := HL.out; omega
  go_wp2_with fail
  refine (clone_skill xs _ _ _ _ (by omega) (hs.below hk2)).mono ?_
  rintro e V3 ⟨A_c, c_c, rfl, ho_c, hb3⟩
  have hl_c := ho_c.lies
  have hb_c := hb3
  have hp_c := bp_0_2
  have hB3 := bl_trans (a := V2) (bl_refl _) hb3
  have hk3 := bl_trans hk2 hB3
  have z3 := Lib.hid hB3.size
  have bp_0_3 : V3.cell? ⟨w.heap.size, 0, none⟩ = some (.string person) := cell_later hB3 bp_0_2
  have lp_3 : w.heap.size < V3.heap.size := World.block_lt_of_cell? _ _ bp_0_3
  clear hk2 bp_0_2 lp_2
  go_wp2_with fail
  refine (deleteFunc_skill xs _ _ _ _ _ _ (isP person) _ (by have := HL.out; omega) ho_c enters_drop (pred_drop V2 _ _ _ person hb_c (fun k hk => (hl_c k hk).1) hp_c xs)).mono ?_
  rintro e VD ⟨q, rfl, ho2, hq, hof⟩
  have hbk := below_only hk3 hof hl_c (by have := z1.out; have := z2.out; have := z3.out; omega)
  have hq3 : Hid ((dropL xs person).length = q) := ho2.sl.1
  have ho3 : Own VD w.heap.size 65 (.slice A_c q c_c) (dropL xs person) := ho2.mono (by have := z1.out; have := z2.out; have := z3.out; omega)
  clear ho_c ho2 hl_c hp_c
  by_cases he : q = n
  · have he2 : ((q : Int) == (n : Int)) = true := by simp [he]
    have Hz := Lib.hid (dropF_no (xs := xs) (person := person) (by rw [decide_eq_true (by rw [hq3.out, HL.out]; exact he)]; simp))
    clear he
    go_wp2
    go_ret2
    exact retOwn2_mk Hz.out (Own.nil _ _ _) hbk
  · have he2 : ((q : Int) == (n : Int)) = false := by simp; omega
    have Hz := Lib.hid (dropF_yes H0.out H1.out (by rw [hq3.out, HL.out]; exact he))
    go_wp2
    go_ret2
    exact retOwn2_mk Hz.out ho3 hbk

end Go.Proofs.Ytiekmpbdlncgdaa
