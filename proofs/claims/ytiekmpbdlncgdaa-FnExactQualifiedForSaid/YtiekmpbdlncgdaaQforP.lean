/-
  QualifiedFor: what both texts answer. No conditions.
-/
import Derived.Test.YtiekmpbdlncgdaaQualF
import Derived.Test.YtiekmpbdlncgdaaLibI
import Derived.Test.YtiekmpbdlncgdaaLibS
namespace Go.Proofs.Ytiekmpbdlncgdaa
open Go.RowKit

theorem rfPut_new (l : List ByteArray) (s : ByteArray) (A : Option Addr) (n c : Nat) (w : World) (hn : n ≤ 1048576) (hc : n ≤ c) (hcm : (c : Int) ≤ 9223372036854775807) (hs : Sl w A n l) (hlo : ∀ j, j < n → Op.bytesLess (nth l j).toList s.toList = true) :
    Calls Try.prog 76 #[.slice A n c, .string s] w (RetOwn w 9 (l ++ [s])) := by
  have h := rfPut_any l s A n c n w hn hc hcm hs (Nat.le_refl _) hlo (fun h => absurd h (Nat.lt_irrefl _))
  have e : l.take n ++ [s] ++ l.drop n = l ++ [s] := by rw [← hs.1]; simp
  rwa [e] at h
def okKd (kinds : List Int) (k : Nat) : Bool := inB (nth kinds k) 0 5 && !(decide (0 < k) && decide (nth kinds (k - 1) ≥ nth kinds k))
def risingB (kinds : List Int) : Bool := allB kinds.length (okKd kinds)
theorem okKd_0 {xs : List Int} {k : Nat} (h : inB (nth xs k) 0 5 = false) : okKd xs k = false := by simp only [okKd, h]; rfl
theorem okKd_1 {xs : List Int} {k : Nat} (h : 0 < k) (h' : nth xs (k - 1) ≥ nth xs k) : okKd xs k = false := by simp only [okKd, decide_eq_true h, decide_eq_true h']; simp
theorem okKd_y {xs : List Int} {k : Nat} (h : inB (nth xs k) 0 5 = true) (h' : ¬ 0 < k ∨ ¬ nth xs (k - 1) ≥ nth xs k) : okKd xs k = true := by
  rcases h' with h' | h' <;> simp only [okKd, h, decide_eq_false h'] <;> simp
theorem risingB_no {xs : List Int} {k : Nat} (hk : k < xs.length) (h : okKd xs k = false) : risingB xs = false := allB_false hk h
theorem risingB_all {xs : List Int} (h : ∀ j, j < xs.length → okKd xs j = true) : risingB xs = true := allB_true h
def qualP (xs : List Skill) (kinds : List Int) (day : Int) (p : ByteArray) : Bool := kinds.all (fun k => hasB xs p k day)
def addP (xs : List Skill) (kinds : List Int) (day : Int) (out : List ByteArray) (x : Skill) : List ByteArray := if qualP xs kinds day x.Person && !hasS out x.Person then out ++ [x.Person] else out
def qualL (xs : List Skill) (kinds : List Int) (day : Int) (ys : List Skill) : List ByteArray := ys.foldl (addP xs kinds day) []
theorem qualL_succ {xs : List Skill} {kinds : List Int} {day : Int} {ys : List Skill} {k : Nat} (hk : k < ys.length) : qualL xs kinds day (ys.take (k + 1)) = addP xs kinds day (qualL xs kinds day (ys.take k)) (nth ys k) := by
  unfold qualL; rw [take_succ hk, List.foldl_append]; rfl
theorem addP_yes {xs : List Skill} {kinds : List Int} {day : Int} {out : List ByteArray} {x : Skill} (h : qualP xs kinds day x.Person = true) (h' : hasS out x.Person = false) : addP xs kinds day out x = out ++ [x.Person] := by unfold addP; rw [h, h']; rfl
theorem addP_no {xs : List Skill} {kinds : List Int} {day : Int} {out : List ByteArray} {x : Skill} (h : qualP xs kinds day x.Person = false ∨ hasS out x.Person = true) : addP xs kinds day out x = out := by unfold addP; rcases h with h | h <;> rw [h] <;> simp
theorem addP_len (xs : List Skill) (kinds : List Int) (day : Int) (out : List ByteArray) (x : Skill) : (addP xs kinds day out x).length ≤ out.length + 1 := by
  unfold addP; split
  · simp
  · omega
theorem qualL_len (xs : List Skill) (kinds : List Int) (day : Int) (ys : List Skill) : (qualL xs kinds day ys).length ≤ ys.length := by
  have h : ∀ k, k ≤ ys.length → (qualL xs kinds day (ys.take k)).length ≤ k := by
    intro k
    induction k with
    | zero => intro _; simp [qualL]
    | succ k ih =>
      intro hk
      rw [qualL_succ (by omega)]
      have := addP_len xs kinds day (qualL xs kinds day (ys.take k)) (nth ys k)
      have := ih (by omega)
      omega
  have := h ys.length (Nat.le_refl _)
  rwa [List.take_length] at this
theorem person_le {xs : List Skill} (h : skillsB xs = true) {j : Nat} : ∀ {k : Nat}, j ≤ k → k < xs.length → Op.bytesLess (nth xs k).Person.toList (nth xs j).Person.toList = false
  | 0, hj, _ => by
    obtain rfl : j = 0 := by omega
    exact bl_irr _
  | k + 1, hj, hk => by
    by_cases e : j = k + 1
    · subst e; exact bl_irr _
    · have ih := person_le h (by omega : j ≤ k) (by omega)
      have h1 := skillsB_at h hk
      simp only [okSkill, Bool.and_eq_true, decide_eq_true (by omega : 0 < k + 1), Bool.true_and, Bool.not_not, Nat.add_sub_cancel] at h1
      have h2 := h1.2
      simp only [skLess, Bool.or_eq_true, Bool.and_eq_true] at h2
      cases h3 : Op.bytesLess (nth xs (k + 1)).Person.toList (nth xs j).Person.toList with
      | false => rfl
      | true =>
        rcases h2 with h2 | ⟨h2, _⟩
        · rw [bl_tr h2 h3] at ih; cases ih
        · rw [← eq_of_beq h2] at h3; rw [h3] at ih; cases ih
/-- what has been gathered: rising, and of the persons before k -/
def GoodO (xs : List Skill) (k : Nat) (out : List ByteArray) : Prop := Rises (fun p => p) out ∧ ∀ e, e ∈ out → ∃ j, j < k ∧ e = (nth xs j).Person
theorem GoodO.less {xs : List Skill} {k : Nat} {out : List ByteArray} (h : GoodO xs k out) (hs : skillsB xs = true) (hk : k < xs.length) (hn : hasS out (nth xs k).Person = false) : ∀ j, j < out.length → Op.bytesLess (nth out j).toList (nth xs k).Person.toList = true := by
  intro j hj
  obtain ⟨i, hi, he⟩ := h.2 _ (nth_mem hj)
  have h1 := person_le hs (by omega : i ≤ k) hk
  rw [← he] at h1
  cases h2 : Op.bytesLess (nth out j).toList (nth xs k).Person.toList with
  | true => rfl
  | false =>
    have e := bl_tot h2 h1
    have : hasS out (nth xs k).Person = true := by
      unfold hasS; rw [List.any_eq_true]; exact ⟨_, nth_mem hj, by rw [e]; simp⟩
    rw [hn] at this; cases this
theorem GoodO.hit {xs : List Skill} {k : Nat} {out : List ByteArray} {p : ByteArray} (h : GoodO xs k out) (hy : hasS out p = true) : ∃ q, q < out.length ∧ (∀ j, j < q → Op.bytesLess (nth out j).toList p.toList = true) ∧ ((nth out q).toList == p.toList) = true := by
  unfold hasS at hy
  rw [any_index] at hy
  have hr := indexF_range (fun x : ByteArray => x.toList == p.toList) out
  have h0 : 0 ≤ indexF (fun x : ByteArray => x.toList == p.toList) out := by simpa using hy
  obtain ⟨q, hq⟩ := Int.eq_ofNat_of_zero_le h0
  obtain ⟨h1, h2⟩ := indexF_at hq
  refine ⟨q, h1, fun j hj => ?_, h2⟩
  have h3 := h.1 j q hj h1
  rwa [eq_of_beq h2] at h3
theorem GoodO.add {xs : List Skill} {kinds : List Int} {day : Int} {k : Nat} {out : List ByteArray} (h : GoodO xs k out) (hs : skillsB xs = true) (hk : k < xs.length) : GoodO xs (k + 1) (addP xs kinds day out (nth xs k)) := by
  unfold addP
  split
  · rename_i hc
    simp only [Bool.and_eq_true, Bool.not_eq_true'] at hc
    have hl := h.less hs hk hc.2
    refine ⟨fun i j hij hj => ?_, fun e he => ?_⟩
    · rw [List.length_append, List.length_singleton] at hj
      have e1 : ∀ i, i < out.length → nth (out ++ [(nth xs k).Person]) i = nth out i := fun i hi => nth_get (by rw [List.getElem?_append_left hi, get_nth hi])
      by_cases e : j < out.length
      · rw [e1 i (by omega), e1 j e]; exact h.1 i j hij e
      · obtain rfl : j = out.length := by omega
        have e2 : nth (out ++ [(nth xs k).Person]) out.length = (nth xs k).Person := nth_get (by simp)
        rw [e1 i hij, e2]; exact hl i hij
    · rcases List.mem_append.1 he with he | he
      · obtain ⟨j, hj, e⟩ := h.2 e he
        exact ⟨j, by omega, e⟩
      · simp at he
        exact ⟨k, by omega, he⟩
  · exact ⟨h.1, fun e he => by obtain ⟨j, hj, e'⟩ := h.2 e he; exact ⟨j, by omega, e'⟩⟩
theorem good_start (xs : List Skill) : GoodO xs 0 [] := ⟨fun j k _ hk => absurd hk (by simp), fun e he => by cases he⟩
theorem all_not_any {α : Type} (ks : List α) (p : α → Bool) : (!ks.any (fun k => !p k)) = ks.all p := by
  induction ks with
  | nil => rfl
  | cons k ks ih => simp only [List.any_cons, List.all_cons, Bool.not_or, Bool.not_not, ih]
theorem all_take_succ {ks : List Int} {p : Int → Bool} {m : Nat} (hm : m < ks.length) : (ks.take (m + 1)).all p = ((ks.take m).all p && p (nth ks m)) := by
  rw [take_succ hm, List.all_append]; simp
def qforF (xs : List Skill) (kinds : List Int) (day : Int) : List ByteArray × Bool := if skillsB xs && inB kinds.length 1 6 && risingB kinds && inB day 0 20000 then (qualL xs kinds day xs, true) else ([], false)
theorem qforF_yes {xs : List Skill} {kinds : List Int} {day : Int} (h : (skillsB xs && inB kinds.length 1 6 && risingB kinds && inB day 0 20000) = true) : qforF xs kinds day = (qualL xs kinds day xs, true) := by unfold qforF; rw [if_pos h]
theorem qforF_no {xs : List Skill} {kinds : List Int} {day : Int} (h : (skillsB xs && inB kinds.length 1 6 && risingB kinds && inB day 0 20000) = false) : qforF xs kinds day = ([], false) := by unfold qforF; rw [if_neg (by rw [h]; exact Bool.false_ne_true)]
theorem qforF_len (xs : List Skill) (kinds : List Int) (day : Int) : (qforF xs kinds day).1.length ≤ 1048576 := by
  unfold qforF; split
  · rename_i h
    simp only [Bool.and_eq_true] at h
    have h1 := skillsB_len h.1.1.1
    have h2 := qualL_len xs kinds day xs
    simp only; omega
  · simp
set_option maxHeartbeats 2000000 in
theorem l1Rising_any (kinds : List Int) (B : Option Addr) (m d : Nat) (w : World) (hm : (m : Int) ≤ 9223372036854775807) (ht : Sl w B m kinds) :
    Calls Try.prog 75 #[.slice B m d, .int .i64 0, .int .i64 5] w fun e w' => e = .returned (.bool (risingB kinds)) ∧ w' = w := by
  have HK := Lib.hid ht.1
  go_enter Try.func75, Try.ntmps75
  go_wp2
  go_loop [11] (fun i => ∃ k : Nat, k ≤ m ∧ i = .int .i64 k ∧ Hid (∀ j, j < k → okKd kinds j = true)) (fun i => m - (intOf i).toNat)
  case atStart => exact ⟨0, Nat.zero_le _, rfl, fun j hj => absurd hj (by omega)⟩
  case round =>
    obtain ⟨k, hk, rfl, hg⟩ := hrel
    by_cases hlt : k < m
    · skip
      obtain ⟨b, o, rfl, _, c0⟩ := ht.int hlt
      have hkx : Hid (k < kinds.length) := by rw [Hid, HK.out]; exact hlt
      cases g0 : inB (nth kinds k) 0 5
      · have G0 := Lib.hid g0
        clear ht
        go_wp2_with (go_at_call 61; refine (l1In_any _ _ _ _).mono ?_; rintro e VV ⟨rfl, rfl⟩)
        go_ret
        exact ⟨ret_bool (risingB_no hkx.out (okKd_0 G0.out)).symm, rfl⟩
      have G0 := Lib.hid g0
      by_cases hk0 : 0 < k
      · obtain ⟨b', o', e', _, d0⟩ := ht.int (k := k - 1) (by omega)
        injection e' with e'
        injection e' with e1 e2
        subst e1 e2
        clear ht
        have hkd : decide ((k : Int) > 0) = true := by simpa using hk0
        have i2 : 0 ≤ (k : Int) - 1 := by omega
        have i4 : (k : Int) - 1 < m := by omega
        have i1 : IntKind.i64.wrap ((k : Int) - 1) = (k : Int) - 1 := IntWalk.i64_in _ (by omega)
        have i3 : ((k : Int) - 1).toNat = k - 1 := by omega
        by_cases go : nth kinds (k - 1) ≥ nth kinds k
        · have go2 : decide (nth kinds (k - 1) ≥ nth kinds k) = true := by simpa using go
          go_wp2_with (go_at_call 61; refine (l1In_any _ _ _ _).mono ?_; rintro e VV ⟨rfl, rfl⟩)
          go_ret
          exact ⟨ret_bool (risingB_no hkx.out (okKd_1 hk0 go)).symm, rfl⟩
        · have go2 : decide (nth kinds (k - 1) ≥ nth kinds k) = false := by simpa using go
          go_wp2_with (go_at_call 61; refine (l1In_any _ _ _ _).mono ?_; rintro e VV ⟨rfl, rfl⟩)
          go_round
          case rel => exact ⟨k + 1, by omega, by go_num, upto_succ hg (okKd_y G0.out (.inr (by omega)))⟩
          case measure => simp [intOf]; omega
      · have hkd : decide ((k : Int) > 0) = false := by simp; omega
        clear ht
        go_wp2_with (go_at_call 61; refine (l1In_any _ _ _ _).mono ?_; rintro e VV ⟨rfl, rfl⟩)
        go_round
        case rel => exact ⟨k + 1, by omega, by go_num, upto_succ hg (okKd_y G0.out (.inl hk0))⟩
        case measure => simp [intOf]; omega
    · obtain rfl : k = m := by omega
      go_wp2
      go_ret
      exact ⟨ret_bool (risingB_all (by rw [HK.out]; exact hg.out)).symm, rfl⟩

end Go.Proofs.Ytiekmpbdlncgdaa
