/-
  CommittedTo: both texts answer ctF. No conditions.
-/
import Derived.Test.YtnaadihbkiakeaaIncU
import Derived.Test.YtnaadihbkiakeaaIncV
namespace Go.Proofs.Ytnaadihbkiakeaa
open Go.RowKit

theorem ret_ib {a a' : Int} {b b' : Bool} (h : a = a') (h' : b = b') : Ending.returned (.tuple #[.int .i64 a, .bool b]) = .returned (.tuple #[.int .i64 a', .bool b']) := by rw [h, h']
def ctF (xs : List Incident) (nm : ByteArray) : Int × Bool := if incsB xs && nameB nm && decide (0 ≤ atB xs nm) then ((nth xs (atB xs nm).toNat).Number, true) else (0, false)
theorem ctF_no {xs : List Incident} {nm : ByteArray} (h : (incsB xs && nameB nm && decide (0 ≤ atB xs nm)) = false) : ctF xs nm = (0, false) := by unfold ctF; rw [if_neg (by rw [h]; exact Bool.false_ne_true)]
theorem ctF_yes {xs : List Incident} {nm : ByteArray} {j : Nat} (h : incsB xs = true) (h1 : nameB nm = true) (h2 : atB xs nm = j) : ctF xs nm = ((nth xs j).Number, true) := by unfold ctF; rw [h, h1, h2]; simp
set_option maxHeartbeats 2000000 in
theorem specCommittedTo_any (xs : List Incident) (nm : ByteArray) (A : Option Addr) (n c : Nat) (w : World) (hz : nm.size ≤ maxLen) (hn : (n : Int) ≤ 9223372036854775807) (hc : n ≤ c) (hs : Sl w A n xs) (hv : ∀ x, x ∈ xs → ∀ y, y ∈ x.Names → y.size ≤ maxLen) :
    Calls Try.prog 43 #[.slice A n c, .string nm] w fun e w' => e = .returned (.tuple #[.int .i64 (ctF xs nm).1, .bool (ctF xs nm).2]) ∧ Below w.heap.size w w' := by
  have HV := Lib.hid hv
  have HL := Lib.hid hs.1
  clear hv
  go_enter Try.func43, Try.ntmps43
  have hk0 := bl_refl w
  go_wp2_with fail
  refine (ixGood_any xs _ _ _ _ hn hc hs HV.out).mono ?_
  rintro e V1 ⟨rfl, hb1⟩
  have hB1 := bl_trans (a := w) (bl_refl _) hb1
  have hk1 := bl_trans hk0 hB1
  have z1 := Lib.hid hB1.size
  cases h0 : incsB xs
  · have Hz := Lib.hid (ctF_no (xs := xs) (nm := nm) (by rw [h0]; first | done | simp))
    clear h0
    go_wp2
    go_ret2
    exact ⟨ret_ib (by rw [Hz.out]) (by rw [Hz.out]), hk1⟩
  have H0 := Lib.hid h0
  clear h0
  go_wp2_with fail
  refine (apName_any nm _ hz).mono ?_
  rintro e V2 ⟨rfl, hb2⟩
  have hB2 := bl_trans (a := V1) (bl_refl _) hb2
  have hk2 := bl_trans hk1 hB2
  have z2 := Lib.hid hB2.size
  clear hk1
  cases h1 : nameB nm
  · have Hz := Lib.hid (ctF_no (xs := xs) (nm := nm) (by rw [h1]; first | done | simp))
    clear h1
    go_wp2
    go_ret2
    exact ⟨ret_ib (by rw [Hz.out]) (by rw [Hz.out]), hk2⟩
  have H1 := Lib.hid h1
  clear h1
  go_wp2_with fail
  refine (ixOf_any xs nm _ _ _ _ hn (hs.below hk2)).mono ?_
  rintro e V3 ⟨rfl, hb3⟩
  have hB3 := bl_trans (a := V2) (bl_refl _) hb3
  have hk3 := bl_trans hk2 hB3
  have z3 := Lib.hid hB3.size
  clear hk2
  have hge := indexF_range (fun y : Incident => hasS y.Names nm) xs
  obtain ⟨i, hi⟩ : ∃ i, i = atB xs nm := ⟨_, rfl⟩
  have hge2 : -1 ≤ i ∧ i < xs.length := by rw [hi]; exact hge
  rw [← hi]
  have hi' := Lib.hid hi
  clear hi hge
  by_cases h0 : i < 0
  · have hd : decide (i < 0) = true := by simpa using h0
    have Hz := Lib.hid (ctF_no (xs := xs) (nm := nm) (by rw [← hi'.out, decide_eq_false (by omega : ¬ 0 ≤ i)]; simp))
    go_wp2
    go_ret2
    exact ⟨ret_ib (by rw [Hz.out]) (by rw [Hz.out]), hk3⟩
  have hd : decide (i < 0) = false := by simpa using h0
  obtain ⟨j, rfl⟩ := Int.eq_ofNat_of_zero_le (by omega : 0 ≤ i)
  have hj : j < n := by have := HL.out; omega
  have Hz := Lib.hid (ctF_yes H0.out H1.out hi'.out.symm)
  clear hge2 h0
  go_wp2_with fail
  refine (ixOf_any xs nm _ _ _ _ hn (hs.below hk3)).mono ?_
  rintro e V4 ⟨rfl, hb4⟩
  have hB4 := bl_trans (a := V3) (bl_refl _) hb4
  have hk4 := bl_trans hk3 hB4
  have z4 := Lib.hid hB4.size
  clear hk3
  rw [← hi'.out]
  obtain ⟨b, o, A', c', rfl, _, c0, c1, c2, c3, _, _⟩ := (hs.below hk4).incident hj
  clear hs c1 c2 c3
  go_wp2
  go_ret2
  exact ⟨ret_ib (by rw [Hz.out]) (by rw [Hz.out]), hk4⟩
set_option maxHeartbeats 2000000 in
theorem implCommittedTo_any (xs : List Incident) (nm : ByteArray) (A : Option Addr) (n c : Nat) (w : World) (hz : nm.size ≤ maxLen) (hn : (n : Int) ≤ 9223372036854775807) (hc : n ≤ c) (hs : Sl w A n xs) (hv : ∀ x, x ∈ xs → ∀ y, y ∈ x.Names → y.size ≤ maxLen) :
    Calls Try.prog 37 #[.slice A n c, .string nm] w fun e w' => e = .returned (.tuple #[.int .i64 (ctF xs nm).1, .bool (ctF xs nm).2]) ∧ Below w.heap.size w w' := by
  have HV := Lib.hid hv
  have HL := Lib.hid hs.1
  clear hv
  go_enter Try.func37, Try.ntmps37
  have hk0 := bl_refl w
  go_wp2_with fail
  refine (areIncidents_any xs _ _ _ _ hn hc hs HV.out).mono ?_
  rintro e V1 ⟨rfl, hb1⟩
  have hB1 := bl_trans (a := w) (bl_refl _) hb1
  have hk1 := bl_trans hk0 hB1
  have z1 := Lib.hid hB1.size
  cases h0 : incsB xs
  · have Hz := Lib.hid (ctF_no (xs := xs) (nm := nm) (by rw [h0]; first | done | simp))
    clear h0
    go_wp2
    go_ret2
    exact ⟨ret_ib (by rw [Hz.out]) (by rw [Hz.out]), hk1⟩
  have H0 := Lib.hid h0
  clear h0
  go_wp2_with fail
  refine (isName_any nm _ hz).mono ?_
  rintro e V2 ⟨rfl, hb2⟩
  have hB2 := bl_trans (a := V1) (bl_refl _) hb2
  have hk2 := bl_trans hk1 hB2
  have z2 := Lib.hid hB2.size
  clear hk1
  cases h1 : nameB nm
  · have Hz := Lib.hid (ctF_no (xs := xs) (nm := nm) (by rw [h1]; first | done | simp))
    clear h1
    go_wp2
    go_ret2
    exact ⟨ret_ib (by rw [Hz.out]) (by rw [Hz.out]), hk2⟩
  have H1 := Lib.hid h1
  clear h1
  go_wp2_with fail
  refine (committedAt_any xs nm _ _ _ _ hn (hs.below hk2)).mono ?_
  rintro e V3 ⟨rfl, hb3⟩
  have hB3 := bl_trans (a := V2) (bl_refl _) hb3
  have hk3 := bl_trans hk2 hB3
  have z3 := Lib.hid hB3.size
  clear hk2
  have hge := indexF_range (fun y : Incident => hasS y.Names nm) xs
  obtain ⟨i, hi⟩ : ∃ i, i = atB xs nm := ⟨_, rfl⟩
  have hge2 : -1 ≤ i ∧ i < xs.length := by rw [hi]; exact hge
  rw [← hi]
  have hi' := Lib.hid hi
  clear hi hge
  by_cases h0 : i < 0
  · have hd : decide (i < 0) = true := by simpa using h0
    have Hz := Lib.hid (ctF_no (xs := xs) (nm := nm) (by rw [← hi'.out, decide_eq_false (by omega : ¬ 0 ≤ i)]; simp))
    go_wp2
    go_ret2
    exact ⟨ret_ib (by rw [Hz.out]) (by rw [Hz.out]), hk3⟩
  have hd : decide (i < 0) = false := by simpa using h0
  obtain ⟨j, rfl⟩ := Int.eq_ofNat_of_zero_le (by omega : 0 ≤ i)
  have hj : j < n := by have := HL.out; omega
  have Hz := Lib.hid (ctF_yes H0.out H1.out hi'.out.symm)
  clear hge2 h0
  go_wp2_with fail
  refine (committedAt_any xs nm _ _ _ _ hn (hs.below hk3)).mono ?_
  rintro e V4 ⟨rfl, hb4⟩
  have hB4 := bl_trans (a := V3) (bl_refl _) hb4
  have hk4 := bl_trans hk3 hB4
  have z4 := Lib.hid hB4.size
  clear hk3
  rw [← hi'.out]
  obtain ⟨b, o, A', c', rfl, _, c0, c1, c2, c3, _, _⟩ := (hs.below hk4).incident hj
  clear hs c1 c2 c3
  go_wp2
  go_ret2
  exact ⟨ret_ib (by rw [Hz.out]) (by rw [Hz.out]), hk4⟩

end Go.Proofs.Ytnaadihbkiakeaa
