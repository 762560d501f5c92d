/-
  Several texts in one. No conditions.
-/
import Derived.Test.YtpdblmcflniomaaGreatDoorIv6
import Derived.Test.YtpdblmcflniomaaGreatDoorIv12
namespace Go.Proofs.YtpdblmcflniomaaGreatDoor
open Go.RowKit

def nmT (h : ByteArray) (xs : List ByteArray) : Nat → ByteArray
  | 0 => h
  | i + 1 => if 0 < i then nmT h xs i ++ ⟨#[44]⟩ ++ nth xs i else nmT h xs i ++ nth xs i
def hdT (number node : Int) (closed : Bool) : ByteArray := if closed then itB number ++ ⟨#[64]⟩ ++ itB node ++ ⟨#[33]⟩ ++ ⟨#[58]⟩ else itB number ++ ⟨#[64]⟩ ++ itB node ++ ⟨#[58]⟩
def incT (number node : Int) (closed : Bool) (xs : List ByteArray) : ByteArray := nmT (hdT number node closed) xs xs.length
def itxF (number node : Int) (closed : Bool) (xs : List ByteArray) : ByteArray × Bool := if incB number node closed xs then (incT number node closed xs, true) else (⟨#[]⟩, false)
theorem itxF_yes {number node : Int} {closed : Bool} {xs : List ByteArray} (h : incB number node closed xs = true) : itxF number node closed xs = (incT number node closed xs, true) := by unfold itxF; rw [if_pos h]
theorem itxF_no {number node : Int} {closed : Bool} {xs : List ByteArray} (h : incB number node closed xs = false) : itxF number node closed xs = (⟨#[]⟩, false) := by unfold itxF; rw [if_neg (by rw [h]; exact Bool.false_ne_true)]
theorem ret_itb {a b : ByteArray} {p : Bool} {r : ByteArray × Bool} (h : r = (a, p)) (h1 : a = b) : Ending.returned (.tuple #[.string b, .bool p]) = .returned (.tuple #[.string r.1, .bool r.2]) := by rw [h, h1]
theorem inc_bd {number node : Int} {closed : Bool} {xs : List ByteArray} (h : incB number node closed xs = true) : (1 ≤ number ∧ number ≤ 999) ∧ (0 ≤ node ∧ node ≤ 13) ∧ xs.length ≤ 12 ∧ ∀ k, k < xs.length → (nth xs k).size ≤ 6 := by
  have h1 := incB_num h
  have h2 := incB_len h
  have h3 := incB_names h
  unfold allNm at h3
  refine ⟨h1, ?_, h2, fun k hk => nameB_size (allB_iff.1 h3 k hk)⟩
  simp only [incB, baseB, Bool.and_eq_true] at h
  exact inB_iff.1 h.1.1.1.1.2
theorem hdT_len {number node : Int} (closed : Bool) (h0 : 1 ≤ number ∧ number ≤ 999) (h1 : 0 ≤ node ∧ node ≤ 13) : (hdT number node closed).size ≤ 8 := by
  have a := it_len (n := number) (by omega) 2 (by omega)
  have b := it_len (n := node) (by omega) 1 (by omega)
  have e : ∀ u : UInt8, (⟨#[u]⟩ : ByteArray).size = 1 := fun u => rfl
  unfold hdT
  split <;> simp only [ByteArray.size_append, e] <;> omega
theorem nmT_len {h : ByteArray} {xs : List ByteArray} (hh : h.size ≤ 8) (hx : ∀ k, k < xs.length → (nth xs k).size ≤ 6) : ∀ i, i ≤ xs.length → (nmT h xs i).size ≤ 8 + 7 * i
  | 0, _ => by show h.size ≤ _; omega
  | i + 1, hi => by
    have h1 := nmT_len hh hx i (by omega)
    have h2 := hx i (by omega)
    have e : (⟨#[44]⟩ : ByteArray).size = 1 := rfl
    unfold nmT
    split <;> simp only [ByteArray.size_append, e] <;> omega
theorem nmT_1 {h : ByteArray} {xs : List ByteArray} {i : Nat} (hi : 0 < i) : nmT h xs (i + 1) = nmT h xs i ++ ⟨#[44]⟩ ++ nth xs i := by rw [nmT, if_pos hi]
theorem nmT_0 {h : ByteArray} {xs : List ByteArray} {i : Nat} (hi : ¬ 0 < i) : nmT h xs (i + 1) = nmT h xs i ++ nth xs i := by rw [nmT, if_neg hi]

end Go.Proofs.YtpdblmcflniomaaGreatDoor

namespace Go.Proofs.YtpdblmcflniomaaGreatDoor
open Go.RowKit

set_option maxRecDepth 100000 in
set_option maxHeartbeats 4000000 in
theorem ixText_f (number node : Int) (xs : List ByteArray) (A : Option Addr) (n c : Nat) (w : World) (hs : Sl w A n xs) (hv : incB number node false xs = true) :
    Calls Tryz.prog 62 #[.agg #[.int .i64 number, .int .i64 node, .bool false, .slice A n c]] w fun e w' => e = .returned (.string (incT number node false xs)) ∧ Below w.heap.size w w' := by
  have HL := Lib.hid hs.1
  obtain ⟨⟨hn0, hn1⟩, ⟨hm0, hm1⟩, hl12, hnm⟩ := inc_bd hv
  have HN := Lib.hid hnm
  have hs1 := it_len (n := number) (by omega) 2 (by omega)
  have hs2 := it_len (n := node) (by omega) 1 (by omega)
  have hh := hdT_len false ⟨hn0, hn1⟩ ⟨hm0, hm1⟩
  have HLn := Lib.hid (nmT_len hh hnm)
  have hn12 : n ≤ 12 := by have := HL.out; omega
  obtain ⟨H, hH⟩ : ∃ H, H = hdT number node false := ⟨_, rfl⟩
  have HH := Lib.hid hH
  rw [← hH] at hh HLn
  clear hv hnm hH
  go_enter Tryz.func62, Tryz.ntmps62
  go_wp2_with fail
  refine wp_region_grow (by kernel_rfl) (by kernel_rfl) (fun X hX => ?_)
  have hbX : Below w.heap.size w X := by rw [hX]; exact bl_alloc (bl_refl _) _
  have x0 : X.cell? ⟨w.heap.size, 0, none⟩ = some (.int .i64 number) := by rw [hX]; go_simp
  have x1 : X.cell? ⟨w.heap.size, 1, none⟩ = some (.int .i64 node) := by rw [hX]; go_simp
  have x2 : X.cell? ⟨w.heap.size, 2, none⟩ = some (.bool false) := by rw [hX]; go_simp
  have x3 : X.cell? ⟨w.heap.size, 3, none⟩ = some (.slice A n c) := by rw [hX]; go_simp
  have q0 := Gw.cell x0
  have q1 := Gw.cell x1
  have HX := Lib.hid hX
  clear hX
  repeat (go_big_quiet_step (exact Calls.grow_of (l1Num_any _ _ (by omega) (by omega))))
  refine wpGrow_nil (fun V hV => ?_)
  have hk := bl_trans hbX hV
  have y2 := cell_later hV x2
  have y3 := cell_later hV x3
  clear q0 q1 hV hbX HX x0 x1 x2 x3
  have HE : Hid (itB number ++ ⟨#[64]⟩ ++ itB node ++ ⟨#[58]⟩ = H) := by rw [Hid, HH.out]; rfl
  go_wp2
  rw [HE.out]
  go_loopw [3, 23] (fun tv iv wr => ∃ i : Nat, i ≤ n ∧ iv = .int .i64 i ∧ tv = .string (nmT H xs i) ∧ Below w.heap.size w wr) (fun _ iv _ => n - (intOf iv).toNat)
  case atStart => exact ⟨0, Nat.zero_le _, rfl, rfl, hk⟩
  case round =>
    obtain ⟨i, hi, rfl, rfl, hb⟩ := hrel
    by_cases hlt : i < n
    · obtain ⟨b, o, rfl, hbz, c0⟩ := (hs.below hb).str hlt
      clear hs y2 y3
      have a0 := HN.out i (by rw [HL.out]; exact hlt)
      have ht := HLn.out i (by rw [HL.out]; omega)
      have HX1 : Hid (0 < i → nmT H xs (i + 1) = nmT H xs i ++ ⟨#[44]⟩ ++ nth xs i) := nmT_1
      have HX2 : Hid (¬ 0 < i → nmT H xs (i + 1) = nmT H xs i ++ nth xs i) := nmT_0
      obtain ⟨T, hT0⟩ : ∃ T, T = nmT H xs i := ⟨_, rfl⟩
      rw [← hT0] at ht HX1 HX2 ⊢
      clear hT0
      by_cases h0 : 0 < i
      · have hkd : decide ((i : Int) > 0) = true := by simpa using h0
        go_wp2
        go_roundw
        case rel => exact ⟨i + 1, by omega, by go_num, by rw [HX1.out h0], hb⟩
        case measure => simp [intOf]; omega
      · have hkd : decide ((i : Int) > 0) = false := by simp; omega
        go_wp2
        go_roundw
        case rel => exact ⟨i + 1, by omega, by go_num, by rw [HX2.out h0], hb⟩
        case measure => simp [intOf]; omega
    · obtain hin : i = n := by omega
      have HF : Hid (nmT H xs i = incT number node false xs) := by rw [Hid, hin, HH.out, ← HL.out]; rfl
      clear hs y2 y3
      go_wp2
      go_ret
      exact ⟨congrArg (fun b => Ending.returned (.string b)) HF.out, hb⟩
set_option maxRecDepth 100000 in
set_option maxHeartbeats 4000000 in
theorem ixText_t (number node : Int) (xs : List ByteArray) (A : Option Addr) (n c : Nat) (w : World) (hs : Sl w A n xs) (hv : incB number node true xs = true) :
    Calls Tryz.prog 62 #[.agg #[.int .i64 number, .int .i64 node, .bool true, .slice A n c]] w fun e w' => e = .returned (.string (incT number node true xs)) ∧ Below w.heap.size w w' := by
  have HL := Lib.hid hs.1
  obtain ⟨⟨hn0, hn1⟩, ⟨hm0, hm1⟩, hl12, hnm⟩ := inc_bd hv
  have HN := Lib.hid hnm
  have hs1 := it_len (n := number) (by omega) 2 (by omega)
  have hs2 := it_len (n := node) (by omega) 1 (by omega)
  have hh := hdT_len true ⟨hn0, hn1⟩ ⟨hm0, hm1⟩
  have HLn := Lib.hid (nmT_len hh hnm)
  have hn12 : n ≤ 12 := by have := HL.out; omega
  obtain ⟨H, hH⟩ : ∃ H, H = hdT number node true := ⟨_, rfl⟩
  have HH := Lib.hid hH
  rw [← hH] at hh HLn
  clear hv hnm hH
  go_enter Tryz.func62, Tryz.ntmps62
  go_wp2_with fail
  refine wp_region_grow (by kernel_rfl) (by kernel_rfl) (fun X hX => ?_)
  have hbX : Below w.heap.size w X := by rw [hX]; exact bl_alloc (bl_refl _) _
  have x0 : X.cell? ⟨w.heap.size, 0, none⟩ = some (.int .i64 number) := by rw [hX]; go_simp
  have x1 : X.cell? ⟨w.heap.size, 1, none⟩ = some (.int .i64 node) := by rw [hX]; go_simp
  have x2 : X.cell? ⟨w.heap.size, 2, none⟩ = some (.bool true) := by rw [hX]; go_simp
  have x3 : X.cell? ⟨w.heap.size, 3, none⟩ = some (.slice A n c) := by rw [hX]; go_simp
  have q0 := Gw.cell x0
  have q1 := Gw.cell x1
  have HX := Lib.hid hX
  clear hX
  repeat (go_big_quiet_step (exact Calls.grow_of (l1Num_any _ _ (by omega) (by omega))))
  refine wpGrow_nil (fun V hV => ?_)
  have hk := bl_trans hbX hV
  have y2 := cell_later hV x2
  have y3 := cell_later hV x3
  clear q0 q1 hV hbX HX x0 x1 x2 x3
  have HE : Hid (itB number ++ ⟨#[64]⟩ ++ itB node ++ ⟨#[33]⟩ ++ ⟨#[58]⟩ = H) := by rw [Hid, HH.out]; rfl
  go_wp2
  rw [HE.out]
  go_loopw [3, 23] (fun tv iv wr => ∃ i : Nat, i ≤ n ∧ iv = .int .i64 i ∧ tv = .string (nmT H xs i) ∧ Below w.heap.size w wr) (fun _ iv _ => n - (intOf iv).toNat)
  case atStart => exact ⟨0, Nat.zero_le _, rfl, rfl, hk⟩
  case round =>
    obtain ⟨i, hi, rfl, rfl, hb⟩ := hrel
    by_cases hlt : i < n
    · obtain ⟨b, o, rfl, hbz, c0⟩ := (hs.below hb).str hlt
      clear hs y2 y3
      have a0 := HN.out i (by rw [HL.out]; exact hlt)
      have ht := HLn.out i (by rw [HL.out]; omega)
      have HX1 : Hid (0 < i → nmT H xs (i + 1) = nmT H xs i ++ ⟨#[44]⟩ ++ nth xs i) := nmT_1
      have HX2 : Hid (¬ 0 < i → nmT H xs (i + 1) = nmT H xs i ++ nth xs i) := nmT_0
      obtain ⟨T, hT0⟩ : ∃ T, T = nmT H xs i := ⟨_, rfl⟩
      rw [← hT0] at ht HX1 HX2 ⊢
      clear hT0
      by_cases h0 : 0 < i
      · have hkd : decide ((i : Int) > 0) = true := by simpa using h0
        go_wp2
        go_roundw
        case rel => exact ⟨i + 1, by omega, by go_num, by rw [HX1.out h0], hb⟩
        case measure => simp [intOf]; omega
      · have hkd : decide ((i : Int) > 0) = false := by simp; omega
        go_wp2
        go_roundw
        case rel => exact ⟨i + 1, by omega, by go_num, by rw [HX2.out h0], hb⟩
        case measure => simp [intOf]; omega
    · obtain hin : i = n := by omega
      have HF : Hid (nmT H xs i = incT number node true xs) := by rw [Hid, hin, HH.out, ← HL.out]; rfl
      clear hs y2 y3
      go_wp2
      go_ret
      exact ⟨congrArg (fun b => Ending.returned (.string b)) HF.out, hb⟩
theorem ixText_any (number node : Int) (closed : Bool) (xs : List ByteArray) (A : Option Addr) (n c : Nat) (w : World) (hs : Sl w A n xs) (hv : incB number node closed xs = true) :
    Calls Tryz.prog 62 #[.agg #[.int .i64 number, .int .i64 node, .bool closed, .slice A n c]] w fun e w' => e = .returned (.string (incT number node closed xs)) ∧ Below w.heap.size w w' := by
  cases closed
  · exact ixText_f number node xs A n c w hs hv
  · exact ixText_t number node xs A n c w hs hv
set_option maxHeartbeats 1000000 in
theorem specIncidentText_any (number node : Int) (closed : Bool) (xs : List ByteArray) (A : Option Addr) (n c : Nat) (w : World) (hn : (n : Int) ≤ 9223372036854775807) (hs : Sl w A n xs) (hv : ∀ x, x ∈ xs → x.size ≤ maxLen) :
    Calls Tryz.prog 27 #[.agg #[.int .i64 number, .int .i64 node, .bool closed, .slice A n c]] w fun e w' => e = .returned (.tuple #[.string (itxF number node closed xs).1, .bool (itxF number node closed xs).2]) ∧ Below w.heap.size w w' := by
  have HV := Lib.hid hv
  clear hv
  go_enter Tryz.func27, Tryz.ntmps27
  go_wp2_with fail
  refine (ixOne_any number node closed xs _ _ _ _ hn (hs.below (bl_alloc (bl_refl _) _)) HV.out).mono ?_
  rintro e V1 ⟨rfl, hb1⟩
  have y0 : V1.cell? ⟨w.heap.size, 0, none⟩ = some (.int .i64 number) := cell_later hb1 (by go_simp)
  have y1 : V1.cell? ⟨w.heap.size, 1, none⟩ = some (.int .i64 node) := cell_later hb1 (by go_simp)
  have y2 : V1.cell? ⟨w.heap.size, 2, none⟩ = some (.bool closed) := cell_later hb1 (by go_simp)
  have y3 : V1.cell? ⟨w.heap.size, 3, none⟩ = some (.slice A n c) := cell_later hb1 (by go_simp)
  have hk1 := bl_trans (a := w) (bl_alloc (bl_refl _) _) hb1
  clear hb1
  cases h0 : incB number node closed xs
  · have Hz := Lib.hid (itxF_no h0)
    clear h0
    go_wp2
    go_ret2
    exact ⟨ret_itb Hz.out rfl, hk1⟩
  have HZ := Lib.hid (itxF_yes h0)
  have H0 := Lib.hid h0
  clear h0
  go_wp2_with fail
  refine (ixText_any number node closed xs _ _ _ _ (hs.below hk1) H0.out).mono ?_
  rintro e V2 ⟨rfl, hb2⟩
  have hk := bl_trans hk1 hb2
  clear y0 y1 y2 y3
  go_wp2
  go_ret2
  exact ⟨ret_itb HZ.out rfl, hk⟩

end Go.Proofs.YtpdblmcflniomaaGreatDoor
