/-
  IncidentText: the program's text. No conditions.
-/
import Derived.Test.YtjiokhgmoalnpaaDoorItxJq
import Derived.Test.YtjiokhgmoalnpaaDoorIncC
namespace Go.Proofs.YtjiokhgmoalnpaaDoor
open Go.RowKit

set_option maxRecDepth 100000 in
set_option maxHeartbeats 4000000 in
theorem incidentText_f (number node : Int) (xs : List ByteArray) (A : Option Addr) (n c : Nat) (w : World) (hs : Sl w A n xs) (hv : incB number node false xs = true) (hnc : n ≤ c) (he : Tab w) :
    Calls Tryd.prog 37 #[.agg #[.int .i64 number, .int .i64 node, .bool false, .slice A n c]] w fun e w' => e = .returned (.string (incT number node false xs)) ∧ Below w.heap.size w w' := by
  have HL := Lib.hid hs.1
  obtain ⟨⟨hn0, hn1⟩, ⟨hm0, hm1⟩, hl12, hnm⟩ := inc_bd hv
  have HN := Lib.hid hnm
  have hs1 := it_len (n := number) (by omega) 2 (by omega)
  have hs2 := it_len (n := node) (by omega) 1 (by omega)
  have hh := hdT_len false ⟨hn0, hn1⟩ ⟨hm0, hm1⟩
  have HLn := Lib.hid (nmT_len hh hnm)
  have hn12 : n ≤ 12 := by have := HL.out; omega
  obtain ⟨H, hH⟩ : ∃ H, H = hdT number node false := ⟨_, rfl⟩
  have HH := Lib.hid hH
  rw [← hH] at hh HLn
  clear hv hnm hH
  go_enter Tryd.func37, Tryd.ntmps37
  go_wp2_with fail
  refine (join2_any ⟨#[64]⟩ number node _ (by go_simp) (by go_simp) ⟨by omega, by omega⟩ ⟨by omega, by omega⟩ (by decide) (he.below (bl_alloc (bl_alloc (bl_refl _) _) _))).mono ?_
  rintro e V ⟨rfl, hV⟩
  have y2 : V.cell? ⟨w.heap.size, 2, none⟩ = some (.bool false) := cell_later hV (by go_simp)
  have y3 : V.cell? ⟨w.heap.size, 3, none⟩ = some (.slice A n c) := cell_later hV (by go_simp)
  have hk := bl_trans (a := w) (bl_alloc (bl_alloc (bl_refl _) _) _) hV
  have HJL : Hid ((joinB ⟨#[44]⟩ xs).size ≤ 140737488355328) := by
    have h1 := incT_join number node false xs
    have h2 := HLn.out xs.length (Nat.le_refl _)
    have h3 : (incT number node false xs).size = (hdT number node false).size + (joinB ⟨#[44]⟩ xs).size := by rw [← h1, ByteArray.size_append]
    have h4 : incT number node false xs = nmT H xs xs.length := by rw [HH.out]; rfl
    rw [h4] at h3
    rw [Hid]; omega
  have hjl := HJL.out
  have hjm : (joinB ⟨#[44]⟩ xs).size ≤ 1000 := by
    have h1 := incT_join number node false xs
    have h2 := HLn.out xs.length (Nat.le_refl _)
    have h3 : (incT number node false xs).size = (hdT number node false).size + (joinB ⟨#[44]⟩ xs).size := by rw [← h1, ByteArray.size_append]
    have h4 : incT number node false xs = nmT H xs xs.length := by rw [HH.out]; rfl
    rw [h4] at h3
    omega
  have hsV := hs.below hk
  clear hV hs he
  have HF : Hid (itB number ++ ⟨#[64]⟩ ++ itB node ++ ⟨#[58]⟩ ++ joinB ⟨#[44]⟩ xs = incT number node false xs) := by rw [Hid, ← incT_join]; rfl
  go_wp2_with fail
  refine (joinS_any xs ⟨#[44]⟩ _ _ _ _ hsV (by omega) hnc HJL.out).mono ?_
  rintro e V2 ⟨rfl, hV2⟩
  have hk2 := bl_trans hk hV2
  clear y2 y3 hsV hV2
  go_wp2
  go_ret
  exact ⟨congrArg (fun b => Ending.returned (.string b)) HF.out, hk2⟩
set_option maxRecDepth 100000 in
set_option maxHeartbeats 4000000 in
theorem incidentText_t (number node : Int) (xs : List ByteArray) (A : Option Addr) (n c : Nat) (w : World) (hs : Sl w A n xs) (hv : incB number node true xs = true) (hnc : n ≤ c) (he : Tab w) :
    Calls Tryd.prog 37 #[.agg #[.int .i64 number, .int .i64 node, .bool true, .slice A n c]] w fun e w' => e = .returned (.string (incT number node true xs)) ∧ Below w.heap.size w w' := by
  have HL := Lib.hid hs.1
  obtain ⟨⟨hn0, hn1⟩, ⟨hm0, hm1⟩, hl12, hnm⟩ := inc_bd hv
  have HN := Lib.hid hnm
  have hs1 := it_len (n := number) (by omega) 2 (by omega)
  have hs2 := it_len (n := node) (by omega) 1 (by omega)
  have hh := hdT_len true ⟨hn0, hn1⟩ ⟨hm0, hm1⟩
  have HLn := Lib.hid (nmT_len hh hnm)
  have hn12 : n ≤ 12 := by have := HL.out; omega
  obtain ⟨H, hH⟩ : ∃ H, H = hdT number node true := ⟨_, rfl⟩
  have HH := Lib.hid hH
  rw [← hH] at hh HLn
  clear hv hnm hH
  go_enter Tryd.func37, Tryd.ntmps37
  go_wp2_with fail
  refine (join2_any ⟨#[64]⟩ number node _ (by go_simp) (by go_simp) ⟨by omega, by omega⟩ ⟨by omega, by omega⟩ (by decide) (he.below (bl_alloc (bl_alloc (bl_refl _) _) _))).mono ?_
  rintro e V ⟨rfl, hV⟩
  have y2 : V.cell? ⟨w.heap.size, 2, none⟩ = some (.bool true) := cell_later hV (by go_simp)
  have y3 : V.cell? ⟨w.heap.size, 3, none⟩ = some (.slice A n c) := cell_later hV (by go_simp)
  have hk := bl_trans (a := w) (bl_alloc (bl_alloc (bl_refl _) _) _) hV
  have HJL : Hid ((joinB ⟨#[44]⟩ xs).size ≤ 140737488355328) := by
    have h1 := incT_join number node true xs
    have h2 := HLn.out xs.length (Nat.le_refl _)
    have h3 : (incT number node true xs).size = (hdT number node true).size + (joinB ⟨#[44]⟩ xs).size := by rw [← h1, ByteArray.size_append]
    have h4 : incT number node true xs = nmT H xs xs.length := by rw [HH.out]; rfl
    rw [h4] at h3
    rw [Hid]; omega
  have hjl := HJL.out
  have hjm : (joinB ⟨#[44]⟩ xs).size ≤ 1000 := by
    have h1 := incT_join number node true xs
    have h2 := HLn.out xs.length (Nat.le_refl _)
    have h3 : (incT number node true xs).size = (hdT number node true).size + (joinB ⟨#[44]⟩ xs).size := by rw [← h1, ByteArray.size_append]
    have h4 : incT number node true xs = nmT H xs xs.length := by rw [HH.out]; rfl
    rw [h4] at h3
    omega
  have hsV := hs.below hk
  clear hV hs he
  have HF : Hid (itB number ++ ⟨#[64]⟩ ++ itB node ++ ⟨#[33]⟩ ++ ⟨#[58]⟩ ++ joinB ⟨#[44]⟩ xs = incT number node true xs) := by rw [Hid, ← incT_join]; rfl
  go_wp2_with fail
  refine (joinS_any xs ⟨#[44]⟩ _ _ _ _ hsV (by omega) hnc HJL.out).mono ?_
  rintro e V2 ⟨rfl, hV2⟩
  have hk2 := bl_trans hk hV2
  clear y2 y3 hsV hV2
  go_wp2
  go_ret
  exact ⟨congrArg (fun b => Ending.returned (.string b)) HF.out, hk2⟩
theorem incidentText_any (number node : Int) (closed : Bool) (xs : List ByteArray) (A : Option Addr) (n c : Nat) (w : World) (hs : Sl w A n xs) (hv : incB number node closed xs = true) (hnc : n ≤ c) (he : Tab w) :
    Calls Tryd.prog 37 #[.agg #[.int .i64 number, .int .i64 node, .bool closed, .slice A n c]] w fun e w' => e = .returned (.string (incT number node closed xs)) ∧ Below w.heap.size w w' := by
  cases closed
  · exact incidentText_f number node xs A n c w hs hv hnc he
  · exact incidentText_t number node xs A n c w hs hv hnc he
set_option maxHeartbeats 1000000 in
theorem implIncidentText_any (number node : Int) (closed : Bool) (xs : List ByteArray) (A : Option Addr) (n c : Nat) (w : World) (hn : (n : Int) ≤ 9223372036854775807) (hs : Sl w A n xs) (hv : ∀ x, x ∈ xs → x.size ≤ maxLen) (hnc : n ≤ c) (he : Tab w) :
    Calls Tryd.prog 15 #[.agg #[.int .i64 number, .int .i64 node, .bool closed, .slice A n c]] w fun e w' => e = .returned (.tuple #[.string (itxF number node closed xs).1, .bool (itxF number node closed xs).2]) ∧ Below w.heap.size w w' := by
  have HV := Lib.hid hv
  clear hv
  go_enter Tryd.func15, Tryd.ntmps15
  go_wp2_with fail
  refine (isIncident_any number node closed xs _ _ _ _ hn (hs.below (bl_alloc (bl_refl _) _)) HV.out).mono ?_
  rintro e V1 ⟨rfl, hb1⟩
  have y0 : V1.cell? ⟨w.heap.size, 0, none⟩ = some (.int .i64 number) := cell_later hb1 (by go_simp)
  have y1 : V1.cell? ⟨w.heap.size, 1, none⟩ = some (.int .i64 node) := cell_later hb1 (by go_simp)
  have y2 : V1.cell? ⟨w.heap.size, 2, none⟩ = some (.bool closed) := cell_later hb1 (by go_simp)
  have y3 : V1.cell? ⟨w.heap.size, 3, none⟩ = some (.slice A n c) := cell_later hb1 (by go_simp)
  have hk1 := bl_trans (a := w) (bl_alloc (bl_refl _) _) hb1
  clear hb1
  cases h0 : incB number node closed xs
  · have Hz := Lib.hid (itxF_no h0)
    clear h0
    go_wp2
    go_ret2
    exact ⟨ret_itb Hz.out rfl, hk1⟩
  have HZ := Lib.hid (itxF_yes h0)
  have H0 := Lib.hid h0
  clear h0
  go_wp2_with fail
  refine (incidentText_any number node closed xs _ _ _ _ (hs.below hk1) H0.out hnc (he.below hk1)).mono ?_
  rintro e V2 ⟨rfl, hb2⟩
  have hk := bl_trans hk1 hb2
  clear y0 y1 y2 y3
  go_wp2
  go_ret2
  exact ⟨ret_itb HZ.out rfl, hk⟩

end Go.Proofs.YtjiokhgmoalnpaaDoor
