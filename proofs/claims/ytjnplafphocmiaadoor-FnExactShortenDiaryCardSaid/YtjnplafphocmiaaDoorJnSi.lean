/-
  ShortenDiary: the reference's text. No conditions.
-/
import Derived.Test.YtjnplafphocmiaaDoorJnSh
import Derived.Test.YtjnplafphocmiaaDoorJnIs
namespace Go.Proofs.YtjnplafphocmiaaDoor
open Go.RowKit

set_option maxRecDepth 100000 in
set_option maxHeartbeats 8000000 in
theorem specShortenDiary_any (d : Diary) (w : World) (hz : d.Safe.size + d.Open.size ≤ 1048576) :
    Calls Tryd.prog 41 #[.agg #[.string d.Safe, .string d.Open]] w fun e w' => e = .returned (.tuple #[.agg #[.string (shF d).1.Safe, .string (shF d).1.Open], .bool (shF d).2]) ∧ Below w.heap.size w w' := by
  go_enter Tryd.func41, Tryd.ntmps41
  go_wp2_with fail
  refine (jnOpen_any d _ (by omega) (by omega)).mono ?_
  rintro e V1 ⟨rfl, hb1⟩
  have hk1 := bl_trans (a := w) (by repeat' (first | exact bl_refl _ | refine bl_alloc ?_ _ | refine bl_drew ?_ | refine bl_drewN ?_ _ | refine bl_set ?_ (by simp) _)) hb1
  have b0 : V1.cell? ⟨w.heap.size, 0, none⟩ = some (.string d.Safe) := cell_later hb1 (by go_simp)
  have b1 : V1.cell? ⟨w.heap.size, 1, none⟩ = some (.string d.Open) := cell_later hb1 (by go_simp)
  have r0 : V1.cell? ⟨w.heap.size + 1, 0, none⟩ = some (.string ⟨#[]⟩) := cell_later hb1 (by go_simp)
  have fr0 : V1.frozen? ⟨w.heap.size + 1, 0, none⟩ = false := frozen_later hb1 (by simp) (by go_simp)
  have r1 : V1.cell? ⟨w.heap.size + 1, 1, none⟩ = some (.string ⟨#[]⟩) := cell_later hb1 (by go_simp)
  have fr1 : V1.frozen? ⟨w.heap.size + 1, 1, none⟩ = false := frozen_later hb1 (by simp) (by go_simp)
  have la := World.block_lt_of_cell? _ _ b0
  have lr : w.heap.size + 1 < _ := World.block_lt_of_cell? _ _ r0
  clear hb1
  cases h : openB d.Safe d.Open
  · have q := Lib.hid (shF_no h)
    clear h
    go_wp2
    refine bodyPost_ret (v := .tuple #[.agg #[.string ByteArray.empty, .string ByteArray.empty], .bool false]) (by simp [results, Tryd.results41, go_sem, r0, r1]; try rfl) rfl ?_
    exact ⟨ret_db q.out, (by repeat' (first | exact hk1 | refine bl_alloc ?_ _ | refine bl_drew ?_ | refine bl_drewN ?_ _ | refine bl_set ?_ (by simp only []; omega) _))⟩
  · have q := Lib.hid (shF_yes h)
    have h3 := h
    rw [open_spec] at h3
    simp only [Bool.and_eq_true, decide_eq_true_eq] at h3
    obtain ⟨⟨⟨s1, s2⟩, _⟩, _⟩ := h3
    clear h
    go_wp2_with fail
    refine (jnStates_any d _ s1 s2).mono ?_
    rintro e V2 ⟨A2, c2, rfl, ho2, hb⟩
    have m0 : V2.cell? ⟨V1.heap.size, 0, none⟩ = some (.string ⟨#[]⟩) := cell_later hb (by go_simp)
    have m1 : V2.cell? ⟨V1.heap.size, 1, none⟩ = some (.string ⟨#[]⟩) := cell_later hb (by go_simp)
    have fm0 : V2.frozen? ⟨V1.heap.size, 0, none⟩ = false := frozen_later hb (by simp) (by go_simp)
    have fm1 : V2.frozen? ⟨V1.heap.size, 1, none⟩ = false := frozen_later hb (by simp) (by go_simp)
    have hB := bl_trans (a := V1) (by repeat' (first | exact bl_refl _ | refine bl_alloc ?_ _ | refine bl_drew ?_ | refine bl_drewN ?_ _ | refine bl_set ?_ (by simp) _)) hb
    have hk2 := bl_trans hk1 hB
    have r0 := cell_later hB r0
    have r1 := cell_later hB r1
    have fr0 := frozen_later hB lr fr0
    have fr1 := frozen_later hB lr fr1
    have lr : w.heap.size + 1 < _ := World.block_lt_of_cell? _ _ r0
    have lm : V1.heap.size < _ := World.block_lt_of_cell? _ _ m0
    have lV := hB.size
    clear hb hB b0 b1
    go_wp2_with fail
    refine (jnKnown_any _ _ _ _ _ (Nat.le_trans (states_len _ _) (by omega)) ho2.sl).mono ?_
    rintro e V3 ⟨A8, c8, rfl, ho8, hb⟩
    have hB := hb
    have m0 := cell_later hB m0
    have m1 := cell_later hB m1
    have fm0 := frozen_later hB lm fm0
    have fm1 := frozen_later hB lm fm1
    have r0 := cell_later hB r0
    have r1 := cell_later hB r1
    have fr0 := frozen_later hB lr fr0
    have fr1 := frozen_later hB lr fr1
    have hk3 := bl_trans hk2 hB
    clear hb hB ho2
    have hl8 := known_len (statesB d.Safe d.Open)
    have hl40 := states_len d.Safe d.Open
    have hokk : ∀ i : Nat, i < (knownL (statesB d.Safe d.Open)).length → okL (i : Int) (nth (knownL (statesB d.Safe d.Open)) i) = true := fun i hi => known_ok hi
    have hcat := cat_len hokk
    have h10 := hk1.size
    have hap : ∀ k, k ∈ (Value.ownBlock (.slice A8 (knownL (statesB d.Safe d.Open)).length c8)).toList → k ∉ [V1.heap.size] := fun k hk e => by have := (ho8.lies k hk).1; rw [List.mem_singleton] at e; skip; omega
    obtain ⟨K, hK⟩ : ∃ K, K = knownL (statesB d.Safe d.Open) := ⟨_, rfl⟩
    rw [← hK] at ho8 hl8 hokk hcat hap q ⊢
    obtain ⟨N, hN⟩ : ∃ N, N = K.length := ⟨_, rfl⟩
    rw [← hN] at ho8 hl8 hap hokk hcat ⊢
    have HQ : Hid (shF d = (⟨catN K N, ByteArray.empty⟩, true)) := by rw [Hid, q.out, hN]
    clear hK hN q
    have HOK := Lib.hid hokk
    have HCAT := Lib.hid hcat
    have HAP := Lib.hid hap
    clear hokk hcat hap
    have hr1 : w.heap.size + 1 ∉ [V1.heap.size] := by rw [List.mem_singleton]; omega
    have hne : ¬ (w.heap.size + 1 = V1.heap.size) := by omega
    have hne2 : ¬ (V1.heap.size = w.heap.size + 1) := by omega
    go_wp2
    go_loopw [16] (fun iv wr => ∃ i : Nat, i ≤ N ∧ iv = .int .i64 i ∧ OnlyF [V1.heap.size] V3 wr ∧ Below w.heap.size w wr ∧ wr.cell? ⟨V1.heap.size, 0, none⟩ = some (.string (catN K i)) ∧ wr.cell? ⟨V1.heap.size, 1, none⟩ = some (.string ⟨#[]⟩) ∧ wr.frozen? ⟨V1.heap.size, 0, none⟩ = false ∧ wr.frozen? ⟨V1.heap.size, 1, none⟩ = false ∧ wr.cell? ⟨w.heap.size + 1, 0, none⟩ = some (.string ⟨#[]⟩) ∧ wr.cell? ⟨w.heap.size + 1, 1, none⟩ = some (.string ⟨#[]⟩) ∧ wr.frozen? ⟨w.heap.size + 1, 0, none⟩ = false ∧ wr.frozen? ⟨w.heap.size + 1, 1, none⟩ = false) (fun iv _ => N - (intOf iv).toNat)
    case atStart => exact ⟨0, Nat.zero_le _, rfl, OnlyF.refl _ _, hk3, m0, m1, fm0, fm1, r0, r1, fr0, fr1⟩
    case round =>
      obtain ⟨i, hi, rfl, hof, hb, m0, m1, fm0, fm1, r0, r1, fr0, fr1⟩ := hrel
      by_cases hlt : i < N
      · have hoW := ho8.only hof HAP.out
        obtain ⟨b, o, rfl, hbz, c0, c1⟩ := hoW.sl.state hlt
        have hcs := HCAT.out i (by omega)
        have HOKi := Lib.hid (HOK.out i hlt)
        have hll := line_len HOKi.out
        have hadd : ¬ (9223372036854775807 < (catN K i).size + (lineB (i : Int) (nth K i)).size) := by omega
        have lm : V1.heap.size < _ := World.block_lt_of_cell? _ _ m0
        have lr : w.heap.size + 1 < _ := World.block_lt_of_cell? _ _ r0
        have hwm : ¬ (wr.heap.size = V1.heap.size) := by omega
        have hwr : ¬ (wr.heap.size = w.heap.size + 1) := by omega
        clear hoW ho8
        go_upto_region 7 with fail
        go_region_with (first | (go_at_call 47; refine (jnLine_any (i : Int) (nth K i) _ HOKi.out).mono ?_; rintro e V ⟨rfl, hbc⟩; have hE := bl_trans (a := wr) (by repeat' (first | exact bl_refl _ | refine bl_alloc ?_ _ | refine bl_drew ?_)) hbc; have m0 := cell_later hE m0; have m1 := cell_later hE m1; have r0 := cell_later hE r0; have r1 := cell_later hE r1; have fm0 := frozen_later hE lm fm0; have fm1 := frozen_later hE lm fm1; have fr0 := frozen_later hE lr fr0; have fr1 := frozen_later hE lr fr1))
        all_goals
          go_wp2
          go_roundw
          case rel => exact ⟨i + 1, by omega, by go_num, by repeat' (first | exact hof.trans (OnlyF.below hE) | refine OnlyF.set ?_ (List.mem_singleton.2 rfl) _ | refine OnlyF.drew ?_), by repeat' (first | exact bl_trans hb hE | refine bl_set ?_ (by simp only []; omega) _ | refine bl_drew ?_), by go_simp; try rfl, by go_simp, by go_simp, by go_simp, by go_simp, by go_simp, by go_simp, by go_simp⟩
          case measure => simp [intOf]; omega
      · obtain hiN : i = N := by omega
        subst hiN
        go_wp2
        refine bodyPost_ret (v := .tuple #[.agg #[.string (catN K i), .string ByteArray.empty], .bool true]) (by simp [results, Tryd.results41, go_sem, r0, r1]; try rfl) rfl ?_
        exact ⟨ret_db HQ.out, (by repeat' (first | exact hb | refine bl_alloc ?_ _ | refine bl_drew ?_ | refine bl_drewN ?_ _ | refine bl_set ?_ (by simp only []; omega) _))⟩

end Go.Proofs.YtjnplafphocmiaaDoor
