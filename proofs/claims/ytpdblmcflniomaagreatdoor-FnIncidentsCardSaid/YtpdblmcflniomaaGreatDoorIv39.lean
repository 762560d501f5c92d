/-
  Several texts in one. No conditions.
-/
import Derived.Test.YtpdblmcflniomaaGreatDoorIv38
import Derived.Test.YtpdblmcflniomaaGreatDoorIv23
import Derived.Test.YtpdblmcflniomaaGreatDoorIv17
import Derived.Test.YtpdblmcflniomaaGreatDoorIv36
import Derived.Test.YtpdblmcflniomaaGreatDoorIv7
import Derived.Test.YtpdblmcflniomaaGreatDoorIv11
namespace Go.Proofs.YtpdblmcflniomaaGreatDoor
open Go.RowKit

set_option maxRecDepth 100000 in
set_option maxHeartbeats 8000000 in
theorem specUnknownNames_any (xs : List Incident) (fs : List Appliance) (A B : Option Addr) (n c m d : Nat) (w : World) (hn : (n : Int) ≤ 9223372036854775807) (hm : (m : Int) ≤ 9223372036854775807) (hc : n ≤ c) (hs : Sl w A n xs) (ht : Sl w B m fs) (hv : ∀ x, x ∈ xs → ∀ y, y ∈ x.Names → y.size ≤ maxLen) (hv2 : ∀ x, x ∈ fs → x.Name.size ≤ maxLen) :
    Calls Tryz.prog 21 #[.slice A n c, .slice B m d] w (RetOwn2 w 9 (unF xs fs)) := by
  have HV := Lib.hid hv
  have HV2 := Lib.hid hv2
  have HL := Lib.hid hs.1
  clear hv hv2
  go_enter Tryz.func21, Tryz.ntmps21
  have hk0 := bl_refl w
  go_wp2_with fail
  refine (ixGood_any xs _ _ _ _ hn hc hs HV.out).mono ?_
  rintro e V1 ⟨rfl, hb1⟩
  have hB1 := bl_trans (a := w) (bl_refl _) hb1
  have hk1 := bl_trans hk0 hB1
  have z1 := Lib.hid hB1.size
  cases h0 : incsB xs
  · have Hz := Lib.hid (unF_no (xs := xs) (fs := fs) (by rw [h0]; first | done | simp))
    clear h0
    go_wp2
    go_ret2
    exact retOwn2_mk Hz.out (Own.nil _ _ _) hk1
  have H0 := Lib.hid h0
  clear h0
  go_wp2_with fail
  refine (apFleet_any fs _ _ _ _ hm (ht.below hk1) HV2.out).mono ?_
  rintro e V2 ⟨rfl, hb2⟩
  have hB2 := bl_trans (a := V1) (bl_refl _) hb2
  have hk2 := bl_trans hk1 hB2
  have z2 := Lib.hid hB2.size
  clear hk1
  cases h1 : fleetB fs
  · have Hz := Lib.hid (unF_no (xs := xs) (fs := fs) (by rw [h1]; first | done | simp))
    clear h1
    go_wp2
    go_ret2
    exact retOwn2_mk Hz.out (Own.nil _ _ _) hk2
  have H1 := Lib.hid h1
  clear h1
  have Hz := Lib.hid (unF_yes H0.out H1.out)
  have HVI := Lib.hid (incs_iff.1 H0.out)
  have HS := Lib.hid hs
  have HT := Lib.hid ht
  clear hs ht
  go_wp2
  go_loopw [6, 21] (fun v iv wr => ∃ (k q c' : Nat) (A' : Option Addr), k ≤ n ∧ iv = .int .i64 k ∧ v = .slice A' q c' ∧ q ≤ 200 ∧ Own wr w.heap.size 9 (.slice A' q c') (adL [] (unU xs fs (k) (0))) ∧ Below w.heap.size w wr) (fun _ iv _ => n - (intOf iv).toNat)
  case atStart => exact ⟨0, 0, 0, none, Nat.zero_le _, rfl, rfl, Nat.zero_le _, by rw [unU_start]; exact Own.nil _ _ _, hk2⟩
  case round =>
    obtain ⟨k, q0, c0', A0', hk, rfl, rfl, hq0, ho0, hb0⟩ := hrel
    by_cases hlt : k < n
    · obtain ⟨b, o, A2, c2, rfl, hbz, c0, c1, c2', c3, hi, hil⟩ := HS.out.incident hlt
      have c0 := cell_later hb0 c0
      have c1 := cell_later hb0 c1
      have c2' := cell_later hb0 c2'
      have c3 := cell_later hb0 c3
      have hbz := World.block_lt_of_cell? _ _ c0
      have hkx : k < xs.length := by rw [HL.out]; exact hlt
      have hnl : (nth xs k).Names.length ≤ 12 := vi_names HVI.out _ (nth_mem hkx)
      have Hi := Lib.hid hi
      have HHB := Lib.hid hb0
      have HHO := Lib.hid ho0
      obtain ⟨wo, hwo⟩ : ∃ W, W = wr := ⟨_, rfl⟩
      subst hwo
      clear hi hil hb0 ho0
      go_wp2
      go_loopw [6, 28] (fun v iv wr => ∃ (j q c' : Nat) (A' : Option Addr), j ≤ (nth xs k).Names.length ∧ iv = .int .i64 j ∧ v = .slice A' q c' ∧ q ≤ 200 ∧ Own wr w.heap.size 9 (.slice A' q c') (adL [] (unU xs fs (k) (j))) ∧ Below w.heap.size w wr) (fun _ iv _ => (nth xs k).Names.length - (intOf iv).toNat)
      case atStart => exact ⟨0, q0, c0', A0', Nat.zero_le _, rfl, rfl, hq0, HHO.out.alloc _, bl_alloc HHB.out _⟩
      case round =>
        obtain ⟨j, q, c', A', hj, rfl, rfl, hq, ho, hbj⟩ := hrel
        clear c0 c1 c2' c3
        by_cases hj2 : j < (nth xs k).Names.length
        · obtain ⟨b3, o3, rfl, hz3, n0⟩ := (Hi.out.below hbj).str hj2
          obtain ⟨s, hs0⟩ : ∃ s, s = nth (nth xs k).Names j := ⟨_, rfl⟩
          rw [← hs0] at n0
          have HS0 := Lib.hid hs0
          have hs0' := Lib.hid hs0.symm
          clear hs0
          have hbwj := hbj
          go_wp2_with fail
          refine (apFind_any fs s _ _ _ _ hm (HT.out.below hbwj)).mono ?_
          rintro e V ⟨rfl, hV⟩
          have hoV := ho.below hV
          have HBW := Lib.hid (bl_trans hbwj hV)
          have e3 := cell_later hV n0
          have hcq := hoV.cap
          obtain ⟨t, ht0⟩ : ∃ t, t = apF fs s := ⟨_, rfl⟩
          rw [← ht0]
          clear ho n0 hV hbwj
          by_cases hap0 : t < 0
          · have hap : apF fs s < 0 := by rw [← ht0]; exact hap0
            have hd : decide (t < 0) = true := by simpa using hap0
            clear ht0
            have hfr : s ∉ adL [] (unU xs fs k j) := fun hm => unU_fresh (fs := fs) HVI.out hkx hj2 (by have h := ((adL_len (unU_nodup HVI.out hkx)).2 _).1 hm; rw [HS0.out] at h; exact h)
            have HR : Hid (Calls Tryz.prog 56 #[.slice A' q c', .string s] V (RetOwn V 9 (adL [] (unU xs fs k (j + 1))))) := by
              have h := rfPutQ (adL [] (unU xs fs k j)) s A' q c' V (by omega) hcq.1 (by have := hcq.2; unfold maxLen at this; omega) hoV.sl hfr
              rw [← adL_snoc] at h
              rw [unU_yes hj2 (by rw [← HS0.out]; exact hap), ← HS0.out]
              exact h
            have hlen2 : (adL [] (unU xs fs k (j + 1))).length ≤ 200 := by rw [(adL_len (unU_nodup HVI.out hkx)).1]; exact unU_len HVI.out hkx
            obtain ⟨M, hM⟩ : ∃ M, M = adL [] (unU xs fs k (j + 1)) := ⟨_, rfl⟩
            rw [← hM] at HR hlen2
            have HM := Lib.hid hM
            have hbw := HBW.out.size
            clear hfr hoV hM hcq
            go_wp2_with fail
            refine HR.out.mono ?_
            rintro e V2 ⟨A3, c3, rfl, ho3, hb3⟩
            have hoM := Lib.hid (ho3.mono (base' := w.heap.size) hbw)
            have hbJM := bl_trans HBW.out hb3
            have e4 := cell_later hb3 e3
            clear ho3 hb3 e3
            go_wp2
            go_roundw
            case rel => exact ⟨j + 1, M.length, c3, A3, by omega, by go_num, rfl, hlen2, by rw [← HM.out]; exact hoM.out, hbJM⟩
            case measure => simp [intOf]; omega
          · have hno := Lib.hid (unU_no (fs := fs) hj2 (by rw [← HS0.out, ← ht0]; exact hap0))
            have hd : decide (t < 0) = false := by simpa using hap0
            clear ht0
            go_wp2
            go_roundw
            case rel => exact ⟨j + 1, q, c', A', by omega, by go_num, rfl, hq, by rw [hno.out]; exact hoV, HBW.out⟩
            case measure => simp [intOf]; omega
        · obtain rfl : j = (nth xs k).Names.length := by omega
          have hnx := Lib.hid (unU_next (fs := fs) hkx)
          have hbw := hbj
          go_wp2
          go_roundw
          case rel => exact ⟨k + 1, q, c', A', by omega, by go_num, rfl, hq, by rw [← hnx.out]; exact ho, hbw⟩
          case measure => simp [intOf]; omega
    · obtain rfl : k = n := by omega
      have hfin := Lib.hid (unU_end (fs := fs) (k := k) (by rw [HL.out]; exact Nat.le_refl _))
      rw [hfin.out] at ho0
      go_wp2
      go_ret2
      exact retOwn2_mk Hz.out ho0 hb0

end Go.Proofs.YtpdblmcflniomaaGreatDoor

namespace Go.Proofs.YtpdblmcflniomaaGreatDoor
open Go.RowKit

set_option maxRecDepth 100000 in
set_option maxHeartbeats 4000000 in
theorem incidentText_f (number node : Int) (xs : List ByteArray) (A : Option Addr) (n c : Nat) (w : World) (hs : Sl w A n xs) (hv : incB number node false xs = true) (hnc : n ≤ c) (he : Tab w) :
    Calls Tryz.prog 60 #[.agg #[.int .i64 number, .int .i64 node, .bool false, .slice A n c]] w fun e w' => e = .returned (.string (incT number node false xs)) ∧ Below w.heap.size w w' := by
  have HL := Lib.hid hs.1
  obtain ⟨⟨hn0, hn1⟩, ⟨hm0, hm1⟩, hl12, hnm⟩ := inc_bd hv
  have HN := Lib.hid hnm
  have hs1 := it_len (n := number) (by omega) 2 (by omega)
  have hs2 := it_len (n := node) (by omega) 1 (by omega)
  have hh := hdT_len false ⟨hn0, hn1⟩ ⟨hm0, hm1⟩
  have HLn := Lib.hid (nmT_len hh hnm)
  have hn12 : n ≤ 12 := by have := HL.out; omega
  obtain ⟨H, hH⟩ : ∃ H, H = hdT number node false := ⟨_, rfl⟩
  have HH := Lib.hid hH
  rw [← hH] at hh HLn
  clear hv hnm hH
  go_enter Tryz.func60, Tryz.ntmps60
  go_wp2_with fail
  refine (join2_any ⟨#[64]⟩ number node _ (by go_simp) (by go_simp) ⟨by omega, by omega⟩ ⟨by omega, by omega⟩ (by decide) (he.below (bl_alloc (bl_alloc (bl_refl _) _) _))).mono ?_
  rintro e V ⟨rfl, hV⟩
  have y2 : V.cell? ⟨w.heap.size, 2, none⟩ = some (.bool false) := cell_later hV (by go_simp)
  have y3 : V.cell? ⟨w.heap.size, 3, none⟩ = some (.slice A n c) := cell_later hV (by go_simp)
  have hk := bl_trans (a := w) (bl_alloc (bl_alloc (bl_refl _) _) _) hV
  have HJL : Hid ((joinB ⟨#[44]⟩ xs).size ≤ 140737488355328) := by
    have h1 := incT_join number node false xs
    have h2 := HLn.out xs.length (Nat.le_refl _)
    have h3 : (incT number node false xs).size = (hdT number node false).size + (joinB ⟨#[44]⟩ xs).size := by rw [← h1, ByteArray.size_append]
    have h4 : incT number node false xs = nmT H xs xs.length := by rw [HH.out]; rfl
    rw [h4] at h3
    rw [Hid]; omega
  have hjl := HJL.out
  have hjm : (joinB ⟨#[44]⟩ xs).size ≤ 1000 := by
    have h1 := incT_join number node false xs
    have h2 := HLn.out xs.length (Nat.le_refl _)
    have h3 : (incT number node false xs).size = (hdT number node false).size + (joinB ⟨#[44]⟩ xs).size := by rw [← h1, ByteArray.size_append]
    have h4 : incT number node false xs = nmT H xs xs.length := by rw [HH.out]; rfl
    rw [h4] at h3
    omega
  have hsV := hs.below hk
  clear hV hs he
  have HF : Hid (itB number ++ ⟨#[64]⟩ ++ itB node ++ ⟨#[58]⟩ ++ joinB ⟨#[44]⟩ xs = incT number node false xs) := by rw [Hid, ← incT_join]; rfl
  go_wp2_with fail
  refine (joinS_any xs ⟨#[44]⟩ _ _ _ _ hsV (by omega) hnc HJL.out).mono ?_
  rintro e V2 ⟨rfl, hV2⟩
  have hk2 := bl_trans hk hV2
  clear y2 y3 hsV hV2
  go_wp2
  go_ret
  exact ⟨congrArg (fun b => Ending.returned (.string b)) HF.out, hk2⟩
set_option maxRecDepth 100000 in
set_option maxHeartbeats 4000000 in
theorem incidentText_t (number node : Int) (xs : List ByteArray) (A : Option Addr) (n c : Nat) (w : World) (hs : Sl w A n xs) (hv : incB number node true xs = true) (hnc : n ≤ c) (he : Tab w) :
    Calls Tryz.prog 60 #[.agg #[.int .i64 number, .int .i64 node, .bool true, .slice A n c]] w fun e w' => e = .returned (.string (incT number node true xs)) ∧ Below w.heap.size w w' := by
  have HL := Lib.hid hs.1
  obtain ⟨⟨hn0, hn1⟩, ⟨hm0, hm1⟩, hl12, hnm⟩ := inc_bd hv
  have HN := Lib.hid hnm
  have hs1 := it_len (n := number) (by omega) 2 (by omega)
  have hs2 := it_len (n := node) (by omega) 1 (by omega)
  have hh := hdT_len true ⟨hn0, hn1⟩ ⟨hm0, hm1⟩
  have HLn := Lib.hid (nmT_len hh hnm)
  have hn12 : n ≤ 12 := by have := HL.out; omega
  obtain ⟨H, hH⟩ : ∃ H, H = hdT number node true := ⟨_, rfl⟩
  have HH := Lib.hid hH
  rw [← hH] at hh HLn
  clear hv hnm hH
  go_enter Tryz.func60, Tryz.ntmps60
  go_wp2_with fail
  refine (join2_any ⟨#[64]⟩ number node _ (by go_simp) (by go_simp) ⟨by omega, by omega⟩ ⟨by omega, by omega⟩ (by decide) (he.below (bl_alloc (bl_alloc (bl_refl _) _) _))).mono ?_
  rintro e V ⟨rfl, hV⟩
  have y2 : V.cell? ⟨w.heap.size, 2, none⟩ = some (.bool true) := cell_later hV (by go_simp)
  have y3 : V.cell? ⟨w.heap.size, 3, none⟩ = some (.slice A n c) := cell_later hV (by go_simp)
  have hk := bl_trans (a := w) (bl_alloc (bl_alloc (bl_refl _) _) _) hV
  have HJL : Hid ((joinB ⟨#[44]⟩ xs).size ≤ 140737488355328) := by
    have h1 := incT_join number node true xs
    have h2 := HLn.out xs.length (Nat.le_refl _)
    have h3 : (incT number node true xs).size = (hdT number node true).size + (joinB ⟨#[44]⟩ xs).size := by rw [← h1, ByteArray.size_append]
    have h4 : incT number node true xs = nmT H xs xs.length := by rw [HH.out]; rfl
    rw [h4] at h3
    rw [Hid]; omega
  have hjl := HJL.out
  have hjm : (joinB ⟨#[44]⟩ xs).size ≤ 1000 := by
    have h1 := incT_join number node true xs
    have h2 := HLn.out xs.length (Nat.le_refl _)
    have h3 : (incT number node true xs).size = (hdT number node true).size + (joinB ⟨#[44]⟩ xs).size := by rw [← h1, ByteArray.size_append]
    have h4 : incT number node true xs = nmT H xs xs.length := by rw [HH.out]; rfl
    rw [h4] at h3
    omega
  have hsV := hs.below hk
  clear hV hs he
  have HF : Hid (itB number ++ ⟨#[64]⟩ ++ itB node ++ ⟨#[33]⟩ ++ ⟨#[58]⟩ ++ joinB ⟨#[44]⟩ xs = incT number node true xs) := by rw [Hid, ← incT_join]; rfl
  go_wp2_with fail
  refine (joinS_any xs ⟨#[44]⟩ _ _ _ _ hsV (by omega) hnc HJL.out).mono ?_
  rintro e V2 ⟨rfl, hV2⟩
  have hk2 := bl_trans hk hV2
  clear y2 y3 hsV hV2
  go_wp2
  go_ret
  exact ⟨congrArg (fun b => Ending.returned (.string b)) HF.out, hk2⟩
theorem incidentText_any (number node : Int) (closed : Bool) (xs : List ByteArray) (A : Option Addr) (n c : Nat) (w : World) (hs : Sl w A n xs) (hv : incB number node closed xs = true) (hnc : n ≤ c) (he : Tab w) :
    Calls Tryz.prog 60 #[.agg #[.int .i64 number, .int .i64 node, .bool closed, .slice A n c]] w fun e w' => e = .returned (.string (incT number node closed xs)) ∧ Below w.heap.size w w' := by
  cases closed
  · exact incidentText_f number node xs A n c w hs hv hnc he
  · exact incidentText_t number node xs A n c w hs hv hnc he
set_option maxHeartbeats 1000000 in
theorem implIncidentText_any (number node : Int) (closed : Bool) (xs : List ByteArray) (A : Option Addr) (n c : Nat) (w : World) (hn : (n : Int) ≤ 9223372036854775807) (hs : Sl w A n xs) (hv : ∀ x, x ∈ xs → x.size ≤ maxLen) (hnc : n ≤ c) (he : Tab w) :
    Calls Tryz.prog 26 #[.agg #[.int .i64 number, .int .i64 node, .bool closed, .slice A n c]] w fun e w' => e = .returned (.tuple #[.string (itxF number node closed xs).1, .bool (itxF number node closed xs).2]) ∧ Below w.heap.size w w' := by
  have HV := Lib.hid hv
  clear hv
  go_enter Tryz.func26, Tryz.ntmps26
  go_wp2_with fail
  refine (isIncident_any number node closed xs _ _ _ _ hn (hs.below (bl_alloc (bl_refl _) _)) HV.out).mono ?_
  rintro e V1 ⟨rfl, hb1⟩
  have y0 : V1.cell? ⟨w.heap.size, 0, none⟩ = some (.int .i64 number) := cell_later hb1 (by go_simp)
  have y1 : V1.cell? ⟨w.heap.size, 1, none⟩ = some (.int .i64 node) := cell_later hb1 (by go_simp)
  have y2 : V1.cell? ⟨w.heap.size, 2, none⟩ = some (.bool closed) := cell_later hb1 (by go_simp)
  have y3 : V1.cell? ⟨w.heap.size, 3, none⟩ = some (.slice A n c) := cell_later hb1 (by go_simp)
  have hk1 := bl_trans (a := w) (bl_alloc (bl_refl _) _) hb1
  clear hb1
  cases h0 : incB number node closed xs
  · have Hz := Lib.hid (itxF_no h0)
    clear h0
    go_wp2
    go_ret2
    exact ⟨ret_itb Hz.out rfl, hk1⟩
  have HZ := Lib.hid (itxF_yes h0)
  have H0 := Lib.hid h0
  clear h0
  go_wp2_with fail
  refine (incidentText_any number node closed xs _ _ _ _ (hs.below hk1) H0.out hnc (he.below hk1)).mono ?_
  rintro e V2 ⟨rfl, hb2⟩
  have hk := bl_trans hk1 hb2
  clear y0 y1 y2 y3
  go_wp2
  go_ret2
  exact ⟨ret_itb HZ.out rfl, hk⟩

end Go.Proofs.YtpdblmcflniomaaGreatDoor

namespace Go.Proofs.YtpdblmcflniomaaGreatDoor
open Go.RowKit

theorem cutL_piece (c : UInt8) : ∀ (l : List UInt8) (p : List UInt8), p ∈ cutL c l → p.length ≤ l.length
  | [], p, h => by
    simp only [cutL, List.mem_singleton] at h
    subst h; exact Nat.le_refl _
  | b :: l, p, h => by
    have ih := cutL_piece c l
    unfold cutL at h
    split at h
    · rcases List.mem_cons.1 h with rfl | h
      · exact Nat.zero_le _
      · have := ih p h; rw [List.length_cons]; omega
    · split at h
      · rename_i h2; exact absurd h2 (cutL_ne c l)
      · rename_i q qs h2
        rcases List.mem_cons.1 h with rfl | h
        · have := ih q (by rw [h2]; exact List.mem_cons_self)
          rw [List.length_cons, List.length_cons]; omega
        · have := ih p (by rw [h2]; exact List.mem_cons_of_mem _ h)
          rw [List.length_cons]; omega
theorem cut_piece {c : UInt8} {s x : ByteArray} (h : x ∈ cutB c s) : x.size ≤ s.size := by
  unfold cutB at h
  rw [List.mem_map] at h
  obtain ⟨l, hl, rfl⟩ := h
  have := cutL_piece c _ l hl
  rw [ba_len] at this
  show l.toArray.size ≤ _
  rw [List.size_toArray]; exact this
def RnPost (P : List ByteArray) (w : World) (e : Ending) (w' : World) : Prop :=
  ∃ A n c' L ok, e = .returned (.tuple #[.slice A n c', .bool ok]) ∧ n ≤ 1048577 ∧ Sl w' A n L ∧ (∀ k, k < n → -9223372036854775808 ≤ nth L k ∧ nth L k ≤ 9223372036854775807) ∧ Below w.heap.size w w' ∧ Hid (∀ ns : List Nat, (∀ u ∈ ns, u < 1000000) → P = ns.map (fun u : Nat => itB (u : Int)) → ok = true ∧ L = ns.map (fun u : Nat => (u : Int)))
set_option maxRecDepth 100000 in
set_option maxHeartbeats 4000000 in
theorem readNumbers_any (s : ByteArray) (c : UInt8) (w : World) (hs : s.size ≤ 1048576) (he : Env w) :
    Calls Tryz.prog 68 #[.string s, .string ⟨#[c]⟩] w (RnPost (cutB c s) w) := by
  have hbig : ∀ x, x ∈ cutB c s → x.size ≤ 1048576 := fun x hx => by
    have := cut_piece hx
    omega
  have HBG := Lib.hid hbig
  have hcn : (cutB c s).length ≤ 1048577 := by
    have hl : Lib.countB s ⟨#[c]⟩ + 1 = (cutB c s).length := by rw [← splitB_cut c s.size s (Nat.le_refl _), Lib.splitB_all ⟨#[c]⟩ (Nat.le_refl 1) 0 _ s rfl]
    have := Lib.countB_le ⟨#[c]⟩ (Nat.le_refl 1) s.size s (Nat.le_refl _)
    omega
  have HSP : Hid (Calls Tryz.prog 69 #[.string s, .string ⟨#[c]⟩] w (RetOwn w 9 (cutB c s))) := splitO_any s c w hs he
  obtain ⟨P, hP⟩ : ∃ P, P = cutB c s := ⟨_, rfl⟩
  rw [← hP] at HBG HSP hcn ⊢
  have HE := Lib.hid he
  clear hP hbig he
  go_enter Tryz.func68, Tryz.ntmps68
  go_wp2_with fail
  refine HSP.out.mono ?_
  rintro e V ⟨A, cc, rfl, ho, hV⟩
  have HS := Lib.hid ho.sl
  have HV1 := Lib.hid hV
  clear ho hV
  go_wp2
  go_loopw [6, 15] (fun v iv wr => ∃ (i c' : Nat) (A' : Option Addr) (L : List Int), i ≤ P.length ∧ iv = .int .i64 i ∧ v = .slice A' i c' ∧ Own wr V.heap.size 3 (.slice A' i c') L ∧ (∀ k, k < i → -9223372036854775808 ≤ nth L k ∧ nth L k ≤ 9223372036854775807) ∧ Hid (∀ ns : List Nat, (∀ u ∈ ns, u < 1000000) → P = ns.map (fun u : Nat => itB (u : Int)) → L = (ns.take i).map (fun u : Nat => (u : Int))) ∧ Below V.heap.size V wr) (fun _ iv _ => P.length - (intOf iv).toNat)
  case atStart => exact ⟨0, 0, none, [], Nat.zero_le _, rfl, rfl, Own.nil _ _ _, fun k hk => absurd hk (by omega), fun ns _ _ => rfl, bl_refl _⟩
  case round =>
    obtain ⟨i, c', A', L, hi, rfl, rfl, ho, hbd, hL, hbV⟩ := hrel
    have hb := bl_trans HV1.out hbV
    by_cases hlt : i < P.length
    · obtain ⟨b, o, rfl, hbz, c0⟩ := (HS.out.below hbV).str hlt
      have hsz := HBG.out _ (nth_mem hlt)
      have HBD := Lib.hid hbd
      clear hbd
      go_wp2_with fail
      refine (readNumber_any (nth P i) _ hsz (HE.out.below hb)).mono ?_
      rintro e V2 ⟨v, ok, rfl, ⟨v0, v1⟩, hq, hb2⟩
      have hoV := ho.below hb2
      have hbw := bl_trans hb hb2
      have hbw2 := bl_trans hbV hb2
      clear c0 ho hb2
      cases ok
      · have HF : Hid (∀ ns : List Nat, (∀ u ∈ ns, u < 1000000) → P = ns.map (fun u : Nat => itB (u : Int)) → false = true ∧ ([] : List Int) = ns.map (fun u : Nat => (u : Int))) := fun ns h1 h2 => by
          have hin : i < ns.length := by have := congrArg List.length h2; rw [List.length_map] at this; omega
          have e1 : nth P i = itB ((nth ns i : Nat) : Int) := nth_get (by rw [h2, List.getElem?_map, get_nth hin]; rfl)
          have := (hq.out.1 (nth ns i) (h1 _ (nth_mem hin)) e1).2
          cases this
        go_wp2
        go_ret2
        exact ⟨none, 0, 0, [], false, rfl, by omega, ⟨rfl, fun k x hx => by simp at hx⟩, fun k hk => absurd hk (by omega), hbw, HF.out⟩
      · go_wp2_with ((at_builtin; refine wpList_app1g rfl (.tmp 26) (.tmp 28) _ _ rfl el_int v rfl hoV hbw2 rfl (by simp) (by omega) ?_; intro A3 c3 w2 ho3 hb3 hg3))
        go_roundw
        case rel =>
          have hll : L.length = i := hoV.sl.1
          refine ⟨i + 1, c3, A3, L ++ [v], by omega, by go_num, rfl, ho3, fun k hk => ?_, fun ns h1 h2 => ?_, hb3⟩
          · by_cases e : k < i
            · have e2 : nth (L ++ [v]) k = nth L k := nth_get (by rw [List.getElem?_append_left (by omega)]; exact get_nth (by omega))
              rw [e2]; exact HBD.out k e
            · have e3 : k = L.length := by omega
              subst e3
              have e2 : nth (L ++ [v]) L.length = v := nth_get (by rw [List.getElem?_append_right (Nat.le_refl _)]; simp)
              rw [e2]; exact ⟨v0, v1⟩
          · have hin : i < ns.length := by have := congrArg List.length h2; rw [List.length_map] at this; omega
            have e1 : nth P i = itB ((nth ns i : Nat) : Int) := nth_get (by rw [h2, List.getElem?_map, get_nth hin]; rfl)
            have e2 := (hq.out.1 (nth ns i) (h1 _ (nth_mem hin)) e1).1
            rw [take_succ hin, List.map_append, hL.out ns h1 h2, e2]
            rfl
        case measure => simp [intOf]; omega
    · obtain rfl : i = P.length := by omega
      have HBD := Lib.hid hbd
      clear hbd
      go_wp2
      go_ret2
      exact ⟨A', P.length, c', L, true, rfl, hcn, ho.sl, HBD.out, hb, fun ns h1 h2 => ⟨rfl, by rw [hL.out ns h1 h2, List.take_of_length_le (by have := congrArg List.length h2; rw [List.length_map] at this; omega)]⟩⟩

end Go.Proofs.YtpdblmcflniomaaGreatDoor
