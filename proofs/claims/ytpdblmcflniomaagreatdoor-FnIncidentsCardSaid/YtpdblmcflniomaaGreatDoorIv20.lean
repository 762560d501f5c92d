/-
  Several texts in one. No conditions.
-/
import Derived.Test.YtpdblmcflniomaaGreatDoorIv19
import Derived.Test.YtpdblmcflniomaaGreatDoorIv15
import Derived.Test.YtpdblmcflniomaaGreatDoorIv7
namespace Go.Proofs.YtpdblmcflniomaaGreatDoor
open Go.RowKit

theorem wp_hideI {P : Program} {c : Code} {Q : Exit → Act → World → Prop} {a : Act} {w : World} {R : World → Prop} (hR : R w) (h : ∀ V, R V → c.wp P Q a V) : c.wp P Q a w := h w hR
set_option maxHeartbeats 1000000 in
theorem clone_str (xs : List ByteArray) (A : Option Addr) (n c : Nat) (w : World) (hn : n ≤ 1048576) (hs : Sl w A n xs) :
    Calls Tryz.prog 79 #[.slice A n c] w (RetOwn w 9 xs) := by
  have HL := Lib.hid hs.1
  cases A with
  | none =>
    obtain ⟨rfl, rfl⟩ := hs.none_len
    have he := fun W => Lib.run_eql_slice_nil (P := Tryz.prog) W 30 9 none 0 c 0 0 Tryz.underlying30
    go_enter Tryz.func79, Tryz.ntmps79
    go_wp2
    go_ret
    exact retOwn_mk rfl (Own.nil _ _ _) (bl_refl _)
  | some ad =>
    have he := fun W => Lib.run_eql_slice_nil (P := Tryz.prog) W 30 9 (some ad) n c 0 0 Tryz.underlying30
    go_enter Tryz.func79, Tryz.ntmps79
    go_wp2_with ((at_builtin; refine wpList_appN rfl (.tmp 5) (.tmp 6) _ _ rfl el_str rfl (Own.built w _ (Nat.le_refl _)) (bl_alloc (bl_refl _) _) rfl (hs.below (bl_alloc (bl_refl _) _)) (by omega) ?_; intro A2 c2 w2 ho2 hb2 hg2))
    go_ret
    exact retOwn_mk HL.out (by simpa using ho2) hb2
set_option maxRecDepth 100000 in
set_option maxHeartbeats 4000000 in
theorem copyIncidents_any (xs : List Incident) (A : Option Addr) (n c : Nat) (w : World) (hn : n ≤ 1048576) (hs : Sl w A n xs) (hin : ∀ x, x ∈ xs → x.Names.length ≤ 1048576) :
    Calls Tryz.prog 44 #[.slice A n c] w (RetOwnX incidentN w 32 9 xs) := by
  have HL := Lib.hid hs.1
  have HIN := Lib.hid hin
  clear hin
  go_enter Tryz.func44, Tryz.ntmps44
  go_wp2
  go_loopw [3, 8] (fun v iv wr => ∃ (i c' : Nat) (A' : Option Addr) (ps : List (IncidentR × List ByteArray)), i ≤ n ∧ iv = .int .i64 i ∧ v = .slice A' i c' ∧ OwnP incidentN wr w.heap.size 32 9 (.slice A' i c') ps ∧ Hid (incidentN.plain ps = xs.take i) ∧ Below w.heap.size w wr) (fun _ iv _ => n - (intOf iv).toNat)
  case atStart => exact ⟨0, 0, none, [], Nat.zero_le _, rfl, rfl, OwnP.nil _ _ _ (by decide), rfl, bl_refl _⟩
  case round =>
    obtain ⟨i, c', A', ps, hin, rfl, rfl, ho, hpl, hb⟩ := hrel
    by_cases hlt : i < n
    · obtain ⟨b, o, A2, c2, rfl, hbz, c0, c1, c2', c3, hi, hil⟩ := (hs.below hb).incident hlt
      have hkx : Hid (i < xs.length) := by rw [Hid, HL.out]; exact hlt
      have hnl := HIN.out _ (nth_mem hkx.out)
      clear hs hil
      go_wp2_with fail
      refine (clone_str (nth xs i).Names _ _ _ _ (HIN.out _ (nth_mem hkx.out)) (hi.below (bl_alloc (bl_refl _) _))).mono ?_
      rintro e V ⟨A3, c3', rfl, ho1, hV⟩
      have y0 : V.cell? ⟨wr.heap.size, 0, none⟩ = some (.int .i64 (nth xs i).Number) := cell_later hV (by go_simp)
      have y1 : V.cell? ⟨wr.heap.size, 1, none⟩ = some (.int .i64 (nth xs i).Node) := cell_later hV (by go_simp)
      have y2 : V.cell? ⟨wr.heap.size, 2, none⟩ = some (.bool (nth xs i).Closed) := cell_later hV (by go_simp)
      have y3 : V.cell? ⟨wr.heap.size, 3, none⟩ = some (.slice A2 (nth xs i).Names.length c2) := cell_later hV (by go_simp)
      have f3 : V.frozen? ⟨wr.heap.size, 3, none⟩ = false := frozen_later hV (by simp) (by go_simp)
      have hVz : wr.heap.size < V.heap.size := World.block_lt_of_cell? V _ y0
      have hbV : Below wr.heap.size wr V := bl_trans (bl_alloc (bl_refl _) _) hV
      have hoV := ho.below hbV
      have hli := Lib.hid ho.lies
      have Ho := Lib.hid ho
      have hS1 : OnlyF [wr.heap.size] V (V.setCell ⟨wr.heap.size, 3, none⟩ (.slice A3 (nth xs i).Names.length c3')) := OnlyF.set (OnlyF.refl _ _) (List.mem_singleton.2 rfl) _
      have hoS := hoV.only hS1 (fun k hk hm => by have := hli.out k hk; rw [List.mem_singleton.1 hm] at this; omega)
      have HoS := Lib.hid hoS
      have hbS : Below w.heap.size w (V.setCell ⟨wr.heap.size, 3, none⟩ (.slice A3 (nth xs i).Names.length c3')) := bl_set (bl_trans hb hbV) (by have := hb.size; simp only []; omega) _
      have HI1 : Hid (Own (V.setCell ⟨wr.heap.size, 3, none⟩ (.slice A3 (nth xs i).Names.length c3')) (wr.heap.size + 1) 9 (.slice A3 (nth xs i).Names.length c3') (nth xs i).Names) := by
        have h9 : Own V (wr.heap.size + 1) 9 (.slice A3 (nth xs i).Names.length c3') (nth xs i).Names := Own.mono ho1 (by simp)
        exact Own.set h9 (Nat.lt_succ_self _) _
      clear hV hi c0 c1 c2' c3 ho hoV hS1 ho1
      go_wp2_with ((at_builtin; refine wpList_app1g rfl (.tmp 16) (.tmp 18) _ _ rfl el_inc (⟨(nth xs i).Number, (nth xs i).Node, (nth xs i).Closed, A3, (nth xs i).Names.length, c3'⟩ : IncidentR) rfl hoS.out hbS rfl (by simp) (by omega) ?_; intro A4 c4 w2 ho2 hb2 hg2))
      have hgO : OnlyF (Value.ownBlock (.slice A' i c')).toList (V.setCell ⟨wr.heap.size, 3, none⟩ (.slice A3 (nth xs i).Names.length c3')) w2 := (OnlyF.alloc (OnlyF.refl _ _) _).trans (OnlyF.of_gb hg2)
      have HGO := Lib.hid hgO
      clear hgO hg2 y0 y1 y2 y3 f3
      go_roundw
      case rel =>
        refine ⟨i + 1, c4, A4, ps ++ [(⟨(nth xs i).Number, (nth xs i).Node, (nth xs i).Closed, A3, (nth xs i).Names.length, c3'⟩, (nth xs i).Names)], by omega, by go_num, rfl, HoS.out.snoc ho2 ?_ HGO.out ?_, ?_, hb2⟩
        · refine Own.mono (base := wr.heap.size + 1) ?_ (by have := hb.size; omega)
          refine HI1.out.only HGO.out (fun y hy hm => ?_)
          have h1 := (HI1.out.lt y (by simpa using hy)).1
          have h2 := (Ho.out.out.lt y (by simpa using hm)).2
          omega
        · intro x hx j q hq hq'
          have h1 := (HI1.out.lt x hx).1
          have h2 := ((Ho.out.inn j q hq).lt x hq').2
          omega
        · rw [Hid]; unfold Nest.plain at hpl ⊢; rw [List.map_append, hpl.out, take_succ hkx.out]; rfl
      case measure => simp [intOf]; omega
    · obtain rfl : i = n := by omega
      have hfin : Hid (incidentN.plain ps = xs) := by have h := hpl.out; rw [List.take_of_length_le (by rw [HL.out]; exact Nat.le_refl _)] at h; exact h
      clear hs
      go_wp2
      go_ret
      exact retOwnX_mk hfin.out ho hb
set_option maxRecDepth 100000 in
set_option maxHeartbeats 4000000 in
theorem ixOwn_any (xs : List Incident) (A : Option Addr) (n c : Nat) (w : World) (hn : n ≤ 1048576) (hs : Sl w A n xs) (hin : ∀ x, x ∈ xs → x.Names.length ≤ 1048576) :
    Calls Tryz.prog 41 #[.slice A n c] w (RetOwnX incidentN w 32 9 xs) := by
  have HL := Lib.hid hs.1
  have HIN := Lib.hid hin
  clear hin
  go_enter Tryz.func41, Tryz.ntmps41
  go_wp2
  go_loopw [3, 8] (fun v iv wr => ∃ (i c' : Nat) (A' : Option Addr) (ps : List (IncidentR × List ByteArray)), i ≤ n ∧ iv = .int .i64 i ∧ v = .slice A' i c' ∧ OwnP incidentN wr w.heap.size 32 9 (.slice A' i c') ps ∧ Hid (incidentN.plain ps = xs.take i) ∧ Below w.heap.size w wr) (fun _ iv _ => n - (intOf iv).toNat)
  case atStart => exact ⟨0, 0, none, [], Nat.zero_le _, rfl, rfl, OwnP.nil _ _ _ (by decide), rfl, bl_refl _⟩
  case round =>
    obtain ⟨i, c', A', ps, hin, rfl, rfl, ho, hpl, hb⟩ := hrel
    by_cases hlt : i < n
    · obtain ⟨b, o, A2, c2, rfl, hbz, c0, c1, c2', c3, hi, hil⟩ := (hs.below hb).incident hlt
      have hkx : Hid (i < xs.length) := by rw [Hid, HL.out]; exact hlt
      have hnl := HIN.out _ (nth_mem hkx.out)
      clear hs hil
      go_upto_region 5 with fail
      refine wp_hideI (R := fun X => Below wr.heap.size wr X ∧ wr.heap.size + 1 = X.heap.size ∧ X.cell? ⟨wr.heap.size, 0, none⟩ = some (.int .i64 (nth xs i).Number) ∧ X.cell? ⟨wr.heap.size, 1, none⟩ = some (.int .i64 (nth xs i).Node) ∧ X.cell? ⟨wr.heap.size, 2, none⟩ = some (.bool (nth xs i).Closed) ∧ X.cell? ⟨wr.heap.size, 3, none⟩ = some (.slice A2 (nth xs i).Names.length c2) ∧ X.frozen? ⟨wr.heap.size, 3, none⟩ = false) ⟨bl_alloc (bl_refl _) _, by simp, by go_simp, by go_simp, by go_simp, by go_simp, by go_simp⟩ (fun X ⟨hbX, hXz, e0, e1, e2, e3, g3⟩ => ?_)
      have hXlt : wr.heap.size < X.heap.size := by omega
      have hiX := hi.below hbX
      go_wp2_with (first
        | (at_builtin; refine wpList_appN (w0 := X) rfl (.tmp 12) (.tmp 14) _ _ rfl el_str rfl (Own.built X _ (Nat.le_refl _)) (bl_alloc (bl_refl _) _) rfl (hiX.below (bl_alloc (bl_refl _) _)) (by omega) ?_; intro A3 c3' V ho1 hV hg1
           have y0 : V.cell? ⟨wr.heap.size, 0, none⟩ = some (.int .i64 (nth xs i).Number) := cell_later hV e0
           have y1 : V.cell? ⟨wr.heap.size, 1, none⟩ = some (.int .i64 (nth xs i).Node) := cell_later hV e1
           have y2 : V.cell? ⟨wr.heap.size, 2, none⟩ = some (.bool (nth xs i).Closed) := cell_later hV e2
           have y3 : V.cell? ⟨wr.heap.size, 3, none⟩ = some (.slice A2 (nth xs i).Names.length c2) := cell_later hV e3
           have f3 : V.frozen? ⟨wr.heap.size, 3, none⟩ = false := frozen_later hV (by simp only []; omega) g3
           have hVz : wr.heap.size < V.heap.size := World.block_lt_of_cell? V _ y0
           have hbV : Below wr.heap.size wr V := bl_trans hbX hV
           have hoV := ho.below hbV
           have hli := Lib.hid ho.lies
           have Ho := Lib.hid ho
           have hS1 : OnlyF [wr.heap.size] V (V.setCell ⟨wr.heap.size, 3, none⟩ (.slice A3 (nth xs i).Names.length c3')) := OnlyF.set (OnlyF.refl _ _) (List.mem_singleton.2 rfl) _
           have hoS := hoV.only hS1 (fun k hk hm => by have := hli.out k hk; rw [List.mem_singleton.1 hm] at this; omega)
           have HoS := Lib.hid hoS
           have hbS : Below w.heap.size w (V.setCell ⟨wr.heap.size, 3, none⟩ (.slice A3 (nth xs i).Names.length c3')) := bl_set (bl_trans hb hbV) (by have := hb.size; simp only []; omega) _
           have HI1 : Hid (Own (V.setCell ⟨wr.heap.size, 3, none⟩ (.slice A3 (nth xs i).Names.length c3')) (wr.heap.size + 1) 9 (.slice A3 (nth xs i).Names.length c3') (nth xs i).Names) := by
             have h9 : Own V (wr.heap.size + 1) 9 (.slice A3 (nth xs i).Names.length c3') (nth xs i).Names := Own.mono (by simpa using ho1) (by omega)
             exact Own.set h9 (Nat.lt_succ_self _) _
           clear hV hi hiX c0 c1 c2' c3 ho hoV hS1 ho1 e0 e1 e2 e3 g3 hbX hXz hXlt
           )
        | (at_builtin; refine wpList_app1g rfl (.tmp 17) (.tmp 19) _ _ rfl el_inc (⟨(nth xs i).Number, (nth xs i).Node, (nth xs i).Closed, A3, (nth xs i).Names.length, c3'⟩ : IncidentR) rfl hoS.out hbS rfl (by simp) (by omega) ?_; intro A4 c4 w2 ho2 hb2 hg2))
      have hgO : OnlyF (Value.ownBlock (.slice A' i c')).toList (V.setCell ⟨wr.heap.size, 3, none⟩ (.slice A3 (nth xs i).Names.length c3')) w2 := (OnlyF.alloc (OnlyF.refl _ _) _).trans (OnlyF.of_gb hg2)
      have HGO := Lib.hid hgO
      clear hgO hg2 y0 y1 y2 y3 f3
      go_roundw
      case rel =>
        refine ⟨i + 1, c4, A4, ps ++ [(⟨(nth xs i).Number, (nth xs i).Node, (nth xs i).Closed, A3, (nth xs i).Names.length, c3'⟩, (nth xs i).Names)], by omega, by go_num, rfl, HoS.out.snoc ho2 ?_ HGO.out ?_, ?_, hb2⟩
        · refine Own.mono (base := wr.heap.size + 1) ?_ (by have := hb.size; omega)
          refine HI1.out.only HGO.out (fun y hy hm => ?_)
          have h1 := (HI1.out.lt y (by simpa using hy)).1
          have h2 := (Ho.out.out.lt y (by simpa using hm)).2
          omega
        · intro x hx j q hq hq'
          have h1 := (HI1.out.lt x hx).1
          have h2 := ((Ho.out.inn j q hq).lt x hq').2
          omega
        · rw [Hid]; unfold Nest.plain at hpl ⊢; rw [List.map_append, hpl.out, take_succ hkx.out]; rfl
      case measure => simp [intOf]; omega
    · obtain rfl : i = n := by omega
      have hfin : Hid (incidentN.plain ps = xs) := by have h := hpl.out; rw [List.take_of_length_le (by rw [HL.out]; exact Nat.le_refl _)] at h; exact h
      clear hs
      go_wp2
      go_ret
      exact retOwnX_mk hfin.out ho hb

end Go.Proofs.YtpdblmcflniomaaGreatDoor

namespace Go.Proofs.YtpdblmcflniomaaGreatDoor
open Go.RowKit

theorem ez_str : ElemZ Tryz.prog 30 9 (default : ByteArray) := elemZ_mk Tryz.underlying30 (by kernel_rfl)
/-- A call hands back the first n cells' worth of the slice that it was given. -/
def RetPreByteArray (w : World) (base : Nat) (A : Option Addr) (n c : Nat) (ys : List ByteArray) (e : Ending) (w' : World) : Prop :=
  ∃ m, e = .returned (.slice A m c) ∧ Own w' base 9 (.slice A m c) ys ∧ m ≤ n ∧ OnlyF (Value.ownBlock (.slice A n c)).toList w w'
end Go.Proofs.YtpdblmcflniomaaGreatDoor

namespace Go.Proofs.YtpdblmcflniomaaGreatDoor
open Go.RowKit

set_option maxHeartbeats 1000000 in
theorem ixFind_any (xs : List Incident) (number : Int) (A : Option Addr) (n c : Nat) (w : World) (hn : (n : Int) ≤ 9223372036854775807) (hs : Sl w A n xs) :
    Calls Tryz.prog 45 #[.slice A n c, .int .i64 number] w fun e w' => e = .returned (.int .i64 (openI xs number)) ∧ Below w.heap.size w w' := by
  have HL := Lib.hid hs.1
  go_enter Tryz.func45, Tryz.ntmps45
  go_wp2
  go_loopw [9] (fun i wr => ∃ k : Nat, k ≤ n ∧ i = .int .i64 k ∧ Below w.heap.size w wr ∧ Hid (∀ j, j < k → isO number (nth xs j) = false)) (fun i _ => n - (intOf i).toNat)
  case atStart => exact ⟨0, Nat.zero_le _, rfl, bl_refl _, fun j hj => absurd hj (by omega)⟩
  case round =>
    obtain ⟨k, hk, rfl, hb, hg⟩ := hrel
    by_cases hlt : k < n
    · obtain ⟨b, o, A', c', rfl, _, c0, c1, c2, c3, hi, hil⟩ := (hs.below hb).incident hlt
      have hkx : Hid (k < xs.length) := by rw [Hid, HL.out]; exact hlt
      clear hs hil hi
      by_cases h0 : ((nth xs k).Number == number) = true
      · cases h1 : (nth xs k).Closed
        · have q : Hid (isO number (nth xs k) = true) := by rw [Hid, isO, h0, h1]; rfl
          rw [h1] at c2
          clear h1
          go_wp2
          go_ret
          exact ⟨ret_i64 (indexF_hit hkx.out q.out hg.out).symm, bl_alloc hb _⟩
        · have q : Hid (isO number (nth xs k) = false) := by rw [Hid, isO, h1]; simp
          rw [h1] at c2
          clear h1
          go_wp2
          go_roundw
          case rel => exact ⟨k + 1, by omega, by go_num, bl_alloc hb _, upto_succ hg q.out⟩
          case measure => simp [intOf]; omega
      · have h0 : ((nth xs k).Number == number) = false := by simpa using h0
        have q : Hid (isO number (nth xs k) = false) := by rw [Hid, isO, h0]; rfl
        go_wp2
        go_roundw
        case rel => exact ⟨k + 1, by omega, by go_num, bl_alloc hb _, upto_succ hg q.out⟩
        case measure => simp [intOf]; omega
    · obtain rfl : k = n := by omega
      go_wp2
      go_ret
      exact ⟨ret_i64 (indexF_none (by rw [HL.out]; exact hg.out)).symm, hb⟩
theorem enters_oA : Enters Tryz.prog 78 := enters_of Tryz.func78 (by kernel_rfl) (by kernel_rfl)
theorem pred_oA (w : World) (B : Nat) (number : Int) (ha : w.cell? ⟨B, 0, none⟩ = some (.int .i64 number)) (xs : List Incident) : PredIncident Tryz.prog w xs 78 #[.pointer (some ⟨B, 0, none⟩)] (isO number) := by
  intro W x A' c' _ hb hi hil
  have ha' := cell_later hb ha
  have hz : B < W.heap.size := World.block_lt_of_cell? W _ ha'
  clear ha hil hi
  show Calls _ _ #[.agg #[.int .i64 x.Number, .int .i64 x.Node, .bool x.Closed, .slice A' x.Names.length c'], .pointer (some ⟨B, 0, none⟩)] W _
  by_cases h0 : (x.Number == number) = true
  · cases h1 : x.Closed
    · have q : Hid (isO number x = true) := by rw [Hid, isO, h0, h1]; rfl
      go_enter Tryz.func78, Tryz.ntmps78
      go_wp2
      go_ret
      exact ⟨ret_bool q.out.symm, bl_alloc (bl_refl _) _⟩
    · have q : Hid (isO number x = false) := by rw [Hid, isO, h1]; simp
      go_enter Tryz.func78, Tryz.ntmps78
      go_wp2
      go_ret
      exact ⟨ret_bool q.out.symm, bl_alloc (bl_refl _) _⟩
  · have h0 : (x.Number == number) = false := by simpa using h0
    have q : Hid (isO number x = false) := by rw [Hid, isO, h0]; rfl
    go_enter Tryz.func78, Tryz.ntmps78
    go_wp2
    go_ret
    exact ⟨ret_bool q.out.symm, bl_alloc (bl_refl _) _⟩
theorem openAt_any (xs : List Incident) (number : Int) (A : Option Addr) (n c : Nat) (w : World) (hn : (n : Int) ≤ 9223372036854775807) (hs : Sl w A n xs) :
    Calls Tryz.prog 43 #[.slice A n c, .int .i64 number] w fun e w' => e = .returned (.int .i64 (openI xs number)) ∧ Below w.heap.size w w' := by
  go_enter Tryz.func43, Tryz.ntmps43
  go_wp2_with fail
  refine (indexFunc_incident xs _ _ _ _ _ _ _ hn (hs.below (bl_alloc (bl_refl _) _)) enters_oA (pred_oA _ w.heap.size number (by go_simp) xs)).mono ?_
  rintro e V ⟨rfl, hV⟩
  go_wp2
  go_ret
  exact ⟨rfl, bl_trans (bl_alloc (bl_refl w) (.cells #[.int .i64 number] 3)) hV⟩

end Go.Proofs.YtpdblmcflniomaaGreatDoor
