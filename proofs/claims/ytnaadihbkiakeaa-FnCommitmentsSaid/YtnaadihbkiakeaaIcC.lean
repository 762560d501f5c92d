/-
  Incidents: a copy, with nothing shared: the program's and the reference's. No conditions.
-/
import Derived.Test.YtnaadihbkiakeaaIcP
import Derived.Test.YtnaadihbkiakeaaNestB
import Derived.Test.YtnaadihbkiakeaaIncV
namespace Go.Proofs.Ytnaadihbkiakeaa
open Go.RowKit

theorem wp_hideI {P : Program} {c : Code} {Q : Exit → Act → World → Prop} {a : Act} {w : World} {R : World → Prop} (hR : R w) (h : ∀ V, R V → c.wp P Q a V) : c.wp P Q a w := h w hR
set_option maxHeartbeats 1000000 in
theorem clone_str (xs : List ByteArray) (A : Option Addr) (n c : Nat) (w : World) (hn : n ≤ 1048576) (hs : Sl w A n xs) :
    Calls Try.prog 130 #[.slice A n c] w (RetOwn w 9 xs) := by
  have HL := Lib.hid hs.1
  cases A with
  | none =>
    obtain ⟨rfl, rfl⟩ := hs.none_len
    have he := fun W => Lib.run_eql_slice_nil (P := Try.prog) W 47 9 none 0 c 0 0 Try.underlying47
    go_enter Try.func130, Try.ntmps130
    go_wp2
    go_ret
    exact retOwn_mk rfl (Own.nil _ _ _) (bl_refl _)
  | some ad =>
    have he := fun W => Lib.run_eql_slice_nil (P := Try.prog) W 47 9 (some ad) n c 0 0 Try.underlying47
    go_enter Try.func130, Try.ntmps130
    go_wp2_with ((at_builtin; refine wpList_appN rfl (.tmp 5) (.tmp 6) _ _ rfl el_str rfl (Own.built w _ (Nat.le_refl _)) (bl_alloc (bl_refl _) _) rfl (hs.below (bl_alloc (bl_refl _) _)) (by omega) ?_; intro A2 c2 w2 ho2 hb2 hg2))
    go_ret
    exact retOwn_mk HL.out (by simpa using ho2) hb2
theorem el_inc : Elem Try.prog 59 76 (Flat.sz IncidentR) := elem_mk Try.underlying59 (by kernel_rfl)
set_option maxRecDepth 100000 in
set_option maxHeartbeats 4000000 in
theorem copyIncidents_any (xs : List Incident) (A : Option Addr) (n c : Nat) (w : World) (hn : n ≤ 1048576) (hs : Sl w A n xs) (hin : ∀ x, x ∈ xs → x.Names.length ≤ 1048576) :
    Calls Try.prog 98 #[.slice A n c] w (RetOwnX incidentN w 76 9 xs) := by
  have HL := Lib.hid hs.1
  have HIN := Lib.hid hin
  clear hin
  go_enter Try.func98, Try.ntmps98
  go_wp2
  go_loopw [3, 8] (fun v iv wr => ∃ (i c' : Nat) (A' : Option Addr) (ps : List (IncidentR × List ByteArray)), i ≤ n ∧ iv = .int .i64 i ∧ v = .slice A' i c' ∧ OwnP incidentN wr w.heap.size 76 9 (.slice A' i c') ps ∧ Hid (incidentN.plain ps = xs.take i) ∧ Below w.heap.size w wr) (fun _ iv _ => n - (intOf iv).toNat)
  case atStart => exact ⟨0, 0, none, [], Nat.zero_le _, rfl, rfl, OwnP.nil _ _ _ (by decide), rfl, bl_refl _⟩
  case round =>
    obtain ⟨i, c', A', ps, hin, rfl, rfl, ho, hpl, hb⟩ := hrel
    by_cases hlt : i < n
    · obtain ⟨b, o, A2, c2, rfl, hbz, c0, c1, c2', c3, hi, hil⟩ := (hs.below hb).incident hlt
      have hkx : Hid (i < xs.length) := by rw [Hid, HL.out]; exact hlt
      have hnl := HIN.out _ (nth_mem hkx.out)
      clear hs hil
      go_wp2_with fail
      refine (clone_str (nth xs i).Names _ _ _ _ (HIN.out _ (nth_mem hkx.out)) (hi.below (bl_alloc (bl_refl _) _))).mono ?_
      rintro e V ⟨A3, c3', rfl, ho1, hV⟩
      have y0 : V.cell? ⟨wr.heap.size, 0, none⟩ = some (.int .i64 (nth xs i).Number) := cell_later hV (by go_simp)
      have y1 : V.cell? ⟨wr.heap.size, 1, none⟩ = some (.int .i64 (nth xs i).Node) := cell_later hV (by go_simp)
      have y2 : V.cell? ⟨wr.heap.size, 2, none⟩ = some (.bool (nth xs i).Closed) := cell_later hV (by go_simp)
      have y3 : V.cell? ⟨wr.heap.size, 3, none⟩ = some (.slice A2 (nth xs i).Names.length c2) := cell_later hV (by go_simp)
      have f3 : V.frozen? ⟨wr.heap.size, 3, none⟩ = false := frozen_later hV (by simp) (by go_simp)
      have hVz : wr.heap.size < V.heap.size := World.block_lt_of_cell? V _ y0
      have hbV : Below wr.heap.size wr V := bl_trans (bl_alloc (bl_refl _) _) hV
      have hoV := ho.below hbV
      have hli := Lib.hid ho.lies
      have Ho := Lib.hid ho
      have hS1 : OnlyF [wr.heap.size] V (V.setCell ⟨wr.heap.size, 3, none⟩ (.slice A3 (nth xs i).Names.length c3')) := OnlyF.set (OnlyF.refl _ _) (List.mem_singleton.2 rfl) _
      have hoS := hoV.only hS1 (fun k hk hm => by have := hli.out k hk; rw [List.mem_singleton.1 hm] at this; omega)
      have HoS := Lib.hid hoS
      have hbS : Below w.heap.size w (V.setCell ⟨wr.heap.size, 3, none⟩ (.slice A3 (nth xs i).Names.length c3')) := bl_set (bl_trans hb hbV) (by have := hb.size; simp only []; omega) _
      have HI1 : Hid (Own (V.setCell ⟨wr.heap.size, 3, none⟩ (.slice A3 (nth xs i).Names.length c3')) (wr.heap.size + 1) 9 (.slice A3 (nth xs i).Names.length c3') (nth xs i).Names) := by
        have h9 : Own V (wr.heap.size + 1) 9 (.slice A3 (nth xs i).Names.length c3') (nth xs i).Names := Own.mono ho1 (by simp)
        exact Own.set h9 (Nat.lt_succ_self _) _
      clear hV hi c0 c1 c2' c3 ho hoV hS1 ho1
      go_wp2_with ((at_builtin; refine wpList_app1g rfl (.tmp 16) (.tmp 18) _ _ rfl el_inc (⟨(nth xs i).Number, (nth xs i).Node, (nth xs i).Closed, A3, (nth xs i).Names.length, c3'⟩ : IncidentR) rfl hoS.out hbS rfl (by simp) (by omega) ?_; intro A4 c4 w2 ho2 hb2 hg2))
      have hgO : OnlyF (Value.ownBlock (.slice A' i c')).toList (V.setCell ⟨wr.heap.size, 3, none⟩ (.slice A3 (nth xs i).Names.length c3')) w2 := (OnlyF.alloc (OnlyF.refl _ _) _).trans (OnlyF.of_gb hg2)
      have HGO := Lib.hid hgO
      clear hgO hg2 y0 y1 y2 y3 f3
      go_roundw
      case rel =>
        refine ⟨i + 1, c4, A4, ps ++ [(⟨(nth xs i).Number, (nth xs i).Node, (nth xs i).Closed, A3, (nth xs i).Names.length, c3'⟩, (nth xs i).Names)], by omega, by go_num, rfl, HoS.out.snoc ho2 ?_ HGO.out ?_, ?_, hb2⟩
        · refine Own.mono (base := wr.heap.size + 1) ?_ (by have := hb.size; omega)
          refine HI1.out.only HGO.out (fun y hy hm => ?_)
          have h1 := (HI1.out.lt y (by simpa using hy)).1
          have h2 := (Ho.out.out.lt y (by simpa using hm)).2
          omega
        · intro x hx j q hq hq'
          have h1 := (HI1.out.lt x hx).1
          have h2 := ((Ho.out.inn j q hq).lt x hq').2
          omega
        · rw [Hid]; unfold Nest.plain at hpl ⊢; rw [List.map_append, hpl.out, take_succ hkx.out]; rfl
      case measure => simp [intOf]; omega
    · obtain rfl : i = n := by omega
      have hfin : Hid (incidentN.plain ps = xs) := by have h := hpl.out; rw [List.take_of_length_le (by rw [HL.out]; exact Nat.le_refl _)] at h; exact h
      clear hs
      go_wp2
      go_ret
      exact retOwnX_mk hfin.out ho hb
set_option maxRecDepth 100000 in
set_option maxHeartbeats 4000000 in
theorem ixOwn_any (xs : List Incident) (A : Option Addr) (n c : Nat) (w : World) (hn : n ≤ 1048576) (hs : Sl w A n xs) (hin : ∀ x, x ∈ xs → x.Names.length ≤ 1048576) :
    Calls Try.prog 134 #[.slice A n c] w (RetOwnX incidentN w 76 9 xs) := by
  have HL := Lib.hid hs.1
  have HIN := Lib.hid hin
  clear hin
  go_enter Try.func134, Try.ntmps134
  go_wp2
  go_loopw [3, 8] (fun v iv wr => ∃ (i c' : Nat) (A' : Option Addr) (ps : List (IncidentR × List ByteArray)), i ≤ n ∧ iv = .int .i64 i ∧ v = .slice A' i c' ∧ OwnP incidentN wr w.heap.size 76 9 (.slice A' i c') ps ∧ Hid (incidentN.plain ps = xs.take i) ∧ Below w.heap.size w wr) (fun _ iv _ => n - (intOf iv).toNat)
  case atStart => exact ⟨0, 0, none, [], Nat.zero_le _, rfl, rfl, OwnP.nil _ _ _ (by decide), rfl, bl_refl _⟩
  case round =>
    obtain ⟨i, c', A', ps, hin, rfl, rfl, ho, hpl, hb⟩ := hrel
    by_cases hlt : i < n
    · obtain ⟨b, o, A2, c2, rfl, hbz, c0, c1, c2', c3, hi, hil⟩ := (hs.below hb).incident hlt
      have hkx : Hid (i < xs.length) := by rw [Hid, HL.out]; exact hlt
      have hnl := HIN.out _ (nth_mem hkx.out)
      clear hs hil
      go_upto_region 5 with fail
      refine wp_hideI (R := fun X => Below wr.heap.size wr X ∧ wr.heap.size + 1 = X.heap.size ∧ X.cell? ⟨wr.heap.size, 0, none⟩ = some (.int .i64 (nth xs i).Number) ∧ X.cell? ⟨wr.heap.size, 1, none⟩ = some (.int .i64 (nth xs i).Node) ∧ X.cell? ⟨wr.heap.size, 2, none⟩ = some (.bool (nth xs i).Closed) ∧ X.cell? ⟨wr.heap.size, 3, none⟩ = some (.slice A2 (nth xs i).Names.length c2) ∧ X.frozen? ⟨wr.heap.size, 3, none⟩ = false) ⟨bl_alloc (bl_refl _) _, by simp, by go_simp, by go_simp, by go_simp, by go_simp, by go_simp⟩ (fun X ⟨hbX, hXz, e0, e1, e2, e3, g3⟩ => ?_)
      have hXlt : wr.heap.size < X.heap.size := by omega
      have hiX := hi.below hbX
      go_wp2_with (first
        | (at_builtin; refine wpList_appN (w0 := X) rfl (.tmp 12) (.tmp 14) _ _ rfl el_str rfl (Own.built X _ (Nat.le_refl _)) (bl_alloc (bl_refl _) _) rfl (hiX.below (bl_alloc (bl_refl _) _)) (by omega) ?_; intro A3 c3' V ho1 hV hg1
           have y0 : V.cell? ⟨wr.heap.size, 0, none⟩ = some (.int .i64 (nth xs i).Number) := cell_later hV e0
           have y1 : V.cell? ⟨wr.heap.size, 1, none⟩ = some (.int .i64 (nth xs i).Node) := cell_later hV e1
           have y2 : V.cell? ⟨wr.heap.size, 2, none⟩ = some (.bool (nth xs i).Closed) := cell_later hV e2
           have y3 : V.cell? ⟨wr.heap.size, 3, none⟩ = some (.slice A2 (nth xs i).Names.length c2) := cell_later hV e3
           have f3 : V.frozen? ⟨wr.heap.size, 3, none⟩ = false := frozen_later hV (by simp only []; omega) g3
           have hVz : wr.heap.size < V.heap.size := World.block_lt_of_cell? V _ y0
           have hbV : Below wr.heap.size wr V := bl_trans hbX hV
           have hoV := ho.below hbV
           have hli := Lib.hid ho.lies
           have Ho := Lib.hid ho
           have hS1 : OnlyF [wr.heap.size] V (V.setCell ⟨wr.heap.size, 3, none⟩ (.slice A3 (nth xs i).Names.length c3')) := OnlyF.set (OnlyF.refl _ _) (List.mem_singleton.2 rfl) _
           have hoS := hoV.only hS1 (fun k hk hm => by have := hli.out k hk; rw [List.mem_singleton.1 hm] at this; omega)
           have HoS := Lib.hid hoS
           have hbS : Below w.heap.size w (V.setCell ⟨wr.heap.size, 3, none⟩ (.slice A3 (nth xs i).Names.length c3')) := bl_set (bl_trans hb hbV) (by have := hb.size; simp only []; omega) _
           have HI1 : Hid (Own (V.setCell ⟨wr.heap.size, 3, none⟩ (.slice A3 (nth xs i).Names.length c3')) (wr.heap.size + 1) 9 (.slice A3 (nth xs i).Names.length c3') (nth xs i).Names) := by
             have h9 : Own V (wr.heap.size + 1) 9 (.slice A3 (nth xs i).Names.length c3') (nth xs i).Names := Own.mono (by simpa using ho1) (by omega)
             exact Own.set h9 (Nat.lt_succ_self _) _
           clear hV hi hiX c0 c1 c2' c3 ho hoV hS1 ho1 e0 e1 e2 e3 g3 hbX hXz hXlt
           )
        | (at_builtin; refine wpList_app1g rfl (.tmp 17) (.tmp 19) _ _ rfl el_inc (⟨(nth xs i).Number, (nth xs i).Node, (nth xs i).Closed, A3, (nth xs i).Names.length, c3'⟩ : IncidentR) rfl hoS.out hbS rfl (by simp) (by omega) ?_; intro A4 c4 w2 ho2 hb2 hg2))
      have hgO : OnlyF (Value.ownBlock (.slice A' i c')).toList (V.setCell ⟨wr.heap.size, 3, none⟩ (.slice A3 (nth xs i).Names.length c3')) w2 := (OnlyF.alloc (OnlyF.refl _ _) _).trans (OnlyF.of_gb hg2)
      have HGO := Lib.hid hgO
      clear hgO hg2 y0 y1 y2 y3 f3
      go_roundw
      case rel =>
        refine ⟨i + 1, c4, A4, ps ++ [(⟨(nth xs i).Number, (nth xs i).Node, (nth xs i).Closed, A3, (nth xs i).Names.length, c3'⟩, (nth xs i).Names)], by omega, by go_num, rfl, HoS.out.snoc ho2 ?_ HGO.out ?_, ?_, hb2⟩
        · refine Own.mono (base := wr.heap.size + 1) ?_ (by have := hb.size; omega)
          refine HI1.out.only HGO.out (fun y hy hm => ?_)
          have h1 := (HI1.out.lt y (by simpa using hy)).1
          have h2 := (Ho.out.out.lt y (by simpa using hm)).2
          omega
        · intro x hx j q hq hq'
          have h1 := (HI1.out.lt x hx).1
          have h2 := ((Ho.out.inn j q hq).lt x hq').2
          omega
        · rw [Hid]; unfold Nest.plain at hpl ⊢; rw [List.map_append, hpl.out, take_succ hkx.out]; rfl
      case measure => simp [intOf]; omega
    · obtain rfl : i = n := by omega
      have hfin : Hid (incidentN.plain ps = xs) := by have h := hpl.out; rw [List.take_of_length_le (by rw [HL.out]; exact Nat.le_refl _)] at h; exact h
      clear hs
      go_wp2
      go_ret
      exact retOwnX_mk hfin.out ho hb

end Go.Proofs.Ytnaadihbkiakeaa
