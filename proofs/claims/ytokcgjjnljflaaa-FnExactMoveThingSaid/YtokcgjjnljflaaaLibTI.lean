/-
  slices.Insert over things. No conditions.
-/
import Derived.Test.YtokcgjjnljflaaaMem11
import Derived.Test.YtokcgjjnljflaaaMem6
import Derived.Test.YtokcgjjnljflaaaLibT
namespace Go.Proofs.Ytokcgjjnljflaaa
open Go.RowKit

theorem ez_thing : ElemZ Try.prog 26 59 (default : Thing) := elemZ_mk Try.underlying26 (by kernel_rfl)
theorem app1_blk {α : Type} [Flat α] {P : Program} (t ty e : TypeId) (he : Elem P t e (Flat.sz α)) {base : Nat} {w : World} {A : Option Addr} {n c b d : Nat} {xs : List α} {y : α}
    (hown : Own w base e (.slice A n c) xs) (hy : Sl w (some ⟨b, 0, none⟩) 1 [y]) (hlim : n ≤ 1048576) {v' : Value} {w' : World} (hr : (Builtin.append_ #[t, t] ty #[.slice A n c, .slice (some ⟨b, 0, none⟩) 1 d]).run P w = .ok v' w') :
    ∀ x, v'.ownBlock = some x → Value.ownBlock (.slice A n c) = some x ∨ w.heap.size ≤ x := by
  obtain ⟨i, z, h1, h2, h3, h4, h5, h6⟩ := he
  have hn := hown.sl.1
  have ho1 : w.ownsRow base e (Flat.sz α) (.slice A n c) n (cellsOf xs) := by
    have := hown
    unfold Own at this
    rwa [hn] at this
  have hl : (cellsOf [y]).length = 1 * Flat.sz α := by rw [cellsOf_length]; rfl
  have hc : ∀ j u, (cellsOf [y])[j]? = some u → w.cell? ((⟨b, 0, none⟩ : Addr).add j) = some u := fun j u hu => by
    rw [addr_add]; exact hy.cells j u hu
  have hb5 : (n + 1) * i.bytes ≤ (n + 1) * 256 := Nat.mul_le_mul_left _ h5
  rcases ho1.2 with ⟨hv, _⟩ | ⟨g, cap, cur, hv, hbg, hg, hnc, hcm, hcs, htk⟩
  · injection hv with e1 e2 e3
    subst e1 e2 e3
    rw [run_append_nil (P := P) w t ty e i z h1 h2 h3 ⟨b, 0, none⟩ 1 d (cellsOf [y]) (by rw [h4]; exact hl) hc (by omega) (by omega) (by omega)] at hr
    injection hr with hr _
    subst hr
    intro x hx
    exact .inr (by have : w.heap.size = x := by simpa [Value.ownBlock] using hx
                   omega)
  · injection hv with e1 e2 e3
    subst e1 e3
    by_cases hroom : n + 1 ≤ c
    · obtain ⟨w2, hr2, _⟩ := run_append_fits (P := P) w base t ty e i (Flat.sz α) h1 h2 h4 g n c (cellsOf xs) ho1 ⟨b, 0, none⟩ 1 d (cellsOf [y]) hl hc (cellsOf_oneCell _) hroom
      rw [hr2] at hr
      injection hr with hr _
      subst hr
      exact fun x hx => .inl hx
    · have hold : ∀ j v, (cellsOf xs)[j]? = some v → w.cell? ((⟨g, 0, none⟩ : Addr).add j) = some v := fun j v hj => by
        rw [addr_add]; exact hown.sl.cells j v hj
      rw [run_append_grow (P := P) w t ty e i z h1 h2 h3 ⟨g, 0, none⟩ n c (cellsOf xs) (by rw [h4]; exact ho1.1) hold ⟨b, 0, none⟩ 1 d (cellsOf [y]) (by rw [h4]; exact hl) hc (by omega) (by omega) (growslice_fits (by omega) (by omega))] at hr
      injection hr with hr _
      subst hr
      intro x hx
      exact .inr (by have : w.heap.size = x := by simpa [Value.ownBlock] using hx
                     omega)
/-- A call hands back a slice with one element more; its block is the old one or a new one. -/
def RetInsB {α : Type} [Flat α] (w : World) (base : Nat) (E : TypeId) (A : Option Addr) (n c : Nat) (ys : List α) (e : Ending) (w' : World) : Prop :=
  ∃ A' c', e = .returned (.slice A' (n + 1) c') ∧ Own w' base E (.slice A' (n + 1) c') ys ∧ w.grownBy w' (Value.ownBlock (.slice A n c)) ∧ ∀ x, Value.ownBlock (.slice A' (n + 1) c') = some x → Value.ownBlock (.slice A n c) = some x ∨ w.heap.size ≤ x
set_option maxRecDepth 100000 in
set_option maxHeartbeats 4000000 in
theorem insert_end_thing (xs : List Thing) (A : Option Addr) (n c base vb vc : Nat) (y : Thing) (w : World) (hn : n ≤ 1048576) (ho : Own w base 59 (.slice A n c) xs) (hbase : base ≤ w.heap.size) (hvb : w.heap[vb]? = some (.cells (Flat.enc y).toArray 59 (0, 0))) :
    Calls Try.prog 62 #[.slice A n c, .int .i64 (n : Int), .slice (some ⟨vb, 0, none⟩) 1 vc] w (RetInsB w base 59 A n c (xs ++ [y])) := by
  have hn' := ho.sl.1
  have hy : Sl w (some ⟨vb, 0, none⟩) 1 [y] := ⟨rfl, fun k x hx => by
    have hk : k = 0 := by have := (List.getElem?_eq_some_iff.1 hx).1; simp at this; exact this
    subst hk
    simp at hx; subst hx
    refine ⟨vb, 0, Flat.enc y, rfl, rfl, fun j v hv => ?_⟩
    rw [cell_row hvb]
    simpa using hv⟩
  obtain ⟨A', c', w', hr, ho', hg⟩ := run_appN (P := Try.prog) 26 26 59 el_thing (d := vc) ho hbase hy (by omega)
  have HBK := Lib.hid (app1_blk 26 26 59 el_thing ho hy hn hr)
  have HO := Lib.hid ho'
  have HG := Lib.hid hg
  obtain ⟨hcap, hcm⟩ := ho.cap
  unfold maxLen at hcm
  have hAn : A = none → n = 0 := fun e => by subst e; exact ho.sl.none_len.1
  clear ho ho' hg hy hn'
  cases A with
  | none =>
    obtain rfl : n = 0 := hAn rfl
    clear hAn
    go_enter Try.func62, Try.ntmps62
    go_wp2_with ((at_builtin; refine Lib.wpList_append_run _ rfl _ _ _ _ rfl _ _ rfl rfl _ _ hr ?_))
    go_ret
    exact ⟨A', c', rfl, HO.out, HG.out, HBK.out⟩
  | some ad =>
    clear hAn
    go_enter Try.func62, Try.ntmps62
    go_wp2_with ((at_builtin; refine Lib.wpList_append_run _ rfl _ _ _ _ rfl _ _ rfl rfl _ _ hr ?_))
    all_goals (go_ret; exact ⟨A', c', rfl, HO.out, HG.out, HBK.out⟩)
set_option maxRecDepth 100000 in
set_option maxHeartbeats 4000000 in
theorem insert_room_thing (xs : List Thing) (g n c i base vb vc : Nat) (y : Thing) (w : World) (hn : n ≤ 1048576) (hi : i < n) (hroom : n + 1 ≤ c) (ho : Own w base 59 (.slice (some ⟨g, 0, none⟩) n c) xs) (hvb : w.heap[vb]? = some (.cells (Flat.enc y).toArray 59 (0, 0))) (hgv : vb ≠ g) :
    Calls Try.prog 62 #[.slice (some ⟨g, 0, none⟩) n c, .int .i64 (i : Int), .slice (some ⟨vb, 0, none⟩) 1 vc] w (RetInsB w base 59 (some ⟨g, 0, none⟩) n c (insAt xs i y)) := by
  obtain ⟨cur, hg, hxl, hbg, hnc, hcm, hcs, htk⟩ := ho.row
  have hsz : Flat.sz Thing = 3 := rfl
  have hl1 : cur.toList.length = c * Flat.sz Thing := by rw [Array.length_toList, hcs]
  have hul := upRow_length (xs := xs) (i := i) hxl (by omega) hroom hl1
  have hll := layRow_length (cur := upRow cur.toList xs i) (y := y) (i := i) (c := c) (by omega) hul
  have hfin := shift_row (i := i) y hxl (by omega) hroom hl1 htk
  have hel : (Flat.enc y).length = 3 := Flat.len y
  have hdl := drop_cells_length (xs := xs) (i := i) hxl
  have hinf : (Try.prog.info? 59).map (·.size) = some 3 := by kernel_rfl
  have hov : ∀ lb cb, (callFunc 72 #[.slice (some ⟨vb, 0, none⟩) 1 vc, .slice (some ⟨g, (i + 1) * 3, none⟩) lb cb]).run Try.prog w = .ok (.value (.bool false)) w := fun lb cb => by
    rw [run_callFunc_extern Try.func72 (by kernel_rfl) (by kernel_rfl) (by kernel_rfl) (e := Extern.SlicesOverlaps.overlaps #[26, 26] #[4]) (by kernel_rfl),
      Lib.run_overlaps_apart w 26 4 59 Try.underlying26 3 Try.sizeOf59 ⟨vb, 0, none⟩ ⟨g, (i + 1) * 3, none⟩ 1 vc lb cb hgv _ _ _ _ (shape_row hvb) (shape_row hg) (by rw [hcs, hsz]; omega) (frozen_row hvb _) (frozen_row hvb _)]
    rfl
  have hcp1 : ∀ (W : World), W.heap = w.heap → ∀ ty dl dc sl sc, min sl dl = n - i → (Builtin.copy_ #[26, 26] ty #[.slice (some ⟨g, (i + 1) * 3, none⟩) dl dc, .slice (some ⟨g, i * 3, none⟩) sl sc]).run Try.prog W = .ok (goInt (Nat.min sl dl)) (W.setRow g (upRow cur.toList xs i).toArray) := by
    intro W hW ty dl dc sl sc hm
    have hgW : W.heap[g]? = some (.cells cur 59 (0, 0)) := by rw [hW]; exact hg
    refine run_copy_row W _ _ ty 59 _ 3 g ((i + 1) * 3) dl dc ⟨g, i * 3, none⟩ sl sc (cellsOf (xs.drop i)) cur Try.underlying26 hinf ?_ ?_ hgW ?_ (cellsOf_oneCell _)
    · rw [hdl]; show _ = min sl dl * 3; rw [hm]; rfl
    · intro j v hv
      rw [addr_add, cell_row hgW]
      exact row_from hxl htk (by omega) j v hv
    · rw [hdl, hcs, hsz]; omega
  have hcp2 : ∀ (W : World), W.heap = (w.setRow g (upRow cur.toList xs i).toArray).heap → ∀ ty dl dc, 1 ≤ dl → (Builtin.copy_ #[26, 26] ty #[.slice (some ⟨g, i * 3, none⟩) dl dc, .slice (some ⟨vb, 0, none⟩) 1 vc]).run Try.prog W = .ok (goInt (Nat.min 1 dl)) (W.setRow g (layRow (upRow cur.toList xs i) i y).toArray) := by
    intro W hW ty dl dc hm
    have hgW : W.heap[g]? = some (.cells (upRow cur.toList xs i).toArray 59 (0, 0)) := by rw [hW]; exact setRow_heap w g _ _ _ _ hg
    have hvW : W.heap[vb]? = some (.cells (Flat.enc y).toArray 59 (0, 0)) := by rw [hW, setRow_other w g vb _ hgv]; exact hvb
    have h := run_copy_row (P := Try.prog) W 26 26 ty 59 59 3 g (i * 3) dl dc ⟨vb, 0, none⟩ 1 vc (Flat.enc y) (upRow cur.toList xs i).toArray Try.underlying26 hinf (by rw [hel]; show _ = min 1 dl * 3; omega)
      (by intro j v hv; rw [addr_add, cell_row hvW, Nat.zero_add]; simpa using hv) hgW (by rw [hel, List.size_toArray, hul, hsz]; omega) (Flat.one y)
    exact h
  have HF := Lib.hid hfin
  have HOV := Lib.hid hov
  have HC1 := Lib.hid hcp1
  have HC2 := Lib.hid hcp2
  have HLL := Lib.hid hll
  have HG := Lib.hid hg
  have HX := Lib.hid hxl
  have HCM := Lib.hid hcm
  unfold maxLen at hcm
  have hbn : base ≤ g := hbg
  have w1 : IntKind.i64.wrap ((i : Int) + 1) = (i : Int) + 1 := IntWalk.i64_in _ (by omega)
  have w2 : ((i : Int) + 1).toNat = i + 1 := by omega
  have g1 : (0 : Int) ≤ (i : Int) + 1 := by omega
  have g2 : (i : Int) + 1 ≤ (n : Int) + 1 := by omega
  have g3 : (i : Int) ≤ (n : Int) + 1 := by omega
  have k1 : ¬ (c = i + 1) := by omega
  have k2 : ¬ (c = i) := by omega
  have k3 : ((i : Int) == (n : Int)) = false := by simp; omega
  clear hfin hov hcp1 hcp2 hll hg hxl hul hl1 hcs htk hdl hel hbg ho hvb
  go_enter Try.func62, Try.ntmps62
  go_wp2_with (simp only [HOV.out])
  have e1 := HC1.out w.drew rfl 3 (n - i) (c - (i + 1)) (n + 1 - i) (c - i) (by omega)
  have e2 := HC2.out (w.drew.setRow g (upRow cur.toList xs i).toArray) rfl 3 (n + 1 - i) (c - i) (by omega)
  go_region
  all_goals
    go_wp2
    go_ret
    refine ⟨some ⟨g, 0, none⟩, c, rfl, Own.of_row (cur := (layRow (upRow cur.toList xs i) i y).toArray) ?_ ?_ hbn hroom HCM.out ?_ ?_, ?_, fun x hx => .inl hx⟩
    · exact setRow_heap _ g _ _ _ _ (setRow_heap _ g _ _ _ _ HG.out)
    · rw [insAt_length y (by have := HX.out; omega), HX.out]
    · rw [List.size_toArray]; exact HLL.out
    · have := HF.out; simpa using this
    · refine ⟨rfl, rfl, rfl, by simp, fun k _ hk => ?_⟩
      have hkg : k ≠ g := fun e => hk (by rw [e]; rfl)
      rw [setRow_other _ g k _ hkg, setRow_other _ g k _ hkg]; rfl
set_option maxRecDepth 100000 in
set_option maxHeartbeats 4000000 in
theorem insert_grow_thing (xs : List Thing) (g n c i base vb vc : Nat) (y : Thing) (w : World) (hn : n ≤ 1048576) (hi : i < n) (hroom : c < n + 1) (ho : Own w base 59 (.slice (some ⟨g, 0, none⟩) n c) xs) (hbase : base ≤ w.heap.size) (hvb : w.heap[vb]? = some (.cells (Flat.enc y).toArray 59 (0, 0))) :
    Calls Try.prog 62 #[.slice (some ⟨g, 0, none⟩) n c, .int .i64 (i : Int), .slice (some ⟨vb, 0, none⟩) 1 vc] w (RetInsB w base 59 (some ⟨g, 0, none⟩) n c (insAt xs i y)) := by
  obtain ⟨cur, hg, hxl, hbg, hnc, hcm, hcs, htk⟩ := ho.row
  obtain ⟨ti, z, h1, h2, h3, h4, h5, h6⟩ := ez_thing
  have hsz : Flat.sz Thing = 3 := rfl
  have hel : (Flat.enc y).length = 3 := Flat.len y
  have hdl := drop_cells_length (xs := xs) (i := i) hxl
  have hinf : (Try.prog.info? 59).map (·.size) = some 3 := by kernel_rfl
  have hzs : z.cells.size = 3 := by rw [← Array.length_toList, h6]; exact Flat.len _
  have hgw : g < w.heap.size := (Array.getElem?_eq_some_iff.1 hg).1
  have hvw : vb < w.heap.size := (Array.getElem?_eq_some_iff.1 hvb).1
  have htl : (cellsOf (xs.take i)).length = i * 3 := by rw [cellsOf_length, List.length_take, Nat.min_eq_left (by omega)]; rfl
  have hold : (Builtin.firstCells ti.size i (.slice (some ⟨g, 0, none⟩) i c)).run Try.prog w.drew = .ok (cellsOf (xs.take i)).toArray w.drew := by
    rw [h4, hsz]
    exact run_firstCells_some w.drew 3 i ⟨g, 0, none⟩ i c (cellsOf (xs.take i)) htl (fun j v hj => by
      rw [addr_add, Nat.zero_add]
      exact (cell_row hg j).trans (row_head htk j v hj))
  obtain ⟨G, hG⟩ : ∃ G, G = grownCap w (n + 1) c 59 := ⟨_, rfl⟩
  have hGn : n + 1 ≤ G := by rw [hG]; exact grownCap_ge w _ _ _
  have hGM : G ≤ maxLen := by rw [hG]; exact grownCap_le_maxLen w (n + 1) c _ (by unfold maxLen; omega)
  obtain ⟨ROW, hROW⟩ : ∃ ROW : Array Value, ROW = (cellsOf (xs.take i)).toArray ++ Builtin.zeroCells z.cells (n + 1 - i) ++ Builtin.zeroCells z.cells (G - (n + 1)) := ⟨_, rfl⟩
  have hik : i + (n + 1 - i) = n + 1 := by omega
  have hrz : ∀ ty, (Builtin.append_ #[26, 3] ty #[.slice (some ⟨g, 0, none⟩) i c, .int .i64 ((n : Int) + 1 - (i : Int))]).run Try.prog w = .ok (.slice (some ⟨w.heap.size, 0, none⟩) (n + 1) G) (w.drew.alloc (.cells ROW 59)) := fun ty => by
    have hb1 : (n + 1) * ti.bytes ≤ (n + 1) * 256 := Nat.mul_le_mul_left _ h5
    have hb2 : (n + 1 - i) * ti.bytes ≤ (n + 1) * ti.bytes := Nat.mul_le_mul_right _ (by omega)
    have h := Lib.run_append_grow_zeros (P := Try.prog) w 26 3 ty 59 ti z .i64 .i64 h1 Try.underlying3 h2 h3 (some ⟨g, 0, none⟩) i c (cellsOf (xs.take i)) hold (n + 1 - i) (by omega) (by rw [h4, hsz]; omega) (by omega) (by omega) (by omega) (by rw [hik]; exact growslice_fits hroom (by omega))
    rw [hik, ← hG, ← hROW] at h
    have hkk : (n : Int) + 1 - (i : Int) = ((n + 1 - i : Nat) : Int) := by omega
    rw [hkk]
    exact h
  have hRl : ROW.toList.length = G * Flat.sz Thing := by
    rw [Array.length_toList, hROW, Array.size_append, Array.size_append, size_zeroCells, size_zeroCells, hzs, List.size_toArray, htl, hsz]; omega
  have hRt : ROW.toList.take (i * Flat.sz Thing) = cellsOf (xs.take i) := by
    rw [hROW, Array.toList_append, Array.toList_append, List.append_assoc]
    exact List.take_left' htl
  have hll := layRow_length (y := y) (i := i) (by omega : i + 1 ≤ G) hRl
  have hul := upRow_length (xs := xs) (i := i) hxl (by omega) hGn hll
  have hfin := grow_row (i := i) y hxl (by omega) hGn hRl hRt
  have hgN : (w.alloc (.cells ROW 59)).heap[w.heap.size]? = some (.cells ROW 59 (0, 0)) := by
    show (w.heap.push _)[w.heap.size]? = _
    simp
  have hgO : ∀ k, k < w.heap.size → (w.alloc (.cells ROW 59)).heap[k]? = w.heap[k]? := fun k hk => by
    show (w.heap.push _)[k]? = _
    rw [Array.getElem?_push, if_neg (Nat.ne_of_lt hk)]
  have hcpA : ∀ (W : World), W.heap = (w.alloc (.cells ROW 59)).heap → ∀ ty dl dc, 1 ≤ dl → (Builtin.copy_ #[26, 26] ty #[.slice (some ⟨w.heap.size, i * 3, none⟩) dl dc, .slice (some ⟨vb, 0, none⟩) 1 vc]).run Try.prog W = .ok (goInt (Nat.min 1 dl)) (W.setRow w.heap.size (layRow ROW.toList i y).toArray) := by
    intro W hW ty dl dc hm
    have hgW : W.heap[w.heap.size]? = some (.cells ROW 59 (0, 0)) := by rw [hW]; exact hgN
    have hvW : W.heap[vb]? = some (.cells (Flat.enc y).toArray 59 (0, 0)) := by rw [hW, hgO vb hvw]; exact hvb
    exact run_copy_row (P := Try.prog) W 26 26 ty 59 59 3 w.heap.size (i * 3) dl dc ⟨vb, 0, none⟩ 1 vc (Flat.enc y) ROW Try.underlying26 hinf (by rw [hel]; show _ = min 1 dl * 3; omega)
      (by intro j v hv; rw [addr_add, cell_row hvW, Nat.zero_add]; simpa using hv) hgW (by rw [hel, ← Array.length_toList, hRl, hsz]; omega) (Flat.one y)
  have hcpB : ∀ (W : World), W.heap = ((w.alloc (.cells ROW 59)).setRow w.heap.size (layRow ROW.toList i y).toArray).heap → ∀ ty dl dc sl sc, min sl dl = n - i → (Builtin.copy_ #[26, 26] ty #[.slice (some ⟨w.heap.size, (i + 1) * 3, none⟩) dl dc, .slice (some ⟨g, i * 3, none⟩) sl sc]).run Try.prog W = .ok (goInt (Nat.min sl dl)) (W.setRow w.heap.size (upRow (layRow ROW.toList i y) xs i).toArray) := by
    intro W hW ty dl dc sl sc hm
    have hNW : W.heap[w.heap.size]? = some (.cells (layRow ROW.toList i y).toArray 59 (0, 0)) := by rw [hW]; exact setRow_heap _ _ _ _ _ _ hgN
    have hgW : W.heap[g]? = some (.cells cur 59 (0, 0)) := by rw [hW, setRow_other _ _ g _ (by omega), hgO g hgw]; exact hg
    exact run_copy_row (P := Try.prog) W 26 26 ty 59 59 3 w.heap.size ((i + 1) * 3) dl dc ⟨g, i * 3, none⟩ sl sc (cellsOf (xs.drop i)) (layRow ROW.toList i y).toArray Try.underlying26 hinf (by rw [hdl]; show _ = min sl dl * 3; rw [hm]; rfl)
      (by intro j v hv; rw [addr_add, cell_row hgW]; exact row_from hxl htk (by omega) j v hv) hNW (by rw [hdl, List.size_toArray, hll, hsz]; omega) (cellsOf_oneCell _)
  have HF := Lib.hid hfin
  have HGN := Lib.hid hgN
  have HGO := Lib.hid hgO
  have HCA := Lib.hid hcpA
  have HCB := Lib.hid hcpB
  have HUL := Lib.hid hul
  have HX := Lib.hid hxl
  have HGM := Lib.hid hGM
  unfold maxLen at hGM hcm
  have w1 : IntKind.i64.wrap ((i : Int) + 1) = (i : Int) + 1 := IntWalk.i64_in _ (by omega)
  have w2 : ((i : Int) + 1).toNat = i + 1 := by omega
  have g1 : (0 : Int) ≤ (i : Int) + 1 := by omega
  have g2 : (i : Int) + 1 ≤ (n : Int) + 1 := by omega
  have g3 : (i : Int) ≤ (n : Int) + 1 := by omega
  have k1 : ¬ (G = i + 1) := by omega
  have k2 : ¬ (G = i) := by omega
  have k4 : ¬ (c = i) := by omega
  have k3 : ((i : Int) == (n : Int)) = false := by simp; omega
  have hgn2 : ¬ (g = w.heap.size) := by omega
  clear hgN hgO hfin hcpA hcpB hll hul hg hxl hcs htk hdl hel hbg ho hvb hRl hRt hROW hG hold htl hzs h1 h2 h3 h4 h5 h6 hik
  go_enter Try.func62, Try.ntmps62
  have e1 := HCA.out (w.alloc (.cells ROW 59)).drew rfl 3 (n + 1 - i) (G - i) (by omega)
  have e2 := HCB.out ((w.alloc (.cells ROW 59)).drew.setRow w.heap.size (layRow ROW.toList i y).toArray).drew rfl 3 (n - i) (G - (i + 1)) (n - i) (c - i) (by omega)
  go_wp2_with ((at_builtin; refine Lib.wpList_append_run _ rfl _ _ _ _ rfl _ _ rfl rfl _ _ (hrz _) ?_))
  go_region
  all_goals
    go_wp2
    go_ret
    refine ⟨some ⟨w.heap.size, 0, none⟩, G, rfl, Own.of_row (cur := (upRow (layRow ROW.toList i y) xs i).toArray) ?_ ?_ hbase hGn HGM.out ?_ ?_, ?_, fun x hx => .inr (Nat.le_of_eq (by simpa [Value.ownBlock] using hx))⟩
    · exact setRow_heap _ _ _ _ _ _ (setRow_heap _ _ _ _ _ _ HGN.out)
    · rw [insAt_length y (by have := HX.out; omega), HX.out]
    · rw [List.size_toArray]; exact HUL.out
    · have := HF.out; simpa using this
    · refine ⟨rfl, rfl, rfl, by simp, fun k hk _ => ?_⟩
      have hkg : k ≠ w.heap.size := by omega
      rw [setRow_other _ _ k _ hkg]
      exact (setRow_other _ _ k _ hkg).trans (HGO.out k hk)
theorem insert_thing (xs : List Thing) (A : Option Addr) (n c i base vb vc : Nat) (y : Thing) (w : World) (hn : n ≤ 1048576) (hi : i ≤ n) (ho : Own w base 59 (.slice A n c) xs) (hbase : base ≤ w.heap.size) (hvb : w.heap[vb]? = some (.cells (Flat.enc y).toArray 59 (0, 0))) (hgv : ∀ g, A = some ⟨g, 0, none⟩ → vb ≠ g) :
    Calls Try.prog 62 #[.slice A n c, .int .i64 (i : Int), .slice (some ⟨vb, 0, none⟩) 1 vc] w (RetInsB w base 59 A n c (insAt xs i y)) := by
  by_cases he : i = n
  · subst he
    have h := insert_end_thing xs A i c base vb vc y w hn ho hbase hvb
    have hl := ho.sl.1
    rw [← hl] at hi ⊢
    rw [insAt_end, hl]
    exact h
  · rcases ho.2 with ⟨hv, h0⟩ | ⟨g, cap, cur, hv, _⟩
    · have hl := ho.sl.1
      omega
    · injection hv with e1 e2 e3
      subst e1
      by_cases hroom : n + 1 ≤ c
      · exact insert_room_thing xs g n c i base vb vc y w hn (by omega) hroom ho hvb (hgv g rfl)
      · exact insert_grow_thing xs g n c i base vb vc y w hn (by omega) (by omega) ho hbase hvb

end Go.Proofs.Ytokcgjjnljflaaa
