/-
  Several texts in one. No conditions.
-/
import Derived.Test.YtpdblmcflniomaaGreatDoorIv6
import Derived.Test.YtpdblmcflniomaaGreatDoorIv5
namespace Go.Proofs.YtpdblmcflniomaaGreatDoor
open Go.RowKit

set_option maxRecDepth 100000 in
set_option maxHeartbeats 4000000 in
theorem isIncident_f (number node : Int) (xs : List ByteArray) (A : Option Addr) (n c : Nat) (w : World) (hn : (n : Int) ≤ 9223372036854775807) (hs : Sl w A n xs) (hv : ∀ x, x ∈ xs → x.size ≤ maxLen) :
    Calls Tryz.prog 59 #[.agg #[.int .i64 number, .int .i64 node, .bool false, .slice A n c]] w fun e w' => e = .returned (.bool (incB number node false xs)) ∧ Below w.heap.size w w' := by
  have HV := Lib.hid hv
  have HL := Lib.hid hs.1
  clear hv
  go_enter Tryz.func59, Tryz.ntmps59
  have hk0 := bl_refl w
  go_wp2_with fail
  refine (inside_any number 1 999 _).mono ?_
  rintro _ _ ⟨rfl, rfl⟩
  cases h0 : inB number 1 999
  · have q : Hid (incB number node false xs = false) := inc_0 (by rw [HL.out]; unfold baseB; rw [h0]; rfl)
    go_wp2
    go_ret
    exact ⟨ret_bool q.out.symm, (bl_alloc (bl_refl w) (.cells #[.int .i64 number, .int .i64 node, .bool false, .slice A n c] 32))⟩
  have H0 := Lib.hid h0
  clear h0
  go_wp2_with fail
  refine (inside_any node 0 13 _).mono ?_
  rintro _ _ ⟨rfl, rfl⟩
  cases h1 : inB node 0 13
  · have q : Hid (incB number node false xs = false) := inc_0 (by rw [HL.out]; unfold baseB; rw [h1]; simp)
    go_wp2
    go_ret
    exact ⟨ret_bool q.out.symm, (bl_alloc (bl_refl w) (.cells #[.int .i64 number, .int .i64 node, .bool false, .slice A n c] 32))⟩
  have H1 := Lib.hid h1
  clear h1
  by_cases hl : n ≤ 12
  rotate_left
  · have hd : decide ((n : Int) > 12) = true := by simp; omega
    have q : Hid (incB number node false xs = false) := inc_0 (by rw [HL.out]; unfold baseB; rw [decide_eq_false hl]; simp)
    go_wp2
    go_ret
    exact ⟨ret_bool q.out.symm, (bl_alloc (bl_refl w) (.cells #[.int .i64 number, .int .i64 node, .bool false, .slice A n c] 32))⟩
  have hd : decide ((n : Int) > 12) = false := by simp; omega
  have HB : Hid (baseB number node false xs.length = true) := by rw [Hid, HL.out, baseB, H0.out, H1.out, decide_eq_true hl]; rfl
  go_wp2
  obtain ⟨W, hW⟩ : ∃ W, W = w.alloc (.cells #[.int .i64 number, .int .i64 node, .bool false, .slice A n c] 32) := ⟨_, rfl⟩
  rw [← hW]
  have hkW : Below w.heap.size w W := by rw [hW]; exact bl_alloc (bl_refl _) _
  have x3 : W.cell? ⟨w.heap.size, 3, none⟩ = some (.slice A n c) := by rw [hW]; go_simp
  have HW := Lib.hid hW
  clear hW
  go_loopw [34] (fun i wr => ∃ k : Nat, k ≤ n ∧ i = .int .i64 k ∧ Hid (∀ j, j < k → nameB (nth xs j) = true) ∧ Hid (∀ j, j < k → sortC xs j = true) ∧ Below W.heap.size W wr) (fun i _ => n - (intOf i).toNat)
  case atStart => exact ⟨0, Nat.zero_le _, rfl, fun j hj => absurd hj (by omega), fun j hj => absurd hj (by omega), bl_refl _⟩
  case round =>
    obtain ⟨k, hk, rfl, hg, hg2, hb⟩ := hrel
    have hbw := bl_trans hkW hb
    by_cases hlt : k < n
    · obtain ⟨b, o, rfl, _, c0⟩ := (hs.below hbw).str hlt
      have hkx : Hid (k < xs.length) := by rw [Hid, HL.out]; exact hlt
      have hszh := Lib.hid (HV.out _ (nth_mem hkx.out))
      have x4 := cell_later hb x3
      have xz : w.heap.size < wr.heap.size := World.block_lt_of_cell? wr _ x4
      go_wp2_with fail
      refine (isName_any (nth xs k) _ hszh.out).mono ?_
      rintro e V ⟨rfl, hV⟩
      have hbV := bl_trans hb hV
      have x5 := cell_later hV x4
      have xz5 : w.heap.size < V.heap.size := World.block_lt_of_cell? V _ x5
      clear c0 x4 xz
      cases hp : nameB (nth xs k)
      · have q : Hid (incB number node false xs = false) := inc_2 (allB_false (p := fun k => nameB (nth xs k)) hkx.out hp)
        clear hp
        go_wp2
        go_ret
        exact ⟨ret_bool q.out.symm, bl_trans hkW hbV⟩
      have hp2 := Lib.hid hp
      clear hp
      by_cases hk0 : 0 < k
      · obtain ⟨b', o', e', _, d0⟩ := (hs.below (bl_trans hkW hbV)).str (k := k - 1) (by omega)
        injection e' with e'
        injection e' with e1 e2
        subst e1 e2
        clear hs
        have hkd : decide ((k : Int) > 0) = true := by simpa using hk0
        have i2 : 0 ≤ (k : Int) - 1 := by omega
        have i4 : (k : Int) - 1 < n := by omega
        have i1 : IntKind.i64.wrap ((k : Int) - 1) = (k : Int) - 1 := IntWalk.i64_in _ (by omega)
        have i3 : ((k : Int) - 1).toNat = k - 1 := by omega
        cases go : Op.bytesLess (nth xs (k - 1)).toList (nth xs k).toList
        · have q : Hid (incB number node false xs = false) := inc_1 (allB_false hkx.out (sortC_1 hk0 go))
          go_wp2
          go_ret
          exact ⟨ret_bool q.out.symm, bl_trans hkW hbV⟩
        · have G := Lib.hid go
          go_wp2
          go_roundw
          case rel => exact ⟨k + 1, by omega, by go_num, upto_succ hg hp2.out, upto_succ hg2 (sortC_y (.inr G.out)), hbV⟩
          case measure => simp [intOf]; omega
      · have hkd : decide ((k : Int) > 0) = false := by simp; omega
        clear hs
        go_wp2
        go_roundw
        case rel => exact ⟨k + 1, by omega, by go_num, upto_succ hg hp2.out, upto_succ hg2 (sortC_y (.inl hk0)), hbV⟩
        case measure => simp [intOf]; omega
    · obtain rfl : k = n := by omega
      have q : Hid (incB number node false xs = true) := inc_y HB.out (allB_true (by rw [HL.out]; exact hg2.out)) (allB_true (by rw [HL.out]; exact hg.out))
      go_wp2
      go_ret
      exact ⟨ret_bool q.out.symm, hbw⟩
set_option maxRecDepth 100000 in
set_option maxHeartbeats 4000000 in
theorem isIncident_t (number node : Int) (xs : List ByteArray) (A : Option Addr) (n c : Nat) (w : World) (hn : (n : Int) ≤ 9223372036854775807) (hs : Sl w A n xs) (hv : ∀ x, x ∈ xs → x.size ≤ maxLen) :
    Calls Tryz.prog 59 #[.agg #[.int .i64 number, .int .i64 node, .bool true, .slice A n c]] w fun e w' => e = .returned (.bool (incB number node true xs)) ∧ Below w.heap.size w w' := by
  have HV := Lib.hid hv
  have HL := Lib.hid hs.1
  clear hv
  go_enter Tryz.func59, Tryz.ntmps59
  have hk0 := bl_refl w
  go_wp2_with fail
  refine (inside_any number 1 999 _).mono ?_
  rintro _ _ ⟨rfl, rfl⟩
  cases h0 : inB number 1 999
  · have q : Hid (incB number node true xs = false) := inc_0 (by rw [HL.out]; unfold baseB; rw [h0]; rfl)
    go_wp2
    go_ret
    exact ⟨ret_bool q.out.symm, (bl_alloc (bl_refl w) (.cells #[.int .i64 number, .int .i64 node, .bool true, .slice A n c] 32))⟩
  have H0 := Lib.hid h0
  clear h0
  go_wp2_with fail
  refine (inside_any node 0 13 _).mono ?_
  rintro _ _ ⟨rfl, rfl⟩
  cases h1 : inB node 0 13
  · have q : Hid (incB number node true xs = false) := inc_0 (by rw [HL.out]; unfold baseB; rw [h1]; simp)
    go_wp2
    go_ret
    exact ⟨ret_bool q.out.symm, (bl_alloc (bl_refl w) (.cells #[.int .i64 number, .int .i64 node, .bool true, .slice A n c] 32))⟩
  have H1 := Lib.hid h1
  clear h1
  by_cases hl : n ≤ 12
  rotate_left
  · have hd : decide ((n : Int) > 12) = true := by simp; omega
    have q : Hid (incB number node true xs = false) := inc_0 (by rw [HL.out]; unfold baseB; rw [decide_eq_false hl]; simp)
    go_wp2
    go_ret
    exact ⟨ret_bool q.out.symm, (bl_alloc (bl_refl w) (.cells #[.int .i64 number, .int .i64 node, .bool true, .slice A n c] 32))⟩
  have hd : decide ((n : Int) > 12) = false := by simp; omega
  by_cases hc : 0 < n
  · have hd2 : decide ((n : Int) > 0) = true := by simp; omega
    have q : Hid (incB number node true xs = false) := inc_0 (by rw [HL.out]; unfold baseB; rw [decide_eq_true hc]; simp)
    go_wp2
    go_ret
    exact ⟨ret_bool q.out.symm, (bl_alloc (bl_refl w) (.cells #[.int .i64 number, .int .i64 node, .bool true, .slice A n c] 32))⟩
  have hd2 : decide ((n : Int) > 0) = false := by simp; omega
  have HB : Hid (baseB number node true xs.length = true) := by rw [Hid, HL.out, baseB, H0.out, H1.out, decide_eq_true hl]; rw [decide_eq_false hc]; rfl
  go_wp2
  obtain ⟨W, hW⟩ : ∃ W, W = w.alloc (.cells #[.int .i64 number, .int .i64 node, .bool true, .slice A n c] 32) := ⟨_, rfl⟩
  rw [← hW]
  have hkW : Below w.heap.size w W := by rw [hW]; exact bl_alloc (bl_refl _) _
  have x3 : W.cell? ⟨w.heap.size, 3, none⟩ = some (.slice A n c) := by rw [hW]; go_simp
  have HW := Lib.hid hW
  clear hW
  go_loopw [34] (fun i wr => ∃ k : Nat, k ≤ n ∧ i = .int .i64 k ∧ Hid (∀ j, j < k → nameB (nth xs j) = true) ∧ Hid (∀ j, j < k → sortC xs j = true) ∧ Below W.heap.size W wr) (fun i _ => n - (intOf i).toNat)
  case atStart => exact ⟨0, Nat.zero_le _, rfl, fun j hj => absurd hj (by omega), fun j hj => absurd hj (by omega), bl_refl _⟩
  case round =>
    obtain ⟨k, hk, rfl, hg, hg2, hb⟩ := hrel
    have hbw := bl_trans hkW hb
    by_cases hlt : k < n
    · exact absurd hlt (by omega)
    · obtain rfl : k = n := by omega
      have q : Hid (incB number node true xs = true) := inc_y HB.out (allB_true (by rw [HL.out]; exact hg2.out)) (allB_true (by rw [HL.out]; exact hg.out))
      go_wp2
      go_ret
      exact ⟨ret_bool q.out.symm, hbw⟩
theorem isIncident_any (number node : Int) (closed : Bool) (xs : List ByteArray) (A : Option Addr) (n c : Nat) (w : World) (hn : (n : Int) ≤ 9223372036854775807) (hs : Sl w A n xs) (hv : ∀ x, x ∈ xs → x.size ≤ maxLen) :
    Calls Tryz.prog 59 #[.agg #[.int .i64 number, .int .i64 node, .bool closed, .slice A n c]] w fun e w' => e = .returned (.bool (incB number node closed xs)) ∧ Below w.heap.size w w' := by
  cases closed
  · exact isIncident_f number node xs A n c w hn hs hv
  · exact isIncident_t number node xs A n c w hn hs hv

end Go.Proofs.YtpdblmcflniomaaGreatDoor

namespace Go.Proofs.YtpdblmcflniomaaGreatDoor
open Go.RowKit

def incAt (xs : List Incident) (k : Nat) : Bool := incB (nth xs k).Number (nth xs k).Node (nth xs k).Closed (nth xs k).Names
def freshB (xs : List Incident) (k : Nat) : Bool := allB (nth xs k).Names.length (fun j => !(xs.take k).any (fun y => hasS y.Names (nth (nth xs k).Names j)))
def okInc (xs : List Incident) (k : Nat) : Bool := incAt xs k && !(decide (0 < k) && decide ((nth xs (k - 1)).Number ≥ (nth xs k).Number)) && freshB xs k
def incsB (xs : List Incident) : Bool := allB xs.length (okInc xs) && decide (xs.length ≤ 8)
theorem okInc_0 {xs : List Incident} {k : Nat} (h : incAt xs k = false) : okInc xs k = false := by simp only [okInc, h]; rfl
theorem okInc_1 {xs : List Incident} {k : Nat} (h : 0 < k) (h' : (nth xs (k - 1)).Number ≥ (nth xs k).Number) : okInc xs k = false := by simp only [okInc, decide_eq_true h, decide_eq_true h']; simp
theorem okInc_2 {xs : List Incident} {k j : Nat} (hj : j < (nth xs k).Names.length) (h : (xs.take k).any (fun y => hasS y.Names (nth (nth xs k).Names j)) = true) : okInc xs k = false := by
  have : freshB xs k = false := allB_false hj (by rw [h]; rfl)
  simp only [okInc, this]; simp
theorem okInc_y {xs : List Incident} {k : Nat} (h : incAt xs k = true) (h' : ¬ 0 < k ∨ ¬ (nth xs (k - 1)).Number ≥ (nth xs k).Number) (h2 : ∀ j, j < (nth xs k).Names.length → (xs.take k).any (fun y => hasS y.Names (nth (nth xs k).Names j)) = false) : okInc xs k = true := by
  have h3 : freshB xs k = true := allB_true (fun j hj => by rw [h2 j hj]; rfl)
  rcases h' with h' | h' <;> simp only [okInc, h, h3, decide_eq_false h'] <;> simp
theorem incsB_no {xs : List Incident} {k : Nat} (hk : k < xs.length) (h : okInc xs k = false) : incsB xs = false := by simp only [incsB, allB_false hk h]; rfl
theorem incsB_all {xs : List Incident} (h : ∀ j, j < xs.length → okInc xs j = true) : incsB xs = decide (xs.length ≤ 8) := by simp only [incsB, allB_true h]; rfl
theorem incsB_len {xs : List Incident} (h : incsB xs = true) : xs.length ≤ 8 := by simp [incsB] at h; exact h.2
theorem incsB_at {xs : List Incident} (h : incsB xs = true) {k : Nat} (hk : k < xs.length) : incAt xs k = true := by
  simp only [incsB, Bool.and_eq_true] at h
  have := allB_iff.1 h.1 k hk
  simp only [okInc, Bool.and_eq_true] at this
  exact this.1.1
theorem any_take_no {α : Type} [Inhabited α] {xs : List α} {p : α → Bool} {k : Nat} (hk : k ≤ xs.length) (h : ∀ j, j < k → p (nth xs j) = false) : (xs.take k).any p = false := by
  rw [List.any_eq_false]
  intro x hx
  obtain ⟨j, hj, rfl⟩ := List.getElem_of_mem hx
  rw [List.length_take] at hj
  have := h j (by omega)
  rw [nth_get (List.getElem?_eq_getElem (by omega : j < xs.length))] at this
  rw [List.getElem_take, this]; simp
theorem any_take_yes {α : Type} [Inhabited α] {xs : List α} {p : α → Bool} {j k : Nat} (hk : k ≤ xs.length) (hj : j < k) (h : p (nth xs j) = true) : (xs.take k).any p = true := by
  rw [List.any_eq_true]
  refine ⟨nth xs j, ?_, h⟩
  rw [nth_get (List.getElem?_eq_getElem (by omega : j < xs.length))]
  rw [List.mem_iff_getElem?]
  exact ⟨j, by rw [List.getElem?_take, if_pos hj]; exact List.getElem?_eq_getElem _⟩

end Go.Proofs.YtpdblmcflniomaaGreatDoor

namespace Go.Proofs.YtpdblmcflniomaaGreatDoor
open Go.RowKit

set_option maxRecDepth 100000 in
set_option maxHeartbeats 8000000 in
theorem areIncidents_any (xs : List Incident) (A : Option Addr) (n c : Nat) (w : World) (hn : (n : Int) ≤ 9223372036854775807) (hc : n ≤ c) (hs : Sl w A n xs) (hv : ∀ x, x ∈ xs → ∀ y, y ∈ x.Names → y.size ≤ maxLen) :
    Calls Tryz.prog 35 #[.slice A n c] w fun e w' => e = .returned (.bool (incsB xs)) ∧ Below w.heap.size w w' := by
  have HV := Lib.hid hv
  clear hv
  have HL := Lib.hid hs.1
  go_enter Tryz.func35, Tryz.ntmps35
  go_wp2
  go_loopw [9] (fun i wr => ∃ k : Nat, k ≤ n ∧ i = .int .i64 k ∧ Below w.heap.size w wr ∧ Hid (∀ j, j < k → okInc xs j = true)) (fun i _ => n - (intOf i).toNat)
  case atStart => exact ⟨0, Nat.zero_le _, rfl, Below.refl _ _, fun j hj => absurd hj (by omega)⟩
  case round =>
    obtain ⟨k, hk, rfl, hb, hg⟩ := hrel
    by_cases hlt : k < n
    · obtain ⟨wo, rfl⟩ : ∃ wo : World, wo = wr := ⟨_, rfl⟩
      have hs' := hs.below hb
      obtain ⟨b, o, A', c', rfl, hbz, c0, c1, c2, c3, hi, hil⟩ := hs'.incident hlt
      have hil2 : ((nth xs k).Names.length : Int) ≤ 9223372036854775807 := by unfold maxLen at hil; omega
      have hkx : Hid (k < xs.length) := by rw [Hid, HL.out]; exact hlt
      have hszh := Lib.hid (HV.out _ (nth_mem hkx.out))
      have Hs := Lib.hid hs
      have hkc : (k : Int) ≤ c := by omega
      have hkc2 : k ≤ c := by omega
      have hk00 : (0 : Int) ≤ k := by omega
      clear hs hil
      cases g0 : incB (nth xs k).Number (nth xs k).Node (nth xs k).Closed (nth xs k).Names
      · have G0 : Hid (incAt xs k = false) := g0
        clear hs'
        go_wp2_with fail
        refine wp_region_grow (by kernel_rfl) (by kernel_rfl) (fun X hX => ?_)
        have hbX : Below wo.heap.size wo X := by rw [hX]; exact bl_alloc (bl_refl _) _
        have r0 : X.cell? ⟨wo.heap.size, 0, none⟩ = some (.int .i64 (nth xs k).Number) := by rw [hX]; go_simp
        have r1 : X.cell? ⟨wo.heap.size, 1, none⟩ = some (.int .i64 (nth xs k).Node) := by rw [hX]; go_simp
        have r2 : X.cell? ⟨wo.heap.size, 2, none⟩ = some (.bool (nth xs k).Closed) := by rw [hX]; go_simp
        have r3 : X.cell? ⟨wo.heap.size, 3, none⟩ = some (.slice A' (nth xs k).Names.length c') := by rw [hX]; go_simp
        have q0 := Gw.cell r0
        have q1 := Gw.cell r1
        have q2 := Gw.cell r2
        have q3 := Gw.cell r3
        have hiX := Lib.hid (hi.below hbX)
        have HX := Lib.hid hX
        clear hX c0 c1 c2 c3
        repeat (go_big_quiet_step ((go_at_call 59; exact Calls.grow_of (isIncident_any _ _ _ (nth xs k).Names _ _ _ _ hil2 (hiX.out.below (Subtype.property _)) hszh.out))))
        refine wpGrow_nil (fun V hV => ?_)
        have hB := bl_trans hbX hV
        have hbV := bl_trans hb hB
        have v3 := cell_later hV r3
        have vz : wo.heap.size < V.heap.size := World.block_lt_of_cell? V _ v3
        have hiV := Lib.hid (hi.below hB)
        clear hV hbX hi r0 q0 r1 q1 r2 q2 r3 q3
        clear v3
        go_wp2
        go_ret
        exact ⟨ret_bool (incsB_no hkx.out (okInc_0 G0.out)).symm, hbV⟩
      have G0 : Hid (incAt xs k = true) := g0
      by_cases hk0 : 0 < k
      · obtain ⟨b1, o1, A1, cc1, e, _, d0, _, _, _, _, _⟩ := hs'.incident (k := k - 1) (by omega)
        injection e with e
        injection e with e1 e2
        subst e1 e2
        clear hs'
        have hkd : decide ((k : Int) > 0) = true := by simpa using hk0
        have i2 : 0 ≤ (k : Int) - 1 := by omega
        have i4 : (k : Int) - 1 < n := by omega
        have i1 : IntKind.i64.wrap ((k : Int) - 1) = (k : Int) - 1 := IntWalk.i64_in _ (by omega)
        have i3 : ((k : Int) - 1).toNat = k - 1 := by omega
        by_cases g1 : (nth xs (k - 1)).Number ≥ (nth xs k).Number
        · have g2 : decide ((nth xs (k - 1)).Number ≥ (nth xs k).Number) = true := by simpa using g1
          go_wp2_with fail
          refine wp_region_grow (by kernel_rfl) (by kernel_rfl) (fun X hX => ?_)
          have hbX : Below wo.heap.size wo X := by rw [hX]; exact bl_alloc (bl_refl _) _
          have r0 : X.cell? ⟨wo.heap.size, 0, none⟩ = some (.int .i64 (nth xs k).Number) := by rw [hX]; go_simp
          have r1 : X.cell? ⟨wo.heap.size, 1, none⟩ = some (.int .i64 (nth xs k).Node) := by rw [hX]; go_simp
          have r2 : X.cell? ⟨wo.heap.size, 2, none⟩ = some (.bool (nth xs k).Closed) := by rw [hX]; go_simp
          have r3 : X.cell? ⟨wo.heap.size, 3, none⟩ = some (.slice A' (nth xs k).Names.length c') := by rw [hX]; go_simp
          have p0 := cell_later hbX d0
          have q0 := Gw.cell r0
          have q1 := Gw.cell r1
          have q2 := Gw.cell r2
          have q3 := Gw.cell r3
          have s0 := Gw.cell p0
          have hiX := Lib.hid (hi.below hbX)
          have HX := Lib.hid hX
          clear hX c0 c1 c2 c3
          repeat (go_big_quiet_step ((go_at_call 59; exact Calls.grow_of (isIncident_any _ _ _ (nth xs k).Names _ _ _ _ hil2 (hiX.out.below (Subtype.property _)) hszh.out))))
          refine wpGrow_nil (fun V hV => ?_)
          have hB := bl_trans hbX hV
          have hbV := bl_trans hb hB
          have v3 := cell_later hV r3
          have vz : wo.heap.size < V.heap.size := World.block_lt_of_cell? V _ v3
          have hiV := Lib.hid (hi.below hB)
          clear hV hbX hi r0 q0 r1 q1 r2 q2 r3 q3 p0 s0 d0 i1 i3
          clear v3
          go_wp2
          go_ret
          exact ⟨ret_bool (incsB_no hkx.out (okInc_1 hk0 g1)).symm, hbV⟩
        · have g2 : decide ((nth xs (k - 1)).Number ≥ (nth xs k).Number) = false := by simpa using g1
          go_wp2_with fail
          refine wp_region_grow (by kernel_rfl) (by kernel_rfl) (fun X hX => ?_)
          have hbX : Below wo.heap.size wo X := by rw [hX]; exact bl_alloc (bl_refl _) _
          have r0 : X.cell? ⟨wo.heap.size, 0, none⟩ = some (.int .i64 (nth xs k).Number) := by rw [hX]; go_simp
          have r1 : X.cell? ⟨wo.heap.size, 1, none⟩ = some (.int .i64 (nth xs k).Node) := by rw [hX]; go_simp
          have r2 : X.cell? ⟨wo.heap.size, 2, none⟩ = some (.bool (nth xs k).Closed) := by rw [hX]; go_simp
          have r3 : X.cell? ⟨wo.heap.size, 3, none⟩ = some (.slice A' (nth xs k).Names.length c') := by rw [hX]; go_simp
          have p0 := cell_later hbX d0
          have q0 := Gw.cell r0
          have q1 := Gw.cell r1
          have q2 := Gw.cell r2
          have q3 := Gw.cell r3
          have s0 := Gw.cell p0
          have hiX := Lib.hid (hi.below hbX)
          have HX := Lib.hid hX
          clear hX c0 c1 c2 c3
          repeat (go_big_quiet_step ((go_at_call 59; exact Calls.grow_of (isIncident_any _ _ _ (nth xs k).Names _ _ _ _ hil2 (hiX.out.below (Subtype.property _)) hszh.out))))
          refine wpGrow_nil (fun V hV => ?_)
          have hB := bl_trans hbX hV
          have hbV := bl_trans hb hB
          have v3 := cell_later hV r3
          have vz : wo.heap.size < V.heap.size := World.block_lt_of_cell? V _ v3
          have hiV := Lib.hid (hi.below hB)
          clear hV hbX hi r0 q0 r1 q1 r2 q2 r3 q3 p0 s0 d0 i1 i3
          go_wp2
          try simp only [g0]
          go_loopw [35] (fun i wr => ∃ j : Nat, j ≤ (nth xs k).Names.length ∧ i = .int .i64 j ∧ Below V.heap.size V wr ∧ Hid (∀ q, q < j → (xs.take k).any (fun y => hasS y.Names (nth (nth xs k).Names q)) = false)) (fun i _ => (nth xs k).Names.length - (intOf i).toNat)
          case atStart => exact ⟨0, Nat.zero_le _, rfl, bl_refl _, fun j hj => absurd hj (by omega)⟩
          case round =>
            obtain ⟨j, hj, rfl, hb2, hg2⟩ := hrel
            by_cases hjn : j < (nth xs k).Names.length
            · obtain ⟨b', o', rfl, _, e0⟩ := (hiV.out.below hb2).str hjn
              have hst := Lib.hid ((Hs.out.below (bl_trans hbV hb2)).take (by omega : k ≤ n))
              clear v3
              go_wp2_with fail
              refine (committedAt_any (xs.take k) (nth (nth xs k).Names j) _ k _ _ (by omega) hst.out).mono ?_
              rintro e V2 ⟨rfl, hV2⟩
              have hbV2 := bl_trans hb2 hV2
              have hany := any_index (fun y : Incident => hasS y.Names (nth (nth xs k).Names j)) (xs.take k)
              have hge : decide (atB (xs.take k) (nth (nth xs k).Names j) ≥ 0) = (xs.take k).any (fun y => hasS y.Names (nth (nth xs k).Names j)) := hany.symm
              clear hany e0
              cases ha : (xs.take k).any (fun y => hasS y.Names (nth (nth xs k).Names j))
              · have Ha := Lib.hid ha
                rw [ha] at hge
                clear ha
                go_wp2
                go_roundw
                case rel => first | exact ⟨j + 1, by omega, by go_num, hbV2, upto_succ hg2 Ha.out⟩ | ((repeat apply Exists.intro); exact ⟨⟨j + 1, by omega, by go_num, hbV2, upto_succ hg2 Ha.out⟩, rfl⟩)
                case measure => simp [intOf]; omega
              · have Ha := Lib.hid ha
                rw [ha] at hge
                clear ha
                go_wp2
                go_ret
                exact ⟨ret_bool (incsB_no hkx.out (okInc_2 hjn Ha.out)).symm, bl_trans hbV hbV2⟩
            · obtain rfl : j = (nth xs k).Names.length := by omega
              have hq : Hid (okInc xs k = true) := okInc_y G0.out (.inr (by omega)) hg2.out
              clear v3
              go_wp2
              go_roundw
              case rel => exact ⟨k + 1, by omega, by go_num, bl_trans hbV hb2, upto_succ hg hq.out⟩
              case measure => simp [intOf]; omega
      · have hkd : decide ((k : Int) > 0) = false := by simp; omega
        clear hs'
        go_wp2_with fail
        refine wp_region_grow (by kernel_rfl) (by kernel_rfl) (fun X hX => ?_)
        have hbX : Below wo.heap.size wo X := by rw [hX]; exact bl_alloc (bl_refl _) _
        have r0 : X.cell? ⟨wo.heap.size, 0, none⟩ = some (.int .i64 (nth xs k).Number) := by rw [hX]; go_simp
        have r1 : X.cell? ⟨wo.heap.size, 1, none⟩ = some (.int .i64 (nth xs k).Node) := by rw [hX]; go_simp
        have r2 : X.cell? ⟨wo.heap.size, 2, none⟩ = some (.bool (nth xs k).Closed) := by rw [hX]; go_simp
        have r3 : X.cell? ⟨wo.heap.size, 3, none⟩ = some (.slice A' (nth xs k).Names.length c') := by rw [hX]; go_simp
        have q0 := Gw.cell r0
        have q1 := Gw.cell r1
        have q2 := Gw.cell r2
        have q3 := Gw.cell r3
        have hiX := Lib.hid (hi.below hbX)
        have HX := Lib.hid hX
        clear hX c0 c1 c2 c3
        repeat (go_big_quiet_step ((go_at_call 59; exact Calls.grow_of (isIncident_any _ _ _ (nth xs k).Names _ _ _ _ hil2 (hiX.out.below (Subtype.property _)) hszh.out))))
        refine wpGrow_nil (fun V hV => ?_)
        have hB := bl_trans hbX hV
        have hbV := bl_trans hb hB
        have v3 := cell_later hV r3
        have vz : wo.heap.size < V.heap.size := World.block_lt_of_cell? V _ v3
        have hiV := Lib.hid (hi.below hB)
        clear hV hbX hi r0 q0 r1 q1 r2 q2 r3 q3
        go_wp2
        try simp only [g0]
        go_loopw [35] (fun i wr => ∃ j : Nat, j ≤ (nth xs k).Names.length ∧ i = .int .i64 j ∧ Below V.heap.size V wr ∧ Hid (∀ q, q < j → (xs.take k).any (fun y => hasS y.Names (nth (nth xs k).Names q)) = false)) (fun i _ => (nth xs k).Names.length - (intOf i).toNat)
        case atStart => exact ⟨0, Nat.zero_le _, rfl, bl_refl _, fun j hj => absurd hj (by omega)⟩
        case round =>
          obtain ⟨j, hj, rfl, hb2, hg2⟩ := hrel
          by_cases hjn : j < (nth xs k).Names.length
          · obtain ⟨b', o', rfl, _, e0⟩ := (hiV.out.below hb2).str hjn
            have hst := Lib.hid ((Hs.out.below (bl_trans hbV hb2)).take (by omega : k ≤ n))
            clear v3
            go_wp2_with fail
            refine (committedAt_any (xs.take k) (nth (nth xs k).Names j) _ k _ _ (by omega) hst.out).mono ?_
            rintro e V2 ⟨rfl, hV2⟩
            have hbV2 := bl_trans hb2 hV2
            have hany := any_index (fun y : Incident => hasS y.Names (nth (nth xs k).Names j)) (xs.take k)
            have hge : decide (atB (xs.take k) (nth (nth xs k).Names j) ≥ 0) = (xs.take k).any (fun y => hasS y.Names (nth (nth xs k).Names j)) := hany.symm
            clear hany e0
            cases ha : (xs.take k).any (fun y => hasS y.Names (nth (nth xs k).Names j))
            · have Ha := Lib.hid ha
              rw [ha] at hge
              clear ha
              go_wp2
              go_roundw
              case rel => first | exact ⟨j + 1, by omega, by go_num, hbV2, upto_succ hg2 Ha.out⟩ | ((repeat apply Exists.intro); exact ⟨⟨j + 1, by omega, by go_num, hbV2, upto_succ hg2 Ha.out⟩, rfl⟩)
              case measure => simp [intOf]; omega
            · have Ha := Lib.hid ha
              rw [ha] at hge
              clear ha
              go_wp2
              go_ret
              exact ⟨ret_bool (incsB_no hkx.out (okInc_2 hjn Ha.out)).symm, bl_trans hbV hbV2⟩
          · obtain rfl : j = (nth xs k).Names.length := by omega
            have hq : Hid (okInc xs k = true) := okInc_y G0.out (.inl (by omega)) hg2.out
            clear v3
            go_wp2
            go_roundw
            case rel => exact ⟨k + 1, by omega, by go_num, bl_trans hbV hb2, upto_succ hg hq.out⟩
            case measure => simp [intOf]; omega
    · obtain rfl : k = n := by omega
      go_wp2
      go_ret
      refine ⟨ret_bool ?_, hb⟩
      rw [incsB_all (by rw [HL.out]; exact hg.out), HL.out]
      simp
      try omega
theorem implAreIncidents_any (xs : List Incident) (A : Option Addr) (n c : Nat) (w : World) (hn : (n : Int) ≤ 9223372036854775807) (hc : n ≤ c) (hs : Sl w A n xs) (hv : ∀ x, x ∈ xs → ∀ y, y ∈ x.Names → y.size ≤ maxLen) :
    Calls Tryz.prog 9 #[.slice A n c] w fun e w' => e = .returned (.bool (incsB xs)) ∧ Below w.heap.size w w' := by
  have HV := Lib.hid hv
  clear hv
  go_enter Tryz.func9, Tryz.ntmps9
  go_wp2_with (go_at_call 35; refine (areIncidents_any xs _ _ _ _ hn hc hs HV.out).mono ?_; rintro e V ⟨rfl, hV⟩)
  go_ret
  exact ⟨rfl, hV⟩

end Go.Proofs.YtpdblmcflniomaaGreatDoor
