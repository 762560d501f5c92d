/-
  Several texts in one. No conditions.
-/
import Derived.Test.YtfglmghcgoembaaGreatDoorHx4
import Derived.Test.YtfglmghcgoembaaGreatDoorMem7
import Derived.Sort.Grow
import Derived.Test.YtfglmghcgoembaaGreatDoorLaysS
import Derived.Shelf.SlSortCmp.WholeK
import Derived.Sort.OwnSorted
namespace Go.Proofs.YtfglmghcgoembaaGreatDoor
open Go.RowKit

/-- blocks laid and orders drawn, no more -/
def Gro (w w' : World) : Prop := ∃ q os, w' = Go.Sort.grow (w.drewN q) os
theorem Gro.refl (w : World) : Gro w w := ⟨0, #[], by simp [Go.Sort.grow, World.drewN]⟩
theorem Gro.alloc {w w' : World} (h : Gro w w') (o : Obj) : Gro w (w'.alloc o) := by
  obtain ⟨q, os, rfl⟩ := h
  exact ⟨q, os ++ #[o], by rw [Go.Sort.alloc_eq_grow, Go.Sort.grow_grow]⟩
theorem Gro.drew {w w' : World} (h : Gro w w') : Gro w w'.drew := by
  obtain ⟨q, os, rfl⟩ := h
  exact ⟨q + 1, os, rfl⟩
theorem Gro.drewN {w w' : World} (h : Gro w w') (n : Nat) : Gro w (w'.drewN n) := by
  obtain ⟨q, os, rfl⟩ := h
  exact ⟨q + n, os, by simp [Go.Sort.grow, World.drewN, Nat.add_assoc]⟩
theorem Gro.below {w w' : World} (h : Gro w w') : Below w.heap.size w w' := by
  obtain ⟨q, os, rfl⟩ := h
  exact ⟨rfl, rfl, rfl, by simp [Go.Sort.grow, World.drewN], fun k hk => by
    show (w.heap ++ os)[k]? = w.heap[k]?
    rw [Array.getElem?_append_left hk]⟩
theorem Gro.trans {a b c : World} (h : Gro a b) (k : Gro b c) : Gro a c := by
  obtain ⟨q, os, rfl⟩ := h
  obtain ⟨q2, os2, rfl⟩ := k
  exact ⟨q + q2, os ++ os2, by simp [Go.Sort.grow, World.drewN, Nat.add_assoc, Array.append_assoc]⟩
def cmpI (a b : Int) : Int := if a < b then -1 else if b < a then 1 else 0
theorem nanI_any (a : Int) (w : World) : Calls Tryz.prog 84 #[.int .i64 a] w fun e w' => e = .returned (.bool false) ∧ w' = w := by
  have h : (a != a) = false := by simp
  go_enter Tryz.func84, Tryz.ntmps84
  go_wp2
  go_ret
  exact ⟨rfl, rfl⟩
theorem cmpI_any (a b : Int) (w : World) : Calls Tryz.prog 71 #[.int .i64 a, .int .i64 b] w fun e w' => e = .returned (.int .i64 (cmpI a b)) ∧ w' = w := by
  by_cases h1 : a < b
  · have q : Hid (cmpI a b = -1) := by rw [Hid, cmpI, if_pos h1]
    go_enter Tryz.func71, Tryz.ntmps71
    go_wp2_with (go_at_call 84; refine (nanI_any _ _).mono ?_; rintro e V ⟨rfl, rfl⟩)
    go_ret
    exact ⟨ret_i64 q.out.symm, rfl⟩
  · by_cases h2 : b < a
    · have q : Hid (cmpI a b = 1) := by rw [Hid, cmpI, if_neg h1, if_pos h2]
      have h3 : decide (a > b) = true := by simpa using h2
      go_enter Tryz.func71, Tryz.ntmps71
      go_wp2_with (go_at_call 84; refine (nanI_any _ _).mono ?_; rintro e V ⟨rfl, rfl⟩)
      go_ret
      exact ⟨ret_i64 q.out.symm, rfl⟩
    · have q : Hid (cmpI a b = 0) := by rw [Hid, cmpI, if_neg h1, if_neg h2]
      have h3 : decide (a > b) = false := by simpa using h2
      go_enter Tryz.func71, Tryz.ntmps71
      go_wp2_with (go_at_call 84; refine (nanI_any _ _).mono ?_; rintro e V ⟨rfl, rfl⟩)
      go_ret
      exact ⟨ret_i64 q.out.symm, rfl⟩
def or3 (a b c : Int) : Int := if a = 0 then (if b = 0 then c else b) else a
theorem or3_any (a b c : Int) (B : Nat) (w : World) (h0 : w.cell? ⟨B, 0, none⟩ = some (.int .i64 a)) (h1 : w.cell? ⟨B, 1, none⟩ = some (.int .i64 b)) (h2 : w.cell? ⟨B, 2, none⟩ = some (.int .i64 c)) :
    Calls Tryz.prog 70 #[.slice (some ⟨B, 0, none⟩) 3 3] w fun e w' => e = .returned (.int .i64 (or3 a b c)) ∧ w' = w := by
  by_cases ha : a = 0
  · have ha' : (a != 0) = false := by simp [ha]
    by_cases hb : b = 0
    · have q : Hid (or3 a b c = c) := by rw [Hid, or3, if_pos ha, if_pos hb]
      have hb' : (b != 0) = false := by simp [hb]
      clear ha hb
      by_cases hc : c = 0
      · have hc' : (c != 0) = false := by simp [hc]
        have Hc := Lib.hid hc
        clear hc
        go_enter Tryz.func70, Tryz.ntmps70
        go_wp2
        go_rounds 4
        go_ret
        exact ⟨ret_i64 (by rw [q.out, Hc.out]), rfl⟩
      · have hc' : (c != 0) = true := by simpa using hc
        clear hc
        go_enter Tryz.func70, Tryz.ntmps70
        go_wp2
        go_rounds 4
        go_ret
        exact ⟨ret_i64 q.out.symm, rfl⟩
    · have q : Hid (or3 a b c = b) := by rw [Hid, or3, if_pos ha, if_neg hb]
      have hb' : (b != 0) = true := by simpa using hb
      clear ha hb
      go_enter Tryz.func70, Tryz.ntmps70
      go_wp2
      go_rounds 4
      go_ret
      exact ⟨ret_i64 q.out.symm, rfl⟩
  · have q : Hid (or3 a b c = a) := by rw [Hid, or3, if_neg ha]
    have ha' : (a != 0) = true := by simpa using ha
    clear ha
    go_enter Tryz.func70, Tryz.ntmps70
    go_wp2
    go_rounds 4
    go_ret
    exact ⟨ret_i64 q.out.symm, rfl⟩
/-- the program's comparison -/
def cmpE (a b : Entry) : Int := if befB a b then -1 else if befB b a then 1 else 0
theorem or3_cmpE (x y : Entry) : or3 (cmpI x.Minute y.Minute) (cmpI x.Room y.Room) (cmpI x.Number y.Number) = cmpE x y := by
  have e : ∀ a b : Int, (a < b ∧ cmpI a b = -1) ∨ (a = b ∧ cmpI a b = 0) ∨ (b < a ∧ cmpI a b = 1) := fun a b => by
    unfold cmpI
    by_cases h : a < b
    · exact .inl ⟨h, if_pos h⟩
    · by_cases h2 : b < a
      · exact .inr (.inr ⟨h2, by rw [if_neg h, if_pos h2]⟩)
      · exact .inr (.inl ⟨by omega, by rw [if_neg h, if_neg h2]⟩)
  have hb : ∀ a b : Entry, (a.Minute < b.Minute ∨ (a.Minute = b.Minute ∧ (a.Room < b.Room ∨ (a.Room = b.Room ∧ a.Number < b.Number)))) → befB a b = true := fun a b h => befB_iff.2 h
  have hn : ∀ a b : Entry, ¬ (a.Minute < b.Minute ∨ (a.Minute = b.Minute ∧ (a.Room < b.Room ∨ (a.Room = b.Room ∧ a.Number < b.Number)))) → befB a b = false := fun a b h => by
    cases k : befB a b
    · rfl
    · exact absurd (befB_iff.1 k) h
  rcases e x.Minute y.Minute with ⟨h1, e1⟩ | ⟨h1, e1⟩ | ⟨h1, e1⟩ <;> rcases e x.Room y.Room with ⟨h2, e2⟩ | ⟨h2, e2⟩ | ⟨h2, e2⟩ <;> rcases e x.Number y.Number with ⟨h3, e3⟩ | ⟨h3, e3⟩ | ⟨h3, e3⟩ <;> rw [e1, e2, e3] <;>
    (first | (have k1 := hb x y (by omega)) | (have k1 := hn x y (by omega))) <;> (first | (have k2 := hb y x (by omega)) | (have k2 := hn y x (by omega))) <;> unfold or3 cmpE <;> rw [k1] <;> (try rw [k2]) <;> rfl
set_option maxHeartbeats 4000000 in
theorem compareEntries_any (x y : Entry) (w : World) :
    Calls Tryz.prog 55 #[.agg #[.int .i64 x.Room, .int .i64 x.Number, .int .i64 x.Minute, .string x.Text], .agg #[.int .i64 y.Room, .int .i64 y.Number, .int .i64 y.Minute, .string y.Text]] w fun e w' => e = .returned (.int .i64 (cmpE x y)) ∧ Gro w w' := by
  go_enter Tryz.func55, Tryz.ntmps55
  go_wp2_with fail
  obtain ⟨W, hW⟩ : ∃ W, W = (w.alloc (.cells #[.int .i64 x.Room, .int .i64 x.Number, .int .i64 x.Minute, .string x.Text] 40)).alloc (.cells #[.int .i64 y.Room, .int .i64 y.Number, .int .i64 y.Minute, .string y.Text] 40) := ⟨_, rfl⟩
  rw [← hW]
  have hk : Gro w W := by rw [hW]; exact ((Gro.refl _).alloc _).alloc _
  have x0 : W.cell? ⟨w.heap.size, 0, none⟩ = some (.int .i64 x.Room) := by rw [hW]; go_simp
  have x1 : W.cell? ⟨w.heap.size, 1, none⟩ = some (.int .i64 x.Number) := by rw [hW]; go_simp
  have x2 : W.cell? ⟨w.heap.size, 2, none⟩ = some (.int .i64 x.Minute) := by rw [hW]; go_simp
  have y0 : W.cell? ⟨w.heap.size + 1, 0, none⟩ = some (.int .i64 y.Room) := by rw [hW]; go_simp
  have y1 : W.cell? ⟨w.heap.size + 1, 1, none⟩ = some (.int .i64 y.Number) := by rw [hW]; go_simp
  have y2 : W.cell? ⟨w.heap.size + 1, 2, none⟩ = some (.int .i64 y.Minute) := by rw [hW]; go_simp
  have HW := Lib.hid hW
  clear hW
  go_region_held3 (fun w' => w'.cell? ⟨w.heap.size, 0, none⟩ = some (.int .i64 x.Room) ∧ w'.cell? ⟨w.heap.size, 1, none⟩ = some (.int .i64 x.Number) ∧ w'.cell? ⟨w.heap.size, 2, none⟩ = some (.int .i64 x.Minute) ∧ w'.cell? ⟨w.heap.size + 1, 0, none⟩ = some (.int .i64 y.Room) ∧ w'.cell? ⟨w.heap.size + 1, 1, none⟩ = some (.int .i64 y.Number) ∧ w'.cell? ⟨w.heap.size + 1, 2, none⟩ = some (.int .i64 y.Minute)) (go_keep)
    (first | (go_at_call 71; refine (cmpI_any _ _ _).mono ?_; rintro e V ⟨rfl, rfl⟩) | (go_at_call 70; refine (or3_any (cmpI x.Minute y.Minute) (cmpI x.Room y.Room) (cmpI x.Number y.Number) _ _ (by go_simp) (by go_simp) (by go_simp)).mono ?_; rintro e V ⟨rfl, rfl⟩))
  all_goals
    go_wp2
    go_ret
    exact ⟨ret_i64 (or3_cmpE x y), hk.trans (by repeat' (first | exact Gro.refl _ | refine Gro.alloc ?_ _ | refine Gro.drew ?_))⟩
end Go.Proofs.YtfglmghcgoembaaGreatDoor

namespace Go.Proofs.YtfglmghcgoembaaGreatDoor
open Go.RowKit

open Go.Sort
section
variable {α : Type} [Flat α] [Inhabited α]
theorem flatK_cells (xs : List α) : (flatK (Flat.enc (α := α)) (Flat.sz α) xs.toArray).toList = cellsOf xs := by
  have hp : 0 < Flat.sz α := Flat.pos
  have hlen : (flatK (Flat.enc (α := α)) (Flat.sz α) xs.toArray).toList.length = xs.length * Flat.sz α := by rw [Array.length_toList, size_flatK]; simp
  apply List.ext_getElem?
  intro t
  by_cases ht : t < xs.length * Flat.sz α
  · have hk : t / Flat.sz α < xs.length := Nat.div_lt_of_lt_mul (by rwa [Nat.mul_comm] at ht)
    have hm : t % Flat.sz α < Flat.sz α := Nat.mod_lt _ hp
    have hx : xs[t / Flat.sz α]? = some xs[t / Flat.sz α] := List.getElem?_eq_getElem hk
    have hv : (Flat.enc xs[t / Flat.sz α])[t % Flat.sz α]? = some ((Flat.enc xs[t / Flat.sz α])[t % Flat.sz α]'(by rw [Flat.len]; exact hm)) := List.getElem?_eq_getElem _
    have h1 := cellsOf_get hx hv
    have e : t / Flat.sz α * Flat.sz α + t % Flat.sz α = t := by rw [Nat.mul_comm]; exact Nat.div_add_mod _ _
    rw [e] at h1
    rw [h1, List.getElem?_eq_getElem (by rw [hlen]; exact ht)]
    have hz : t < (flatK (Flat.enc (α := α)) (Flat.sz α) xs.toArray).size := by rw [size_flatK]; simpa using ht
    have h2 := get_flatK (Flat.enc (α := α)) (Flat.sz α) xs.toArray t (by simpa using ht)
    rw [getElem!_pos _ t hz] at h2
    rw [Array.getElem_toList, h2]
    congr 1
    rw [getElem!_pos xs.toArray (t / Flat.sz α) (by simpa using hk)]
    simp only [List.getElem_toArray]
    rw [getElem!_pos _ _ (by rw [Flat.len]; exact hm)]
  · rw [List.getElem?_eq_none (by rw [hlen]; omega), List.getElem?_eq_none (by rw [cellsOf_length]; omega)]
theorem holdsK_of_block {w : World} {g : Nat} {cur : Array Value} {e : TypeId} {xs : List α} (hb : w.heap[g]? = some (.cells cur e (0, 0))) (ht : cur.toList.take (xs.length * Flat.sz α) = cellsOf xs) :
    HoldsK (Flat.enc (α := α)) (Flat.sz α) w g 0 xs.toArray := by
  unfold HoldsK
  intro j hj
  have hj' : j < xs.length * Flat.sz α := by rw [size_flatK] at hj; simpa using hj
  refine ⟨?_, by simp [World.frozen?, hb]⟩
  have h1 : (cur.toList.take (xs.length * Flat.sz α))[j]? = (flatK (Flat.enc (α := α)) (Flat.sz α) xs.toArray).toList[j]? := by rw [ht, flatK_cells]
  rw [List.getElem?_take_of_lt hj', List.getElem?_eq_getElem (l := (flatK (Flat.enc (α := α)) (Flat.sz α) xs.toArray).toList) (by rw [Array.length_toList]; exact hj), Array.getElem_toList] at h1
  simp only [World.cell?, hb, Nat.zero_add]
  simp only [Option.isSome_none, Bool.false_eq_true, if_false]
  rw [← Array.getElem?_toList, h1, getElem!_pos _ j hj]
  rfl
theorem heap_sortedK {w : World} {g n : Nat} {os : Array Obj} {cur : Array Value} {e : TypeId} {fr : Nat × Nat} (F : Array Value) (hb : w.heap[g]? = some (.cells cur e fr)) :
    (Go.Sort.grow (putRow id (Go.Sort.ahead w n) g 0 F) os).heap[g]? = some (.cells (putCells id 0 F cur) e fr) := by
  have hg : g < w.heap.size := (Array.getElem?_eq_some_iff.1 hb).1
  rw [heap_grow_old _ _ (by simpa using hg)]
  simp [putRow, mapBlock, Go.Sort.ahead, Array.getElem?_modify, hb, onCells]
theorem grownBy_sortedK {w : World} {g n : Nat} {os : Array Obj} (F : Array Value) : w.grownBy (Go.Sort.grow (putRow id (Go.Sort.ahead w n) g 0 F) os) (some g) := by
  refine ⟨rfl, rfl, rfl, by simp, fun k hk hne => ?_⟩
  rw [heap_grow_old _ _ (by simpa using hk)]
  have : g ≠ k := fun e => hne (by rw [e])
  simp [putRow, mapBlock, Go.Sort.ahead, Array.getElem?_modify, this]
theorem take_putK (cur F : Array Value) (h : F.size ≤ cur.size) : (putCells id 0 F cur).toList.take F.size = F.toList := by
  apply List.ext_getElem?
  intro j
  by_cases hj : j < F.size
  · rw [List.getElem?_take_of_lt hj, Array.getElem?_toList, Array.getElem?_toList]
    simp [putCells, hj, show j < cur.size by omega]
  · rw [List.getElem?_take_eq_none (by omega), List.getElem?_eq_none (by simp; omega)]
/-- behind the sort the same slice owns the sorted list -/
theorem own_sortedK {w : World} {base g n c q : Nat} {e : TypeId} {os : Array Obj} {xs ys : List α} (ho : Own w base e (.slice (some ⟨g, 0, none⟩) n c) xs) (hl : ys.length = xs.length) :
    Own (Go.Sort.grow (putRowK (Flat.enc (α := α)) (Flat.sz α) (Go.Sort.ahead w q) g 0 ys.toArray) os) base e (.slice (some ⟨g, 0, none⟩) n c) ys := by
  have hn := ho.sl.1
  rcases ho.2 with ⟨hv, h0⟩ | ⟨g', cap, cur, hv, hbg, hb, h1, h2, h3, h4⟩
  · injection hv with e1 _ _; cases e1
  · injection hv with e1 e2 e3
    injection e1 with e1; injection e1 with e1 _
    subst e1 e3
    unfold Own putRowK
    have hF : (flatK (Flat.enc (α := α)) (Flat.sz α) ys.toArray).size = ys.length * Flat.sz α := by rw [size_flatK]; simp
    have hle : ys.length * Flat.sz α ≤ cur.size := by rw [h3, hl]; exact Nat.mul_le_mul_right _ h1
    refine ⟨by rw [cellsOf_length], .inr ⟨g, c, _, by rw [hl, hn], hbg, heap_sortedK _ hb, by rw [hl]; exact h1, h2, by simp [putCells, h3], ?_⟩⟩
    rw [← hF, take_putK cur _ (by rw [hF]; exact hle), flatK_cells]
end
/-- what a sort leaves is the list in order -/
theorem sorted_mg {f s : List Entry} {d' : Array Entry} (hs : Srt (mgL f s)) (hp : PermIn 0 (f ++ s).toArray.size (f ++ s).toArray d') (hq : SortedIn befB 0 (f ++ s).toArray.size d') : d'.toList = mgL f s := by
  obtain ⟨hz, _, hp⟩ := hp
  have e1 : d'.extract 0 (f ++ s).toArray.size = d' := by rw [← hz]; simp
  have e2 : (f ++ s).toArray.extract 0 (f ++ s).toArray.size = (f ++ s).toArray := by simp; exact List.take_of_length_le (by simp)
  rw [e1, e2] at hp
  refine (srt_unique hs ?_ ((mgL_perm f s).trans (by simpa using hp.symm))).symm
  rw [List.pairwise_iff_getElem]
  intro i j hi hj hij
  have hi' : i < d'.size := by simpa using hi
  have hj' : j < d'.size := by simpa using hj
  have := hq i j (Nat.zero_le _) hij (by rw [← hz]; exact hj')
  rw [getElem!_pos d' i hi', getElem!_pos d' j hj'] at this
  unfold leE
  rw [Array.getElem_toList, Array.getElem_toList, this]; rfl
theorem swoE : SWO befB where
  irrefl x := bef_irr
  trans x y z h1 h2 := bef_tr h1 h2
  ntrans x y z h1 h2 := by
    have a : leE y x = true := by unfold leE; rw [h1]; rfl
    have b : leE z y = true := by unfold leE; rw [h2]; rfl
    have c := leE_tr b a
    unfold leE at c
    cases h : befB x z
    · rfl
    · rw [h] at c; cases c
theorem lt_cmpE : Go.Proofs.ltOf cmpE = befB := by
  funext a b
  unfold Go.Proofs.ltOf cmpE
  cases h : befB a b
  · cases h2 : befB b a <;> simp
  · simp
set_option maxRecDepth 100000 in
/-- the library's sort, at entries: a slice of the call's own is put in order -/
theorem sortE_some (f s : List Entry) (g n c base : Nat) (w : World) (hn : n ≤ 1048576) (ho : Own w base 40 (.slice (some ⟨g, 0, none⟩) n c) (f ++ s)) (hs : Srt (mgL f s)) :
    Calls Tryz.prog 59 #[.slice (some ⟨g, 0, none⟩) n c, .func (.func 55) #[] #[]] w fun e w' =>
      e = .returned (.tuple #[]) ∧ Own w' base 40 (.slice (some ⟨g, 0, none⟩) n c) (mgL f s) ∧ w.grownBy w' (some g) := by
  have hl := ho.sl.1
  rcases ho.2 with ⟨hv, h0⟩ | ⟨g', cap, cur, hv, hbg, hg, h1, h2, h3, h4⟩
  · injection hv with e1 _ _; cases e1
  · injection hv with e1 e2 e3
    injection e1 with e1; injection e1 with e1 _
    subst e1 e3
    have hH := holdsK_of_block hg h4
    have hsz : (f ++ s).toArray.size = n := by simpa using hl
    have hc : Go.Proofs.CmpLays Tryz.prog 55 #[] (Flat.enc (α := Entry)) 4 cmpE g 0 (f ++ s).toArray.size w := fun _ _ _ _ x y => (compareEntries_any x y _).mono fun e w' h => h
    have h := Go.Proofs.AnyQ.slices_SortFunc Tryz.laysSortE 4 Tryz.isAgg40 Tryz.sizeOf40 (Flat.enc (α := Entry)) (fun x => Flat.len x) Flat.one cmpE (by rw [lt_cmpE]; exact swoE) 55 #[] g 0 c (f ++ s).toArray w (enters_of Tryz.func55 (by kernel_rfl) (by kernel_rfl)) hc hH (Array.getElem?_eq_some_iff.1 hg).1 (by rw [hsz]; omega)
    rw [hsz] at h
    refine h.mono fun e w' ⟨he, d', q, os, hp, hq, hw⟩ => ⟨he, ?_, ?_⟩
    · rw [lt_cmpE] at hq
      have hd := sorted_mg hs (by rw [hsz]; exact hp) (by rw [hsz]; exact hq)
      have e2 : d' = (mgL f s).toArray := by rw [← hd]
      rw [hw, e2]
      exact own_sortedK ho ((mgL_perm f s).length_eq)
    · rw [hw]; exact grownBy_sortedK _
end Go.Proofs.YtfglmghcgoembaaGreatDoor
