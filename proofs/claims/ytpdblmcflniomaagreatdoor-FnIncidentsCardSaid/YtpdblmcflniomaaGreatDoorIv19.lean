/-
  Several texts in one. No conditions.
-/
import Derived.Test.YtpdblmcflniomaaGreatDoorIv4
import Derived.Test.YtpdblmcflniomaaGreatDoorIv16
import Derived.Test.YtpdblmcflniomaaGreatDoorIv14
import Derived.Test.YtpdblmcflniomaaGreatDoorIv18
import Derived.Test.YtpdblmcflniomaaGreatDoorIv7
namespace Go.Proofs.YtpdblmcflniomaaGreatDoor
open Go.RowKit

section
variable {R α X : Type} [Flat R] [Flat α] [Deep X] {N : Nest R α X} {w w' : World} {base : Nat} {E E' : TypeId}
theorem OwnP.nil (N : Nest R α X) (w : World) (base : Nat) {E E' : TypeId} (h : E ≠ E') : OwnP N w base E E' (.slice none 0 0) [] :=
  OwnP.fresh (Own.nil _ _ _) (fun i p hp => by simp at hp) h
/-- One struct more, behind an append to the outer slice; its own slice is a new one. -/
theorem OwnP.snoc {A A' : Option Addr} {n c m c' : Nat} {ps : List (R × List α)} {r : R} {l : List α} (h : OwnP N w base E E' (.slice A n c) ps) (ho : Own w' base E (.slice A' m c') (ps.map Prod.fst ++ [r])) (hi : Own w' base E' (N.hdr r) l)
    (hf : OnlyF (Value.ownBlock (.slice A n c)).toList w w') (hb : ∀ x, (N.hdr r).ownBlock = some x → ∀ (j : Nat) q, ps[j]? = some q → (N.hdr q.1).ownBlock ≠ some x) : OwnP N w' base E E' (.slice A' m c') (ps ++ [(r, l)]) := by
  have hold : ∀ (i : Nat) p, (ps ++ [(r, l)])[i]? = some p → ps[i]? = some p ∨ (i = ps.length ∧ p = (r, l)) := fun i p hp => by
    rcases Nat.lt_or_ge i ps.length with hi' | hi'
    · rw [List.getElem?_append_left hi'] at hp; exact .inl hp
    · rw [List.getElem?_append_right hi'] at hp
      have h0 : i - ps.length < 1 := (List.getElem?_eq_some_iff.1 hp).1
      have h1 : i = ps.length := by omega
      subst h1
      rw [Nat.sub_self] at hp
      exact .inr ⟨rfl, by simpa using hp.symm⟩
  refine ⟨by rw [List.map_append]; exact ho, fun i p hp => ?_, fun i j p q hij hp hq x hx hx' => ?_, h.ne⟩
  · rcases hold i p hp with hp' | ⟨_, rfl⟩
    · refine (h.inn i p hp').only hf (fun y hy hm => ?_)
      exact h.sep (k := y) (by simpa using hm) hp' (by simpa using hy)
    · exact hi
  · rcases hold i p hp with hp' | ⟨e1, rfl⟩
    · rcases hold j q hq with hq' | ⟨e2, rfl⟩
      · exact h.apart i j p q hij hp' hq' x hx hx'
      · exact hb x hx' i p hp' hx
    · rcases hold j q hq with hq' | ⟨e2, rfl⟩
      · exact hb x hx j q hq' hx'
      · omega
/-- A call hands back such a slice and a bool. -/
def RetOwnX2 (N : Nest R α X) (w : World) (E E' : TypeId) (r : List X × Bool) (e : Ending) (w' : World) : Prop :=
  ∃ A c F, e = .returned (.tuple #[.slice A r.1.length c, .bool r.2]) ∧ OwnX N w' w.heap.size E E' (.slice A r.1.length c) r.1 F ∧ Below w.heap.size w w'
theorem retOwnX2_mk {A : Option Addr} {n c : Nat} {ps : List (R × List α)} {xs : List X} {b : Bool} {r : List X × Bool} (hr : r = (xs, b)) (hp : N.plain ps = xs) (ho : OwnP N w' w.heap.size E E' (.slice A n c) ps) (hb : Below w.heap.size w w') : RetOwnX2 N w E E' r (.returned (.tuple #[.slice A n c, .bool b])) w' := by
  subst hr; subst hp
  have hl : (N.plain ps).length = n := ho.sl.1
  subst hl
  exact ⟨A, c, _, rfl, ho.x, hb⟩
theorem retOwnX2_nil (hE : E ≠ E') {r : List X × Bool} {b : Bool} (hr : r = ([], b)) (hb : Below w.heap.size w w') : RetOwnX2 N w E E' r (.returned (.tuple #[.slice none 0 0, .bool b])) w' :=
  retOwnX2_mk hr rfl (OwnP.nil N w' _ hE) hb
/-- .. with a number between. -/
def RetOwnX3 (N : Nest R α X) (w : World) (E E' : TypeId) (r : List X × Int × Bool) (e : Ending) (w' : World) : Prop :=
  ∃ A c F, e = .returned (.tuple #[.slice A r.1.length c, .int .i64 r.2.1, .bool r.2.2]) ∧ OwnX N w' w.heap.size E E' (.slice A r.1.length c) r.1 F ∧ Below w.heap.size w w'
theorem retOwnX3_mk {A : Option Addr} {n c : Nat} {ps : List (R × List α)} {xs : List X} {b : Bool} {k : Int} {r : List X × Int × Bool} (hr : r = (xs, k, b)) (hp : N.plain ps = xs) (ho : OwnP N w' w.heap.size E E' (.slice A n c) ps) (hb : Below w.heap.size w w') : RetOwnX3 N w E E' r (.returned (.tuple #[.slice A n c, .int .i64 k, .bool b])) w' := by
  subst hr; subst hp
  have hl : (N.plain ps).length = n := ho.sl.1
  subst hl
  exact ⟨A, c, _, rfl, ho.x, hb⟩
theorem retOwnX3_nil (hE : E ≠ E') {r : List X × Int × Bool} {b : Bool} {k : Int} (hr : r = ([], k, b)) (hb : Below w.heap.size w w') : RetOwnX3 N w E E' r (.returned (.tuple #[.slice none 0 0, .int .i64 k, .bool b])) w' :=
  retOwnX3_mk hr rfl (OwnP.nil N w' _ hE) hb
end

end Go.Proofs.YtpdblmcflniomaaGreatDoor

namespace Go.Proofs.YtpdblmcflniomaaGreatDoor
open Go.RowKit

theorem opF_len (xs : List Incident) (node : Int) : (opF xs node).1.length ≤ 1048576 ∧ ((opF xs node).1.length : Int) + sumIncident (opF xs node).1 ≤ 1048576 := by
  cases h : (incsB xs && inB node 0 13 && (decide (xs.length < 8) && decide (newN xs ≤ 999))) with
  | false => rw [opF_no h]; exact len_nil
  | true =>
    rw [opF_yes h]
    simp only [Bool.and_eq_true] at h
    have hv := incs_iff.1 h.1.1
    refine len_of (by have := hv.len; simp; omega) (fun x hx => ?_)
    rcases List.mem_append.1 hx with hx | hx
    · exact vi_names hv x hx
    · rw [List.mem_singleton.1 hx]; exact Nat.zero_le _

end Go.Proofs.YtpdblmcflniomaaGreatDoor

namespace Go.Proofs.YtpdblmcflniomaaGreatDoor
open Go.RowKit

theorem inc_ne : 32 ≠ 9 := by decide
theorem el_inc : Elem Tryz.prog 24 32 (Flat.sz IncidentR) := elem_mk Tryz.underlying24 (by kernel_rfl)
/-- one more incident without names -/
theorem snoc_nil {V w' : World} {base m : Nat} {A A' : Option Addr} {n c c' : Nat} {ps : List (IncidentR × List ByteArray)} {num node : Int} {cl : Bool} {o : Obj} (hp : OwnP incidentN V base 32 9 (.slice A n c) ps)
    (ho : Own w' base 32 (.slice A' m c') (ps.map Prod.fst ++ [⟨num, node, cl, none, 0, 0⟩])) (hg : (V.alloc o).grownBy w' (Value.ownBlock (.slice A n c))) :
    ∃ F, OwnX incidentN w' base 32 9 (.slice A' m c') (incidentN.plain ps ++ [⟨num, node, cl, []⟩]) F := by
  have h := OwnP.snoc (l := []) hp ho (Own.nil _ _ _) ((OnlyF.below (bl_alloc (bl_refl V) o)).trans (OnlyF.of_gb hg)) (fun x hx => by cases hx)
  exact ⟨_, _, by unfold Nest.plain; rw [List.map_append]; rfl, rfl, h⟩
/-- one more incident with one name -/
theorem snoc_one {V w' : World} {base m : Nat} {A A' : Option Addr} {n c c' : Nat} {ps : List (IncidentR × List ByteArray)} {num node : Int} {cl : Bool} {s : ByteArray} {o : Obj} (hp : OwnP incidentN V base 32 9 (.slice A n c) ps) (hb : base ≤ V.heap.size)
    (ho : Own w' base 32 (.slice A' m c') (ps.map Prod.fst ++ [⟨num, node, cl, some ⟨V.heap.size, 0, none⟩, 1, 1⟩])) (hg : ((V.alloc (.cells #[.string s] 9)).alloc o).grownBy w' (Value.ownBlock (.slice A n c))) :
    ∃ F, OwnX incidentN w' base 32 9 (.slice A' m c') (incidentN.plain ps ++ [⟨num, node, cl, [s]⟩]) F := by
  have hl : ∀ x, x ∈ (Value.ownBlock (.slice A n c)).toList → x < V.heap.size := fun x hx => (hp.out.lt x (by simpa using hx)).2
  have hi : Own w' base 9 (.slice (some ⟨V.heap.size, 0, none⟩) 1 1) [s] :=
    (((Own.lit1 (α := ByteArray) V 9 hb s).alloc o).grown hg) (.inr (fun e => by
      have := hl V.heap.size (by rw [← e]; simp [Value.ownBlock])
      omega))
  have h := OwnP.snoc (l := [s]) hp ho hi ((OnlyF.below (bl_alloc (bl_alloc (bl_refl V) _) o)).trans (OnlyF.of_gb hg)) (fun x hx j q hq e => by
    have hx' : x = V.heap.size := by simpa [incidentN, Value.ownBlock] using hx.symm
    have := ((hp.inn j q hq).lt x e).2
    omega)
  exact ⟨_, _, by unfold Nest.plain; rw [List.map_append]; rfl, rfl, h⟩
theorem op_small {xs ys : List Incident} {node k : Int} (h : opF xs node = (ys, k, true)) : incsB ys = true ∧ ys.length = xs.length + 1 := by
  cases hc : (incsB xs && inB node 0 13 && (decide (xs.length < 8) && decide (newN xs ≤ 999))) with
  | false => rw [opF_no hc] at h; cases h
  | true =>
    rw [opF_yes hc] at h
    injection h with h1 _
    subst h1
    simp only [Bool.and_eq_true] at hc
    refine ⟨?_, by simp⟩
    rw [open_good (incs_iff.1 hc.1.1) hc.1.2, hc.2.1, hc.2.2]; rfl
theorem cm_small {xs ys : List Incident} {number : Int} {s : ByteArray} (h : cmF xs number s = (ys, true)) : incsB ys = true ∧ ys.length = xs.length := by
  refine ⟨(commit_law h).2.2.2.1, ?_⟩
  cases hc : (incsB xs && nameB s && decide (0 ≤ openI xs number) && decide (atB xs s < 0) && decide ((nth xs (openI xs number).toNat).Names.length < 12)) with
  | false => rw [cmF_no hc] at h; cases h
  | true =>
    unfold cmF at h
    rw [if_pos hc] at h
    injection h with h1 _
    rw [← h1, List.length_set]
theorem cl_small {xs : List Incident} {j : Nat} (h : incsB xs = true) (hj : j < xs.length) : incsB (xs.set j (clX (nth xs j))) = true := incs_iff.2 (clL_vi (incs_iff.1 h) hj)
theorem incs_small {xs : List Incident} (h : incsB xs = true) : xs.length ≤ 8 ∧ ∀ x, x ∈ xs → x.Names.length ≤ 12 ∧ ∀ y, y ∈ x.Names → y.size ≤ 7 := by
  have hv := incs_iff.1 h
  refine ⟨hv.len, fun x hx => ?_⟩
  obtain ⟨k, hk, rfl⟩ := List.getElem_of_mem hx
  rw [nth_ge hk]
  have h1 := hv.one k hk
  exact ⟨incB_len h1, fun y hy => by have := nameB_size (allNm_iff.1 (incB_split h1).2.2.2.2 y hy); omega⟩
/-- what a drawn list keeps -/
def SmI (xs : List Incident) : Prop := ∀ x, x ∈ xs → x.Names.length ≤ 12 ∧ ∀ y, y ∈ x.Names → y.size ≤ 7
theorem SmI.snoc {xs : List Incident} {x : Incident} (h : SmI xs) (h1 : x.Names.length ≤ 12) (h2 : ∀ y, y ∈ x.Names → y.size ≤ 7) : SmI (xs ++ [x]) := fun z hz => by
  rcases List.mem_append.1 hz with hz | hz
  · exact h z hz
  · rw [List.mem_singleton.1 hz]; exact ⟨h1, h2⟩
set_option maxRecDepth 100000 in
set_option maxHeartbeats 8000000 in
theorem applianceName_any (g : Nat) (N : Int) (w : World) (hc : Cur w g N) (hN : N ≤ 900000000) :
    Calls Tryz.prog 74 #[.pointer (some ⟨g, 0, none⟩)] w fun e w' => ∃ x : ByteArray, e = .returned (.string x) ∧ x.size ≤ 7 ∧ Cur w' g (N + 4) ∧ OnlyF [g] w w' := by
  have lg0 := hc.lt
  go_enter Tryz.func74, Tryz.ntmps74
  go_wp2_with fail
  refine (of_any g _ _ _ _ [⟨#[112, 49]⟩, ⟨#[122, 122]⟩, ⟨#[]⟩, ⟨#[49, 112]⟩] _ (hc.below (by repeat' (first | exact bl_refl _ | refine bl_alloc ?_ _ | refine bl_drew ?_ | refine bl_set ?_ (by simp; try omega) _))) (by omega) (by exact sl_lit' (by simp) rfl rfl) (by omega) (by omega) (by rintro b o h _; injection h with h; injection h with h1; omega)).mono ?_
  rintro e V1 ⟨x1, rfl, hx1, hc1, hf1⟩
  have lg1 : g < V1.heap.size := hc1.lt
  have hF1 : OnlyF [g] w V1 := (OnlyF.below (a := w) (by repeat' (first | exact bl_refl _ | refine bl_alloc ?_ _ | refine bl_drew ?_ | refine bl_set ?_ (by simp; try omega) _))).trans hf1
  have hz1 : x1.size ≤ 7 := by simp only [List.mem_cons, List.not_mem_nil, or_false] at hx1; rcases hx1 with rfl | rfl | rfl | rfl <;> decide
  clear hx1
  go_wp2_with fail
  refine (of_any g _ _ _ _ [⟨#[112, 49]⟩, ⟨#[112, 49]⟩, ⟨#[112, 50]⟩, ⟨#[112, 51]⟩, ⟨#[100, 49]⟩, ⟨#[114, 49]⟩, ⟨#[116, 49]⟩, ⟨#[116, 50]⟩, x1] _ (hc1.below (by repeat' (first | exact bl_refl _ | refine bl_alloc ?_ _ | refine bl_drew ?_ | refine bl_set ?_ (by simp; try omega) _))) (by omega) (by exact sl_lit' (by simp) rfl rfl) (by omega) (by omega) (by rintro b o h _; injection h with h; injection h with h1; omega)).mono ?_
  rintro e V2 ⟨x2, rfl, hx2, hc2, hf2⟩
  have lg2 : g < V2.heap.size := hc2.lt
  have hF2 : OnlyF [g] w V2 := hF1.trans ((OnlyF.below (a := V1) (by repeat' (first | exact bl_refl _ | refine bl_alloc ?_ _ | refine bl_drew ?_ | refine bl_set ?_ (by simp; try omega) _))).trans hf2)
  have hz2 : x2.size ≤ 7 := by simp only [List.mem_cons, List.not_mem_nil, or_false] at hx2; rcases hx2 with rfl | rfl | rfl | rfl | rfl | rfl | rfl | rfl | rfl <;> first | exact hz1 | decide
  clear hx2
  go_wp2
  go_ret
  exact ⟨x2, rfl, hz2, hc2.mono (by omega), hF2⟩
set_option maxRecDepth 100000 in
set_option maxHeartbeats 8000000 in
theorem numberOf_any (g : Nat) (N : Int) (base : Nat) (xs : List Incident) (A : Option Addr) (n c : Nat) (F : List Nat) (w : World) (hc : Cur w g N) (hN : N ≤ 900000000) (ho : OwnX incidentN w base 32 9 (.slice A n c) xs F) (hg : g < base) (hn : n ≤ 1000) :
    Calls Tryz.prog 42 #[.pointer (some ⟨g, 0, none⟩), .slice A n c] w fun e w' => ∃ x : Int, e = .returned (.int .i64 x) ∧ Cur w' g (N + 6) ∧ OnlyF [g] w w' := by
  have lg0 := hc.lt
  have hlF := ho.lies
  by_cases h0 : 0 < n
  · have hd : decide (0 < n) = true := decide_eq_true h0
    have hd2 : (0 : Int) < n := by omega
    go_enter Tryz.func42, Tryz.ntmps42
    go_wp2_with fail
    refine (one_any g _ 8 _ hc (by omega) (by omega)).mono ?_
    rintro e V1 ⟨b, rfl, hc1, hf1⟩
    have ho1 := ho.only hf1 (fun k hk hm => by have := (hlF k hk).1; have := List.mem_singleton.1 hm; omega)
    have hlF1 := ho1.lies
    cases b
    · go_wp2_with fail
      refine (pick_any g _ (n : Int) _ hc1 (by omega) (by omega)).mono ?_
      rintro e V2 ⟨q, rfl, hq, hc2, hf2⟩
      have ho2 := ho1.only hf2 (fun k hk hm => by have := (hlF1 k hk).1; have := List.mem_singleton.1 hm; omega)
      obtain ⟨q, rfl⟩ := Int.eq_ofNat_of_zero_le hq.1
      have hqn : q < n := by have := hq.2 (by omega); omega
      have hqd : (q : Int) < n := by omega
      obtain ⟨b, o, A', c', rfl, hbz, d0, d1, d2, d3, _⟩ := ho2.sl.incident hqn
      clear hq ho ho1 ho2 d1 d2 d3
      go_wp2
      go_ret
      exact ⟨_, rfl, hc2.mono (by omega), hf1.trans hf2⟩
    · go_wp2_with fail
      refine (among_any g _ _ _ _ [0, 1, 2, 999, 1000] _ (hc1.below (by repeat' (first | exact bl_refl _ | refine bl_alloc ?_ _ | refine bl_drew ?_ | refine bl_set ?_ (by simp; try omega) _))) (by omega) (by exact sl_lit' (by simp) rfl rfl) (by omega) (by omega) (by rintro b o h _; injection h with h; injection h with h1; (try simp at h1); (first | omega | (have := hc1.lt; omega) | (have := hc.lt; omega)))).mono ?_
      rintro e V2 ⟨x, rfl, _, hc2, hf2⟩
      go_wp2
      go_ret
      exact ⟨x, rfl, hc2.mono (by omega), hf1.trans ((OnlyF.below (by repeat' (first | exact bl_refl _ | refine bl_alloc ?_ _ | refine bl_drew ?_ | refine bl_set ?_ (by simp; try omega) _))).trans hf2)⟩
  · have hd : decide (0 < n) = false := decide_eq_false h0
    have hd2 : ¬ (0 : Int) < n := by omega
    obtain rfl : n = 0 := by omega
    go_enter Tryz.func42, Tryz.ntmps42
    go_wp2_with fail
    refine (among_any g _ _ _ _ [0, 1, 2, 999, 1000] _ (hc.below (by repeat' (first | exact bl_refl _ | refine bl_alloc ?_ _ | refine bl_drew ?_ | refine bl_set ?_ (by simp; try omega) _))) (by omega) (by exact sl_lit' (by simp) rfl rfl) (by omega) (by omega) (by rintro b o h _; injection h with h; injection h with h1; (try simp at h1); (first | omega | (have := hc1.lt; omega) | (have := hc.lt; omega)))).mono ?_
    rintro e V2 ⟨x, rfl, _, hc2, hf2⟩
    go_wp2
    go_ret
    exact ⟨x, rfl, hc2.mono (by omega), (OnlyF.below (by repeat' (first | exact bl_refl _ | refine bl_alloc ?_ _ | refine bl_drew ?_ | refine bl_set ?_ (by simp; try omega) _))).trans hf2⟩

end Go.Proofs.YtpdblmcflniomaaGreatDoor
