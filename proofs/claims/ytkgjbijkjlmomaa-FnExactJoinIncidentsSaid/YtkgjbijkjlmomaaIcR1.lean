/-
  ReleaseFrom: the program's answer. No conditions.
-/
import Derived.Test.YtkgjbijkjlmomaaIcS
import Derived.Test.YtkgjbijkjlmomaaIcO
import Derived.Test.YtkgjbijkjlmomaaIncM
namespace Go.Proofs.Ytkgjbijkjlmomaa
open Go.RowKit

theorem sl_strI {w : World} {b o : Nat} {s : ByteArray} (h : w.cell? ⟨b, o, none⟩ = some (.string s)) : Sl w (some ⟨b, o, none⟩) 1 [s] :=
  ⟨rfl, fun k x hx => by
    have hk : k = 0 := by have := (List.getElem?_eq_some_iff.1 hx).1; simpa using this
    subst hk
    have hx' : s = x := by simpa using hx
    subst hx'
    refine ⟨b, o, [.string s], rfl, rfl, fun j v hv => ?_⟩
    have hj : j = 0 := by have := (List.getElem?_eq_some_iff.1 hv).1; simpa using this
    subst hj
    have hv' : Value.string s = v := by simpa using hv
    subst hv'; simpa using h⟩
theorem own_blk {A : Option Addr} {n m c d : Nat} : Value.ownBlock (.slice A n c) = Value.ownBlock (.slice A m d) := by cases A <;> rfl
theorem own_mem {A : Option Addr} {n m c y : Nat} (h : y ∈ (Value.ownBlock (.slice A m c)).toList) : Value.ownBlock (.slice A n c) = some y := by
  have h1 : Value.ownBlock (.slice A m c) = some y := by simpa only [Option.mem_toList, Option.mem_def] using h
  exact own_blk.trans h1
theorem enters_rm : Enters Try.prog 81 := enters_of Try.func81 (by kernel_rfl) (by kernel_rfl)
theorem pred_rm (w : World) (F : List Nat) (B : Nat) (s : ByteArray) (hF : ∀ k, k ∈ F → k < B) (ha : w.cell? ⟨B, 0, none⟩ = some (.string s)) (xs : List ByteArray) : Pred Try.prog w F xs 81 (fun x : ByteArray => Value.string x) #[.pointer (some ⟨B, 0, none⟩)] (fun x => x.toList == s.toList) := by
  intro W x _ hof
  have ha' := hof.keeps ha (fun hm => by have := hF _ hm; simp only [] at this; omega)
  have hz : B < W.heap.size := World.block_lt_of_cell? W _ ha'
  clear ha hof
  show Calls _ _ #[.string x, .pointer (some ⟨B, 0, none⟩)] W _
  go_enter Try.func81, Try.ntmps81
  go_wp2
  go_ret
  exact ⟨rfl, bl_refl _⟩
set_option maxRecDepth 100000 in
set_option maxHeartbeats 4000000 in
theorem remove_any (g o : Nat) (s : ByteArray) (A : Option Addr) (n c base : Nat) (l : List ByteArray) (w : World) (hn : n ≤ 1048576) (hc3 : w.cell? ⟨g, o + 3, none⟩ = some (.slice A n c)) (hf3 : w.frozen? ⟨g, o + 3, none⟩ = false) (ho : Own w base 9 (.slice A n c) l) (hg : ∀ x, Value.ownBlock (.slice A n c) = some x → x ≠ g) :
    Calls Try.prog 55 #[.pointer (some ⟨g, o, none⟩), .string s] w fun e w' => ∃ m V, e = .returned (.tuple #[]) ∧ w' = V.setCell ⟨g, o + 3, none⟩ (.slice A m c) ∧ Own V base 9 (.slice A m c) (dropS l s) ∧ m ≤ n ∧ OnlyF (Value.ownBlock (.slice A n c)).toList w V := by
  have hgz : g < w.heap.size := World.block_lt_of_cell? w _ hc3
  have hlt : ∀ k, k ∈ (Value.ownBlock (.slice A n c)).toList → k < w.heap.size := fun k hk => (ho.lt k (by simpa using hk)).2
  have HG : Hid (∀ k, k ∈ (Value.ownBlock (.slice A n c)).toList → k ≠ g) := fun k hk => hg k (by simpa using hk)
  have HO := Lib.hid ho
  have HLT := Lib.hid hlt
  clear hg hlt ho
  go_enter Try.func55, Try.ntmps55
  go_wp2_with fail
  refine (deleteFunc_str l _ _ _ base _ _ (fun x => x.toList == s.toList) _ hn (HO.out.alloc _) enters_rm (pred_rm _ _ w.heap.size s HLT.out (by go_simp) l)).mono ?_
  rintro e V ⟨m, rfl, ho2, hm, hof⟩
  have hof1 : OnlyF (Value.ownBlock (.slice A n c)).toList w V := (OnlyF.alloc (OnlyF.refl _ _) _).trans hof
  have y3 := hof1.keeps hc3 (fun hm' => HG.out _ hm' rfl)
  have f3 := (hof1.frozen (p := ⟨g, o + 3, none⟩) hgz (fun hm' => HG.out _ hm' rfl)).trans hf3
  have hgV : g < V.heap.size := World.block_lt_of_cell? V _ y3
  have HO2 := Lib.hid ho2
  have HOF := Lib.hid hof1
  clear hof hof1 ho2 hc3 hf3
  go_wp2
  go_end0
  exact ⟨m, V, rfl, rfl, HO2.out, hm, HOF.out⟩
set_option maxRecDepth 100000 in
set_option maxHeartbeats 4000000 in
theorem implReleaseFrom_any (xs : List Incident) (number : Int) (nm : ByteArray) (A : Option Addr) (n c : Nat) (w : World) (hz : nm.size ≤ maxLen) (hn : n ≤ 1048576) (hc : n ≤ c) (hs : Sl w A n xs) (hv : ∀ x, x ∈ xs → ∀ y, y ∈ x.Names → y.size ≤ maxLen) (hin : ∀ x, x ∈ xs → x.Names.length ≤ 1048576) :
    Calls Try.prog 20 #[.slice A n c, .int .i64 number, .string nm] w (RetOwnX2 incidentN w 56 9 (rlF xs number nm)) := by
  have HV := Lib.hid hv
  have HIN := Lib.hid hin
  have HL := Lib.hid hs.1
  have hn' : (n : Int) ≤ 9223372036854775807 := by omega
  clear hv hin
  go_enter Try.func20, Try.ntmps20
  have hk0 := bl_refl w
  go_wp2_with fail
  refine (openAt_any xs number _ _ _ _ hn' hs).mono ?_
  rintro e V1 ⟨rfl, hb1⟩
  have hB1 := bl_trans (a := w) (bl_refl _) hb1
  have hk1 := bl_trans hk0 hB1
  have z1 := Lib.hid hB1.size
  have hge := indexF_range (isO number) xs
  obtain ⟨i, hi⟩ : ∃ i, i = openI xs number := ⟨_, rfl⟩
  have hge2 : -1 ≤ i ∧ i < xs.length := by rw [hi]; exact hge
  rw [← hi]
  have hi' := Lib.hid hi
  clear hi hge
  go_wp2_with fail
  refine (areIncidents_any xs _ _ _ _ hn' hc (hs.below hk1) HV.out).mono ?_
  rintro e V2 ⟨rfl, hb2⟩
  have hB2 := bl_trans (a := V1) (bl_refl _) hb2
  have hk2 := bl_trans hk1 hB2
  have z2 := Lib.hid hB2.size
  clear hk1
  cases h0 : incsB xs
  · have Hz := Lib.hid (rlF_no (xs := xs) (number := number) (s := nm) (by rw [h0]; first | done | simp))
    clear h0
    go_wp2
    go_ret2
    exact retOwnX2_nil (by decide) Hz.out hk2
  have H0 := Lib.hid h0
  clear h0
  by_cases h8 : i < 0
  · have hd : decide (i < 0) = true := by simpa using h8
    have Hz := Lib.hid (rlF_no (xs := xs) (number := number) (s := nm) (by rw [← hi'.out, decide_eq_false (by omega : ¬ 0 ≤ i)]; simp))
    go_wp2
    go_ret2
    exact retOwnX2_nil (by decide) Hz.out hk2
  have hd : decide (i < 0) = false := by simpa using h8
  obtain ⟨j, rfl⟩ := Int.eq_ofNat_of_zero_le (by omega : 0 ≤ i)
  have hjx : j < xs.length := by omega
  clear hge2 h8
  go_wp2_with fail
  refine (isName_any nm _ hz).mono ?_
  rintro e V3 ⟨rfl, hb3⟩
  have hB3 := bl_trans (a := V2) (bl_refl _) hb3
  have hk3 := bl_trans hk2 hB3
  have z3 := Lib.hid hB3.size
  clear hk2
  cases h1 : nameB nm
  · have Hz := Lib.hid (rlF_no (xs := xs) (number := number) (s := nm) (by rw [h1]; first | done | simp))
    clear h1
    go_wp2
    go_ret2
    exact retOwnX2_nil (by decide) Hz.out hk3
  have H1 := Lib.hid h1
  clear h1
  go_wp2_with fail
  refine (committedAt_any xs nm _ _ _ _ hn' (hs.below hk3)).mono ?_
  rintro e V4 ⟨rfl, hb4⟩
  have hB4 := bl_trans (a := V3) (bl_refl _) hb4
  have hk4 := bl_trans hk3 hB4
  have z4 := Lib.hid hB4.size
  clear hk3
  obtain ⟨q, hq⟩ : ∃ q, q = atB xs nm := ⟨_, rfl⟩
  rw [← hq]
  by_cases h9 : q = (j : Int)
  rotate_left
  · have hd2 : (q != (j : Int)) = true := by simpa [bne] using h9
    have Hz := Lib.hid (rlF_no (xs := xs) (number := number) (s := nm) (by rw [← hi'.out, ← hq, decide_eq_false h9]; simp))
    clear hq h9
    go_wp2
    go_ret2
    exact retOwnX2_nil (by decide) Hz.out hk4
  have hd2 : (q != (j : Int)) = false := by simp [bne, h9]
  have Hz := Lib.hid (rlF_yes H0.out H1.out hi'.out.symm (hq.symm.trans h9))
  have hxn : xs.length ≤ 1048576 := by rw [HL.out]; exact hn
  clear hq h9
  go_wp2_with fail
  refine (copyIncidents_any xs _ _ _ _ hn (hs.below hk4) HIN.out).mono ?_
  rintro e V5 ⟨A_c, c_c, F_c, rfl, ho_c, hb5⟩
  have hB5 := bl_trans (a := V4) (bl_refl _) hb5
  have hk5 := bl_trans hk4 hB5
  have z5 := Lib.hid hB5.size
  clear hk4
  obtain ⟨ps, hp, _, hop⟩ := ho_c
  obtain ⟨g, rfl⟩ := hop.out.form (by omega : 0 < xs.length)
  have hjl : j < ps.length := by rw [hop.len]; exact hjx
  obtain ⟨p, hpq⟩ : ∃ p, ps[j]? = some p := ⟨_, List.getElem?_eq_getElem hjl⟩
  have he : nth (ps.map Prod.fst) j = p.1 := nth_get (by rw [List.getElem?_map, hpq]; rfl)
  have hx : Hid (nth xs j = incidentN.of p.1 p.2) := nth_get (by rw [← hp]; unfold Nest.plain; rw [List.getElem?_map, hpq]; rfl)
  have hjc : xs.length ≤ c_c := hop.out.cap.1
  have hjI : (j : Int) < xs.length := by omega
  have hj0 : (0 : Int) ≤ j := by omega
  have HW := Lib.hid hk5
  have d3 : V5.cell? ⟨g, j * 4 + 3, none⟩ = some (.slice (nth (ps.map Prod.fst) j).A (nth (ps.map Prod.fst) j).n (nth (ps.map Prod.fst) j).c) := hop.out.cellAt hjx 3 _ rfl
  have f3 := hop.out.frozenAt (j * 4 + 3)
  rw [he] at d3
  have hin := hop.inn j p hpq
  have hpn : p.2.length = p.1.n := hin.sl.1
  have hpnn : p.1.n ≤ 1048576 := by rw [← hpn]; have := HIN.out _ (nth_mem hjx); rw [hx.out] at this; exact this
  have hsep : ∀ y, (.slice p.1.A p.1.n p.1.c : Value).ownBlock = some y → y ≠ g := fun y hy hyg => hop.sep (k := g) rfl hpq (by rw [← hyg]; exact hy)
  have HOP := Lib.hid hop
  have HSEP := Lib.hid hsep
  have HIN2 := Lib.hid hin
  clear hop hsep hin hs hpn
  go_wp2_with fail
  refine (remove_any g (j * 4) nm p.1.A p.1.n p.1.c w.heap.size p.2 _ hpnn d3 f3 (HIN2.out.mono (by have := z1.out; have := z2.out; have := z3.out; have := z4.out; have := z5.out; omega)) HSEP.out).mono ?_
  rintro e V9 ⟨m, V8, rfl, rfl, ho8, hm8, hof8⟩
  have hg8 : OnlyF (g :: (.slice p.1.A p.1.n p.1.c : Value).ownBlock.toList) V5 (V8.setCell ⟨g, j * 4 + 3, none⟩ (.slice p.1.A m p.1.c)) := OnlyF.set (hof8.mono (fun y hy => List.mem_cons_of_mem _ hy)) List.mem_cons_self _
  have hown8 : Own V8 w.heap.size 56 (.slice (some ⟨g, 0, none⟩) xs.length c_c) (ps.map Prod.fst) := (HOP.out.out.mono (by have := z1.out; have := z2.out; have := z3.out; have := z4.out; have := z5.out; omega)).only hof8 (fun y hy hm' => HSEP.out y (by simpa using hm') (by simpa [Value.ownBlock] using hy))
  have h2 : Own (V8.setCell ⟨g, j * 4 + 3, none⟩ (.slice p.1.A m p.1.c)) w.heap.size 56 (.slice (some ⟨g, 0, none⟩) xs.length c_c) ((ps.map Prod.fst).set j (⟨p.1.Number, p.1.Node, p.1.Closed, p.1.A, m, p.1.c⟩ : IncidentR)) := by
    have hh := hown8.put1 hjx 3 (by decide) (y := (⟨p.1.Number, p.1.Node, p.1.Closed, p.1.A, m, p.1.c⟩ : IncidentR)) (v := .slice p.1.A m p.1.c) (by rw [he]; rfl)
    exact hh
  have ho9 : Own (V8.setCell ⟨g, j * 4 + 3, none⟩ (.slice p.1.A m p.1.c)) w.heap.size 9 (.slice p.1.A m p.1.c) (dropS p.2 nm) := ho8.only (OnlyF.set (OnlyF.refl _ _) (List.mem_singleton.2 rfl) _) (fun y hy hm' => HSEP.out y (own_mem hy) (List.mem_singleton.1 hm'))
  have hup := (HOP.out.mono (b := w.heap.size) (by have := z1.out; have := z2.out; have := z3.out; have := z4.out; have := z5.out; omega)).upd (p' := ((⟨p.1.Number, p.1.Node, p.1.Closed, p.1.A, m, p.1.c⟩ : IncidentR), dropS p.2 nm)) hpq h2 ho9 (fun x hx => .inl ((own_blk (A := p.1.A) (n := p.1.n) (m := m) (c := p.1.c) (d := p.1.c)).trans hx)) hg8
  have hlg := HOP.out.lies
  skip
  have hbk : Below w.heap.size w (V8.setCell ⟨g, j * 4 + 3, none⟩ (.slice p.1.A m p.1.c)) := by
    have hb8 := below_only HW.out hof8 (fun y hy => HIN2.out.lt y (own_mem hy)) (by have := z1.out; have := z2.out; have := z3.out; have := z4.out; have := z5.out; omega)
    exact bl_set hb8 (by have := (HOP.out.out.lt g rfl).1; simp only []; have := z1.out; have := z2.out; have := z3.out; have := z4.out; have := z5.out; omega) _
  have HUP := Lib.hid hup
  clear hg8 hown8 h2 ho9 hup hof8 ho8 d3 f3
  go_wp2
  go_ret2
  refine retOwnX2_mk Hz.out ?_ HUP.out hbk
  unfold Nest.plain at hp ⊢; rw [List.map_set, hp, hx.out]; rfl

end Go.Proofs.Ytkgjbijkjlmomaa
