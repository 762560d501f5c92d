/-
  Pieces moved, by the program. No conditions.
-/
import Derived.Test.YtokcgjjnljflaaaMvB
import Derived.Test.YtokcgjjnljflaaaLibTD
import Derived.Test.YtokcgjjnljflaaaLibTB
namespace Go.Proofs.Ytokcgjjnljflaaa
open Go.RowKit

/-- what the search tells of the place -/
theorem place_of {xs : List Thing} {y : Thing} {i : Nat} (hi : i ≤ xs.length) (h : (∀ j, j < i → cmpT (nth xs j) y < 0) ∧ (∀ j, i ≤ j → j < xs.length → 0 ≤ cmpT (nth xs j) y)) : leT xs y.Name i ∧ hitT xs y.Name i = (decide (i < xs.length) && decide (cmpT (nth xs i) y = 0)) := by
  have key : ∀ x : Thing, (cmpT x y < 0 ↔ Op.bytesLess x.Name.toList y.Name.toList = true) ∧ (cmpT x y = 0 ↔ (x.Name.toList == y.Name.toList) = true) := fun x => by
    have e1 : x.Name.data.toList = x.Name.toList := by rw [Lib.toList_data]
    have e2 : y.Name.data.toList = y.Name.toList := by rw [Lib.toList_data]
    unfold cmpT
    rw [cmpBytes_eq, e1, e2]
    cases h1 : Op.bytesLess x.Name.toList y.Name.toList with
    | true =>
      refine ⟨by simp, ?_⟩
      have hne : ¬ x.Name.toList = y.Name.toList := fun e => by rw [e, bl_irr] at h1; cases h1
      simp [hne]
    | false =>
      cases h2 : Op.bytesLess y.Name.toList x.Name.toList with
      | true =>
        have hne : ¬ x.Name.toList = y.Name.toList := fun e => by rw [e, bl_irr] at h2; cases h2
        simp [hne]
      | false =>
        have := bl_tot h1 h2
        simp [this]
  refine ⟨⟨hi, fun j hj => (key _).1.1 (h.1 j hj), fun hlt => ?_⟩, ?_⟩
  · cases hb : Op.bytesLess (nth xs i).Name.toList y.Name.toList with
    | false => rfl
    | true => have h1 := (key _).1.2 hb; have h2 := h.2 i (Nat.le_refl _) hlt; omega
  · unfold hitT
    congr 1
    cases hb : ((nth xs i).Name.toList == y.Name.toList) with
    | true => exact (decide_eq_true ((key _).2.2 hb)).symm
    | false => exact (decide_eq_false (fun e => by rw [(key _).2.1 e] at hb; cases hb)).symm
theorem cmpT_mono {xs : List Thing} {y : Thing} (hr : Rises Thing.Name xs) : ∀ a b, a ≤ b → b < xs.length → cmpT (nth xs b) y < 0 → cmpT (nth xs a) y < 0 := fun a b hab hb h => by
  rcases Nat.lt_or_ge a b with h1 | h1
  · have h2 := hr a b h1 hb
    have e1 : ∀ x : Thing, cmpT x y < 0 ↔ Op.bytesLess x.Name.toList y.Name.toList = true := fun x => by
      have e1 : x.Name.data.toList = x.Name.toList := by rw [Lib.toList_data]
      have e2 : y.Name.data.toList = y.Name.toList := by rw [Lib.toList_data]
      unfold cmpT
      rw [cmpBytes_eq, e1, e2]
      split
      · rename_i h; simp [h]
      · rename_i h; split <;> simp [h]
    exact (e1 _).2 (bl_tr h2 ((e1 _).1 h))
  · have : a = b := by omega
    subst this; exact h
theorem cut_set {α : Type} (xs : List α) (k : Nat) (y : α) : (xs.set k y).take k ++ (xs.set k y).drop (k + 1) = xs.take k ++ xs.drop (k + 1) := by
  rw [List.take_set_of_le (Nat.le_refl _), List.drop_set_of_lt (Nat.lt_succ_self _)]
/-- behind the taking: two loads, the piece that is moved in a variable of its own -/
structure Mv2 (w : World) (N : Nat) (E : TypeId) (s u : ByteArray) (cs ys : List Thing) (nm : ByteArray) (q dy : Int) (ga gb mb g c1 : Nat) (B1 : Option Addr) (d1 : Nat) (wx : World) : Prop where
  bw : Below w.heap.size w wx
  ba : BoxL wx ga s (some ⟨g, 0, none⟩) cs.length c1
  bb : BoxL wx gb u B1 ys.length d1
  br : BoxL wx (w.heap.size + 2) ⟨#[]⟩ none 0 0
  bt : BoxL wx (w.heap.size + 3) ⟨#[]⟩ none 0 0
  m0 : wx.cell? ⟨mb, 0, none⟩ = some (.string nm)
  m1 : wx.cell? ⟨mb, 1, none⟩ = some (.int .i64 q)
  m2 : wx.cell? ⟨mb, 2, none⟩ = some (.int .i64 dy)
  oa : Own wx N E (.slice (some ⟨g, 0, none⟩) cs.length c1) cs
  ob : Own wx N E (.slice B1 ys.length d1) ys
/-- behind the putting -/
structure Mv3 (w : World) (N : Nat) (E : TypeId) (s u : ByteArray) (cs bs : List Thing) (ga gb g c1 : Nat) (B2 : Option Addr) (d2 : Nat) (wx : World) : Prop where
  bw : Below w.heap.size w wx
  ba : BoxL wx ga s (some ⟨g, 0, none⟩) cs.length c1
  bb : BoxL wx gb u B2 bs.length d2
  br : BoxL wx (w.heap.size + 2) ⟨#[]⟩ none 0 0
  bt : BoxL wx (w.heap.size + 3) ⟨#[]⟩ none 0 0
  oa : Own wx N E (.slice (some ⟨g, 0, none⟩) cs.length c1) cs
  ob : Own wx N E (.slice B2 bs.length d2) bs
  ap : Value.ownBlock (.slice B2 bs.length d2) ≠ some g ∧ Value.ownBlock (.slice B2 bs.length d2) ≠ some ga ∧ Value.ownBlock (.slice B2 bs.length d2) ≠ some gb
def Mv3P (w : World) (N : Nat) (E : TypeId) (s u : ByteArray) (cs bs : List Thing) (ga gb g c1 : Nat) (wx : World) : Prop := ∃ (B2 : Option Addr) (d2 : Nat), Mv3 w N E s u cs bs ga gb g c1 B2 d2 wx
theorem ba_extM {a b : ByteArray} (h : a.data.toList = b.data.toList) : a = b := by
  cases a; cases b; simp only [ByteArray.mk.injEq]; exact Array.toList_inj.1 h
theorem putY_min {ys : List Thing} {nm : ByteArray} {q dy : Int} {i : Nat} (h : (nth ys i).Name = nm) : (⟨(nth ys i).Name, (nth ys i).Count + q, min (nth ys i).Day dy⟩ : Thing) = putY ys ⟨nm, q, dy⟩ i := by
  unfold putY lessI
  rw [h, Int.add_comm, Int.min_def]
  congr 1
  show (if (nth ys i).Day ≤ dy then (nth ys i).Day else dy) = if dy < (nth ys i).Day then dy else (nth ys i).Day
  split <;> split <;> omega
theorem ex_hide {Q : Exit → Act → World → Prop} {e : Exit} {a : Act} {w : World} {R : World → Prop} (hR : R w) (h : ∀ V, R V → Q e a V) : Q e a w := h w hR
theorem form_of {α : Type} [Flat α] {w : World} {base n c : Nat} {E : TypeId} {A : Option Addr} {xs : List α} (h : Own w base E (.slice A n c) xs) (hn : 0 < n) : ∃ g, A = some ⟨g, 0, none⟩ := h.form hn
set_option maxRecDepth 100000 in
set_option maxHeartbeats 8000000 in
theorem moveThing_any (s u : ByteArray) (xs ys : List Thing) (nm : ByteArray) (q : Int) (A B : Option Addr) (n c m d : Nat) (w : World) (hn : n ≤ 1048576) (hm : m ≤ 1048576) (_hc : n ≤ c) (_hcm : (c : Int) ≤ 9223372036854775807) (_hd : m ≤ d) (_hdm : (d : Int) ≤ 9223372036854775807) (hs : Sl w A n xs) (ht : Sl w B m ys) (hx : loadB s xs = true) (hy : loadB u ys = true) (hq : 1 ≤ q ∧ q ≤ 99) (_hz : s.size ≤ maxLen) (hz' : u.size ≤ maxLen) (hv : ∀ x, x ∈ xs → x.Name.size ≤ maxLen) (hv' : ∀ x, x ∈ ys → x.Name.size ≤ maxLen) (hnm : nm.size ≤ maxLen) :
    Calls Try.prog 33 #[.agg #[.string s, .slice A n c], .agg #[.string u, .slice B m d], .string nm, .int .i64 q] w (RetLoad3 w 59 (mvF ⟨s, xs⟩ ⟨u, ys⟩ nm q)) := by
  have HL := Lib.hid hs.1
  have HM := Lib.hid ht.1
  have hX := Lib.hid (loadB_things hx)
  have hY := Lib.hid (loadB_things hy)
  have HV := Lib.hid hv'
  have HVx := Lib.hid hv
  have hlx := thingsB_len hX.out
  have hly := thingsB_len hY.out
  have hn12 : n ≤ 12 := by have := HL.out; omega
  have hm12 : m ≤ 12 := by have := HM.out; omega
  clear hx hy hv hv'
  go_enter Try.func33, Try.ntmps33
  go_wp2_with fail
  refine (countOf_any xs _ _ _ nm _ (by omega) (hs.below (by repeat' (first | assumption | exact bl_refl _ | refine bl_alloc ?_ _ | refine bl_drew ?_ | refine bl_set ?_ (by simp only []; omega) _)))).mono ?_
  rintro e V0 ⟨rfl, hb1⟩
  have BP : BoxL V0 w.heap.size s A n c := BoxL.below ⟨by go_simp, by go_simp, by go_simp, by go_simp⟩ hb1
  have BQ : BoxL V0 (w.heap.size + 1) u B m d := BoxL.below ⟨by go_simp, by go_simp, by go_simp, by go_simp⟩ hb1
  have BR : BoxL V0 (w.heap.size + 2) ⟨#[]⟩ none 0 0 := BoxL.below ⟨by go_simp, by go_simp, by go_simp, by go_simp⟩ hb1
  have BT : BoxL V0 (w.heap.size + 3) ⟨#[]⟩ none 0 0 := BoxL.below ⟨by go_simp, by go_simp, by go_simp, by go_simp⟩ hb1
  have hk0 : Below w.heap.size w V0 := bl_trans (by repeat' (first | assumption | exact bl_refl _ | refine bl_alloc ?_ _ | refine bl_drew ?_ | refine bl_set ?_ (by simp only []; omega) _)) hb1
  clear hb1
  obtain ⟨bp0, bp1, fp0, fp1⟩ := id BP
  obtain ⟨bq0, bq1, fq0, fq1⟩ := id BQ
  by_cases hfew : countF xs nm < q
  · have hd1 : decide (countF xs nm < q) = true := decide_eq_true hfew
    have HZ : Hid (mvF ⟨s, xs⟩ ⟨u, ys⟩ nm q = no3) := mvF_few hfew
    obtain ⟨br0, br1, fr0, fr1⟩ := id BR
    obtain ⟨bt0, bt1, ft0, ft1⟩ := id BT
    go_wp2
    refine bodyPost_ret (by simp [results, Try.results33, go_sem, br0, br1, bt0, bt1]; try rfl) rfl ?_
    exact retLoad3_mk HZ.out rfl rfl (Own.nil _ _ _) (Own.nil _ _ _) (fun k h => by simp [Value.ownBlock] at h) (by repeat' (first | with_reducible exact hk0 | refine bl_alloc ?_ _ | refine bl_drew ?_ | refine bl_set ?_ (by simp only []; omega) _))
  have hd1 : decide (countF xs nm < q) = false := decide_eq_false hfew
  have HN : Hid (¬ countF (⟨s, xs⟩ : Load).Things nm < q) := hfew
  obtain ⟨k, hk⟩ : ∃ k : Nat, indexF (nmT nm) xs = k := by
    refine Classical.byContradiction (fun h => hfew ?_)
    rw [count_few (fun k hk => h ⟨k, hk⟩)]; omega
  have HK := Lib.hid hk
  have hkx := index_at hk
  have hkn : k < n := by have := HL.out; omega
  have hct := count_in hX.out hkx
  have hqc : q ≤ (nth xs k).Count := by have := countF_at hk; omega
  clear hk
  go_upto_region 3 with fail
  clear hd1 hfew
  go_cut [11, 12] (fun s11 s12 wx => TwoP V0 59 s u xs ys s11 s12 wx)
  case first =>
    clear HK hkx hkn hct hqc HN hX hY HV HVx HL HM hlx hly BR BT BP BQ
    go_region_held3 (fun w' => w'.cell? ⟨w.heap.size, 0, none⟩ = some (.string s) ∧ w'.cell? ⟨w.heap.size, 1, none⟩ = some (.slice A n c) ∧ w'.cell? ⟨w.heap.size + 1, 0, none⟩ = some (.string u) ∧ w'.cell? ⟨w.heap.size + 1, 1, none⟩ = some (.slice B m d)) (refine ⟨cell_later (?_ : Below V0.heap.size V0 _) bp0, cell_later (?_ : Below V0.heap.size V0 _) bp1, cell_later (?_ : Below V0.heap.size V0 _) bq0, cell_later (?_ : Below V0.heap.size V0 _) bq1⟩ <;> (repeat' (first | assumption | exact bl_refl _ | refine bl_alloc ?_ _ | refine bl_drew ?_ | refine bl_set ?_ ?_ _ | exact Nat.le_refl _ | exact hEa.size | exact hEb.size | exact Nat.le_succ _ | exact Nat.le_trans hEa.size (Nat.le_succ _) | exact Nat.le_trans hEb.size (Nat.le_succ _)))) (first | ((fail_if_success (have hEz := hEa)); go_at_call 56; refine (copyLoad_any s xs A n c _ hn ?_).mono ?_; (focus (refine hs.below (bl_trans hk0 ?_); (repeat' (first | exact bl_refl _ | refine bl_alloc ?_ _ | refine bl_drew ?_)); done)); rintro e V1 ⟨A1, c1', rfl, oa, hba⟩; refine haveFirst (p := Below V0.heap.size V0 V1) ?_ (fun hEa => ?_); (focus (exact bl_trans (a := V0) (by repeat' (first | exact bl_refl _ | refine bl_alloc ?_ _ | refine bl_drew ?_)) hba)); refine haveFirst (p := BoxL V1 (V0.heap.size) ⟨#[]⟩ none 0 0) ?_ (fun Z1 => ?_); (focus (refine BoxL.below ?_ hba; refine ⟨?_, ?_, ?_, ?_⟩; (focus (go_simp; done)); (focus (go_simp; done)); (focus (go_simp; done)); (focus (go_simp; done)))); refine haveFirst (p := BoxL V1 (V0.heap.size + 1) ⟨#[]⟩ none 0 0) ?_ (fun Z2 => ?_); (focus (refine BoxL.below ?_ hba; refine ⟨?_, ?_, ?_, ?_⟩; (focus (go_simp; done)); (focus (go_simp; done)); (focus (go_simp; done)); (focus (go_simp; done)))); have e0 := cell_later hEa bp0; have e1 := cell_later hEa bp1; have e2 := cell_later hEa bq0; have e3 := cell_later hEa bq1; refine haveFirst (p := V0.heap.size + 2 ≤ V1.heap.size) (Nat.le_trans ?_ hba.size) (fun sa => ?_); (focus (first | (simp; done) | (simp; omega))); refine haveFirst (p := Hid (∀ k, Value.ownBlock (.slice A1 xs.length c1') = some k → V0.heap.size + 2 ≤ k ∧ k < V1.heap.size)) (fun k hk => ⟨Nat.le_trans ?_ (oa.lt k hk).1, (oa.lt k hk).2⟩) (fun HIa => ?_); (focus (first | (simp; done) | (simp; omega))); have oa : Own V1 V0.heap.size 59 (.slice A1 xs.length c1') xs := oa.mono (by first | (simp; done) | (simp; omega) | omega)) | ((fail_if_success (have hEz := hEa)); go_at_call 56; refine (copyLoad_any s xs A n c _ hn ?_).mono ?_; (focus (refine hs.below (bl_trans hk0 ?_); (repeat' (first | exact bl_refl _ | refine bl_alloc ?_ _ | refine bl_drew ?_)); done)); rintro e V1 ⟨A1, c1', rfl, oa, hba⟩; refine haveFirst (p := Below V0.heap.size V0 V1) ?_ (fun hEa => ?_); (focus (exact bl_trans (a := V0) (by repeat' (first | exact bl_refl _ | refine bl_alloc ?_ _ | refine bl_drew ?_)) hba)); refine haveFirst (p := BoxL V1 (V0.heap.size) ⟨#[]⟩ none 0 0) ?_ (fun Z1 => ?_); (focus (refine BoxL.below ?_ hba; refine ⟨?_, ?_, ?_, ?_⟩; (focus (go_simp; done)); (focus (go_simp; done)); (focus (go_simp; done)); (focus (go_simp; done)))); have e0 := cell_later hEa bp0; have e1 := cell_later hEa bp1; have e2 := cell_later hEa bq0; have e3 := cell_later hEa bq1; refine haveFirst (p := V0.heap.size + 1 ≤ V1.heap.size) (Nat.le_trans ?_ hba.size) (fun sa => ?_); (focus (first | (simp; done) | (simp; omega))); refine haveFirst (p := Hid (∀ k, Value.ownBlock (.slice A1 xs.length c1') = some k → V0.heap.size + 1 ≤ k ∧ k < V1.heap.size)) (fun k hk => ⟨Nat.le_trans ?_ (oa.lt k hk).1, (oa.lt k hk).2⟩) (fun HIa => ?_); (focus (first | (simp; done) | (simp; omega))); have oa : Own V1 V0.heap.size 59 (.slice A1 xs.length c1') xs := oa.mono (by first | (simp; done) | (simp; omega) | omega)) | ((fail_if_success (have hEz := hEa)); go_at_call 56; refine (copyLoad_any s xs A n c _ hn ?_).mono ?_; (focus (refine hs.below (bl_trans hk0 ?_); (repeat' (first | exact bl_refl _ | refine bl_alloc ?_ _ | refine bl_drew ?_)); done)); rintro e V1 ⟨A1, c1', rfl, oa, hba⟩; refine haveFirst (p := Below V0.heap.size V0 V1) ?_ (fun hEa => ?_); (focus (exact bl_trans (a := V0) (by repeat' (first | exact bl_refl _ | refine bl_alloc ?_ _ | refine bl_drew ?_)) hba)); have e0 := cell_later hEa bp0; have e1 := cell_later hEa bp1; have e2 := cell_later hEa bq0; have e3 := cell_later hEa bq1; refine haveFirst (p := V0.heap.size + 0 ≤ V1.heap.size) (Nat.le_trans ?_ hba.size) (fun sa => ?_); (focus (first | (simp; done) | (simp; omega))); refine haveFirst (p := Hid (∀ k, Value.ownBlock (.slice A1 xs.length c1') = some k → V0.heap.size + 0 ≤ k ∧ k < V1.heap.size)) (fun k hk => ⟨Nat.le_trans ?_ (oa.lt k hk).1, (oa.lt k hk).2⟩) (fun HIa => ?_); (focus (first | (simp; done) | (simp; omega))); have oa : Own V1 V0.heap.size 59 (.slice A1 xs.length c1') xs := oa.mono (by first | (simp; done) | (simp; omega) | omega)) | (have hEz := hEa; have Zx1 := Z1; have Zx2 := Z2; go_at_call 56; refine (copyLoad_any u ys B m d _ hm ?_).mono ?_; (focus (refine ht.below (bl_trans hk0 ?_); (repeat' (first | exact hEa | refine bl_alloc ?_ _ | refine bl_drew ?_)); done)); rintro e V2 ⟨B1, d1, rfl, ob, hbb⟩; refine haveFirst (p := Below V0.heap.size V0 V2) ?_ (fun hEb => ?_); (focus (exact bl_trans (a := V0) (by repeat' (first | exact hEa | refine bl_alloc ?_ _ | refine bl_drew ?_)) hbb)); have Z1 := Z1.below (bl_trans (a := V1) (by repeat' (first | exact bl_refl _ | refine bl_alloc ?_ _ | refine bl_drew ?_)) hbb); have Z2 := Z2.below (bl_trans (a := V1) (by repeat' (first | exact bl_refl _ | refine bl_alloc ?_ _ | refine bl_drew ?_)) hbb); have f0 := cell_later hEb bp0; have f1 := cell_later hEb bp1; have f2 := cell_later hEb bq0; have f3 := cell_later hEb bq1; refine haveFirst (p := V1.heap.size + 0 ≤ V2.heap.size) (Nat.le_trans ?_ hbb.size) (fun sb => ?_); (focus (first | (simp; done) | (simp; omega))); refine haveFirst (p := Hid (∀ k, Value.ownBlock (.slice B1 ys.length d1) = some k → V1.heap.size + 0 ≤ k ∧ k < V2.heap.size)) (fun k hk => ⟨Nat.le_trans ?_ (ob.lt k hk).1, (ob.lt k hk).2⟩) (fun HIb => ?_); (focus (first | (simp; done) | (simp; omega))); have ob : Own V2 V0.heap.size 59 (.slice B1 ys.length d1) ys := ob.mono (by have := hEa.size; simp; omega); have oa := oa.below (bl_trans (a := V1) (by repeat' (first | exact bl_refl _ | refine bl_alloc ?_ _ | refine bl_drew ?_)) hbb); obtain ⟨z10, z11, zf10, zf11⟩ := id Z1; obtain ⟨z20, z21, zf20, zf21⟩ := id Z2; have y1 := Z1.lt; have y2 := Z2.lt; have ba : V0.heap.size ≤ V0.heap.size := (by omega); have bb : V0.heap.size ≤ V0.heap.size + 1 := (by omega); have n12 : V0.heap.size ≠ V0.heap.size + 1 := (by omega); have n21 : V0.heap.size + 1 ≠ V0.heap.size := (by omega); have HA : Hid (∀ k, Value.ownBlock (.slice A1 xs.length c1') = some k → k ≠ V0.heap.size ∧ k ≠ V0.heap.size + 1 ∧ Value.ownBlock (.slice B1 ys.length d1) ≠ some k) := (fun k hk => by have h1 := HIa.out k hk; refine ⟨by omega, by omega, fun h2 => ?_⟩; have h3 := HIb.out k h2; omega); have HB : Hid (∀ k, Value.ownBlock (.slice B1 ys.length d1) = some k → k ≠ V0.heap.size ∧ k ≠ V0.heap.size + 1) := (fun k hk => by have h1 := HIb.out k hk; exact ⟨by omega, by omega⟩); have pa : Value.ownBlock (.slice A1 xs.length c1') ≠ some (V0.heap.size) := (fun h => (HA.out _ h).1 rfl); have pa' : Value.ownBlock (.slice A1 xs.length c1') ≠ some (V0.heap.size + 1) := (fun h => (HA.out _ h).2.1 rfl); have pb : Value.ownBlock (.slice B1 ys.length d1) ≠ some (V0.heap.size) := (fun h => (HB.out _ h).1 rfl); have pb' : Value.ownBlock (.slice B1 ys.length d1) ≠ some (V0.heap.size + 1) := (fun h => (HB.out _ h).2 rfl)) | (have hEz := hEa; have Zx1 := Z1; (fail_if_success (have Zx2 := Z2)); go_at_call 56; refine (copyLoad_any u ys B m d _ hm ?_).mono ?_; (focus (refine ht.below (bl_trans hk0 ?_); (repeat' (first | exact hEa | refine bl_alloc ?_ _ | refine bl_drew ?_)); done)); rintro e V2 ⟨B1, d1, rfl, ob, hbb⟩; refine haveFirst (p := Below V0.heap.size V0 V2) ?_ (fun hEb => ?_); (focus (exact bl_trans (a := V0) (by repeat' (first | exact hEa | refine bl_alloc ?_ _ | refine bl_drew ?_)) hbb)); have Z1 := Z1.below (bl_trans (a := V1) (by repeat' (first | exact bl_refl _ | refine bl_alloc ?_ _ | refine bl_drew ?_)) hbb); refine haveFirst (p := BoxL V2 (V1.heap.size) ⟨#[]⟩ none 0 0) ?_ (fun Z2 => ?_); (focus (refine BoxL.below ?_ hbb; refine ⟨?_, ?_, ?_, ?_⟩; (focus (go_simp; done)); (focus (go_simp; done)); (focus (go_simp; done)); (focus (go_simp; done)))); have f0 := cell_later hEb bp0; have f1 := cell_later hEb bp1; have f2 := cell_later hEb bq0; have f3 := cell_later hEb bq1; refine haveFirst (p := V1.heap.size + 1 ≤ V2.heap.size) (Nat.le_trans ?_ hbb.size) (fun sb => ?_); (focus (first | (simp; done) | (simp; omega))); refine haveFirst (p := Hid (∀ k, Value.ownBlock (.slice B1 ys.length d1) = some k → V1.heap.size + 1 ≤ k ∧ k < V2.heap.size)) (fun k hk => ⟨Nat.le_trans ?_ (ob.lt k hk).1, (ob.lt k hk).2⟩) (fun HIb => ?_); (focus (first | (simp; done) | (simp; omega))); have ob : Own V2 V0.heap.size 59 (.slice B1 ys.length d1) ys := ob.mono (by have := hEa.size; simp; omega); have oa := oa.below (bl_trans (a := V1) (by repeat' (first | exact bl_refl _ | refine bl_alloc ?_ _ | refine bl_drew ?_)) hbb); obtain ⟨z10, z11, zf10, zf11⟩ := id Z1; obtain ⟨z20, z21, zf20, zf21⟩ := id Z2; have y1 := Z1.lt; have y2 := Z2.lt; have ba : V0.heap.size ≤ V0.heap.size := (by omega); have bb : V0.heap.size ≤ V1.heap.size := (by omega); have n12 : V0.heap.size ≠ V1.heap.size := (by omega); have n21 : V1.heap.size ≠ V0.heap.size := (by omega); have HA : Hid (∀ k, Value.ownBlock (.slice A1 xs.length c1') = some k → k ≠ V0.heap.size ∧ k ≠ V1.heap.size ∧ Value.ownBlock (.slice B1 ys.length d1) ≠ some k) := (fun k hk => by have h1 := HIa.out k hk; refine ⟨by omega, by omega, fun h2 => ?_⟩; have h3 := HIb.out k h2; omega); have HB : Hid (∀ k, Value.ownBlock (.slice B1 ys.length d1) = some k → k ≠ V0.heap.size ∧ k ≠ V1.heap.size) := (fun k hk => by have h1 := HIb.out k hk; exact ⟨by omega, by omega⟩); have pa : Value.ownBlock (.slice A1 xs.length c1') ≠ some (V0.heap.size) := (fun h => (HA.out _ h).1 rfl); have pa' : Value.ownBlock (.slice A1 xs.length c1') ≠ some (V1.heap.size) := (fun h => (HA.out _ h).2.1 rfl); have pb : Value.ownBlock (.slice B1 ys.length d1) ≠ some (V0.heap.size) := (fun h => (HB.out _ h).1 rfl); have pb' : Value.ownBlock (.slice B1 ys.length d1) ≠ some (V1.heap.size) := (fun h => (HB.out _ h).2 rfl)) | (have hEz := hEa; have Zx1 := Z1; (fail_if_success (have Zx2 := Z2)); go_at_call 56; refine (copyLoad_any u ys B m d _ hm ?_).mono ?_; (focus (refine ht.below (bl_trans hk0 ?_); (repeat' (first | exact hEa | refine bl_alloc ?_ _ | refine bl_drew ?_)); done)); rintro e V2 ⟨B1, d1, rfl, ob, hbb⟩; refine haveFirst (p := Below V0.heap.size V0 V2) ?_ (fun hEb => ?_); (focus (exact bl_trans (a := V0) (by repeat' (first | exact hEa | refine bl_alloc ?_ _ | refine bl_drew ?_)) hbb)); have Z1 := Z1.below (bl_trans (a := V1) (by repeat' (first | exact bl_refl _ | refine bl_alloc ?_ _ | refine bl_drew ?_)) hbb); have f0 := cell_later hEb bp0; have f1 := cell_later hEb bp1; have f2 := cell_later hEb bq0; have f3 := cell_later hEb bq1; refine haveFirst (p := V1.heap.size + 0 ≤ V2.heap.size) (Nat.le_trans ?_ hbb.size) (fun sb => ?_); (focus (first | (simp; done) | (simp; omega))); refine haveFirst (p := Hid (∀ k, Value.ownBlock (.slice B1 ys.length d1) = some k → V1.heap.size + 0 ≤ k ∧ k < V2.heap.size)) (fun k hk => ⟨Nat.le_trans ?_ (ob.lt k hk).1, (ob.lt k hk).2⟩) (fun HIb => ?_); (focus (first | (simp; done) | (simp; omega))); have ob : Own V2 V0.heap.size 59 (.slice B1 ys.length d1) ys := ob.mono (by have := hEa.size; simp; omega); have oa := oa.below (bl_trans (a := V1) (by repeat' (first | exact bl_refl _ | refine bl_alloc ?_ _ | refine bl_drew ?_)) hbb); obtain ⟨z10, z11, zf10, zf11⟩ := id Z1; have y1 := Z1.lt; have ba : V0.heap.size ≤ V0.heap.size := (by omega); have bb : V0.heap.size ≤ V2.heap.size := (by omega); have n12 : V0.heap.size ≠ V2.heap.size := (by omega); have n21 : V2.heap.size ≠ V0.heap.size := (by omega); have HA : Hid (∀ k, Value.ownBlock (.slice A1 xs.length c1') = some k → k ≠ V0.heap.size ∧ k ≠ V2.heap.size ∧ Value.ownBlock (.slice B1 ys.length d1) ≠ some k) := (fun k hk => by have h1 := HIa.out k hk; refine ⟨by omega, by omega, fun h2 => ?_⟩; have h3 := HIb.out k h2; omega); have HB : Hid (∀ k, Value.ownBlock (.slice B1 ys.length d1) = some k → k ≠ V0.heap.size ∧ k ≠ V2.heap.size) := (fun k hk => by have h1 := HIb.out k hk; exact ⟨by omega, by omega⟩); have pa : Value.ownBlock (.slice A1 xs.length c1') ≠ some (V0.heap.size) := (fun h => (HA.out _ h).1 rfl); have pa' : Value.ownBlock (.slice A1 xs.length c1') ≠ some (V2.heap.size) := (fun h => (HA.out _ h).2.1 rfl); have pb : Value.ownBlock (.slice B1 ys.length d1) ≠ some (V0.heap.size) := (fun h => (HB.out _ h).1 rfl); have pb' : Value.ownBlock (.slice B1 ys.length d1) ≠ some (V2.heap.size) := (fun h => (HB.out _ h).2 rfl)) | (have hEz := hEa; (fail_if_success (have Zx1 := Z1)); (fail_if_success (have Zx2 := Z2)); go_at_call 56; refine (copyLoad_any u ys B m d _ hm ?_).mono ?_; (focus (refine ht.below (bl_trans hk0 ?_); (repeat' (first | exact hEa | refine bl_alloc ?_ _ | refine bl_drew ?_)); done)); rintro e V2 ⟨B1, d1, rfl, ob, hbb⟩; refine haveFirst (p := Below V0.heap.size V0 V2) ?_ (fun hEb => ?_); (focus (exact bl_trans (a := V0) (by repeat' (first | exact hEa | refine bl_alloc ?_ _ | refine bl_drew ?_)) hbb)); refine haveFirst (p := BoxL V2 (V1.heap.size) ⟨#[]⟩ none 0 0) ?_ (fun Z1 => ?_); (focus (refine BoxL.below ?_ hbb; refine ⟨?_, ?_, ?_, ?_⟩; (focus (go_simp; done)); (focus (go_simp; done)); (focus (go_simp; done)); (focus (go_simp; done)))); refine haveFirst (p := BoxL V2 (V1.heap.size + 1) ⟨#[]⟩ none 0 0) ?_ (fun Z2 => ?_); (focus (refine BoxL.below ?_ hbb; refine ⟨?_, ?_, ?_, ?_⟩; (focus (go_simp; done)); (focus (go_simp; done)); (focus (go_simp; done)); (focus (go_simp; done)))); have f0 := cell_later hEb bp0; have f1 := cell_later hEb bp1; have f2 := cell_later hEb bq0; have f3 := cell_later hEb bq1; refine haveFirst (p := V1.heap.size + 2 ≤ V2.heap.size) (Nat.le_trans ?_ hbb.size) (fun sb => ?_); (focus (first | (simp; done) | (simp; omega))); refine haveFirst (p := Hid (∀ k, Value.ownBlock (.slice B1 ys.length d1) = some k → V1.heap.size + 2 ≤ k ∧ k < V2.heap.size)) (fun k hk => ⟨Nat.le_trans ?_ (ob.lt k hk).1, (ob.lt k hk).2⟩) (fun HIb => ?_); (focus (first | (simp; done) | (simp; omega))); have ob : Own V2 V0.heap.size 59 (.slice B1 ys.length d1) ys := ob.mono (by have := hEa.size; simp; omega); have oa := oa.below (bl_trans (a := V1) (by repeat' (first | exact bl_refl _ | refine bl_alloc ?_ _ | refine bl_drew ?_)) hbb); obtain ⟨z10, z11, zf10, zf11⟩ := id Z1; obtain ⟨z20, z21, zf20, zf21⟩ := id Z2; have y1 := Z1.lt; have y2 := Z2.lt; have ba : V0.heap.size ≤ V1.heap.size := (by omega); have bb : V0.heap.size ≤ V1.heap.size + 1 := (by omega); have n12 : V1.heap.size ≠ V1.heap.size + 1 := (by omega); have n21 : V1.heap.size + 1 ≠ V1.heap.size := (by omega); have HA : Hid (∀ k, Value.ownBlock (.slice A1 xs.length c1') = some k → k ≠ V1.heap.size ∧ k ≠ V1.heap.size + 1 ∧ Value.ownBlock (.slice B1 ys.length d1) ≠ some k) := (fun k hk => by have h1 := HIa.out k hk; refine ⟨by omega, by omega, fun h2 => ?_⟩; have h3 := HIb.out k h2; omega); have HB : Hid (∀ k, Value.ownBlock (.slice B1 ys.length d1) = some k → k ≠ V1.heap.size ∧ k ≠ V1.heap.size + 1) := (fun k hk => by have h1 := HIb.out k hk; exact ⟨by omega, by omega⟩); have pa : Value.ownBlock (.slice A1 xs.length c1') ≠ some (V1.heap.size) := (fun h => (HA.out _ h).1 rfl); have pa' : Value.ownBlock (.slice A1 xs.length c1') ≠ some (V1.heap.size + 1) := (fun h => (HA.out _ h).2.1 rfl); have pb : Value.ownBlock (.slice B1 ys.length d1) ≠ some (V1.heap.size) := (fun h => (HB.out _ h).1 rfl); have pb' : Value.ownBlock (.slice B1 ys.length d1) ≠ some (V1.heap.size + 1) := (fun h => (HB.out _ h).2 rfl)) | (have hEz := hEa; (fail_if_success (have Zx1 := Z1)); (fail_if_success (have Zx2 := Z2)); go_at_call 56; refine (copyLoad_any u ys B m d _ hm ?_).mono ?_; (focus (refine ht.below (bl_trans hk0 ?_); (repeat' (first | exact hEa | refine bl_alloc ?_ _ | refine bl_drew ?_)); done)); rintro e V2 ⟨B1, d1, rfl, ob, hbb⟩; refine haveFirst (p := Below V0.heap.size V0 V2) ?_ (fun hEb => ?_); (focus (exact bl_trans (a := V0) (by repeat' (first | exact hEa | refine bl_alloc ?_ _ | refine bl_drew ?_)) hbb)); refine haveFirst (p := BoxL V2 (V1.heap.size) ⟨#[]⟩ none 0 0) ?_ (fun Z1 => ?_); (focus (refine BoxL.below ?_ hbb; refine ⟨?_, ?_, ?_, ?_⟩; (focus (go_simp; done)); (focus (go_simp; done)); (focus (go_simp; done)); (focus (go_simp; done)))); have f0 := cell_later hEb bp0; have f1 := cell_later hEb bp1; have f2 := cell_later hEb bq0; have f3 := cell_later hEb bq1; refine haveFirst (p := V1.heap.size + 1 ≤ V2.heap.size) (Nat.le_trans ?_ hbb.size) (fun sb => ?_); (focus (first | (simp; done) | (simp; omega))); refine haveFirst (p := Hid (∀ k, Value.ownBlock (.slice B1 ys.length d1) = some k → V1.heap.size + 1 ≤ k ∧ k < V2.heap.size)) (fun k hk => ⟨Nat.le_trans ?_ (ob.lt k hk).1, (ob.lt k hk).2⟩) (fun HIb => ?_); (focus (first | (simp; done) | (simp; omega))); have ob : Own V2 V0.heap.size 59 (.slice B1 ys.length d1) ys := ob.mono (by have := hEa.size; simp; omega); have oa := oa.below (bl_trans (a := V1) (by repeat' (first | exact bl_refl _ | refine bl_alloc ?_ _ | refine bl_drew ?_)) hbb); obtain ⟨z10, z11, zf10, zf11⟩ := id Z1; have y1 := Z1.lt; have ba : V0.heap.size ≤ V1.heap.size := (by omega); have bb : V0.heap.size ≤ V2.heap.size := (by omega); have n12 : V1.heap.size ≠ V2.heap.size := (by omega); have n21 : V2.heap.size ≠ V1.heap.size := (by omega); have HA : Hid (∀ k, Value.ownBlock (.slice A1 xs.length c1') = some k → k ≠ V1.heap.size ∧ k ≠ V2.heap.size ∧ Value.ownBlock (.slice B1 ys.length d1) ≠ some k) := (fun k hk => by have h1 := HIa.out k hk; refine ⟨by omega, by omega, fun h2 => ?_⟩; have h3 := HIb.out k h2; omega); have HB : Hid (∀ k, Value.ownBlock (.slice B1 ys.length d1) = some k → k ≠ V1.heap.size ∧ k ≠ V2.heap.size) := (fun k hk => by have h1 := HIb.out k hk; exact ⟨by omega, by omega⟩); have pa : Value.ownBlock (.slice A1 xs.length c1') ≠ some (V1.heap.size) := (fun h => (HA.out _ h).1 rfl); have pa' : Value.ownBlock (.slice A1 xs.length c1') ≠ some (V2.heap.size) := (fun h => (HA.out _ h).2.1 rfl); have pb : Value.ownBlock (.slice B1 ys.length d1) ≠ some (V1.heap.size) := (fun h => (HB.out _ h).1 rfl); have pb' : Value.ownBlock (.slice B1 ys.length d1) ≠ some (V2.heap.size) := (fun h => (HB.out _ h).2 rfl)) | (have hEz := hEa; (fail_if_success (have Zx1 := Z1)); (fail_if_success (have Zx2 := Z2)); go_at_call 56; refine (copyLoad_any u ys B m d _ hm ?_).mono ?_; (focus (refine ht.below (bl_trans hk0 ?_); (repeat' (first | exact hEa | refine bl_alloc ?_ _ | refine bl_drew ?_)); done)); rintro e V2 ⟨B1, d1, rfl, ob, hbb⟩; refine haveFirst (p := Below V0.heap.size V0 V2) ?_ (fun hEb => ?_); (focus (exact bl_trans (a := V0) (by repeat' (first | exact hEa | refine bl_alloc ?_ _ | refine bl_drew ?_)) hbb)); have f0 := cell_later hEb bp0; have f1 := cell_later hEb bp1; have f2 := cell_later hEb bq0; have f3 := cell_later hEb bq1; refine haveFirst (p := V1.heap.size + 0 ≤ V2.heap.size) (Nat.le_trans ?_ hbb.size) (fun sb => ?_); (focus (first | (simp; done) | (simp; omega))); refine haveFirst (p := Hid (∀ k, Value.ownBlock (.slice B1 ys.length d1) = some k → V1.heap.size + 0 ≤ k ∧ k < V2.heap.size)) (fun k hk => ⟨Nat.le_trans ?_ (ob.lt k hk).1, (ob.lt k hk).2⟩) (fun HIb => ?_); (focus (first | (simp; done) | (simp; omega))); have ob : Own V2 V0.heap.size 59 (.slice B1 ys.length d1) ys := ob.mono (by have := hEa.size; simp; omega); have oa := oa.below (bl_trans (a := V1) (by repeat' (first | exact bl_refl _ | refine bl_alloc ?_ _ | refine bl_drew ?_)) hbb); have ba : V0.heap.size ≤ V2.heap.size := (by omega); have bb : V0.heap.size ≤ V2.heap.size + 1 := (by omega); have n12 : V2.heap.size ≠ V2.heap.size + 1 := (by omega); have n21 : V2.heap.size + 1 ≠ V2.heap.size := (by omega); have HA : Hid (∀ k, Value.ownBlock (.slice A1 xs.length c1') = some k → k ≠ V2.heap.size ∧ k ≠ V2.heap.size + 1 ∧ Value.ownBlock (.slice B1 ys.length d1) ≠ some k) := (fun k hk => by have h1 := HIa.out k hk; refine ⟨by omega, by omega, fun h2 => ?_⟩; have h3 := HIb.out k h2; omega); have HB : Hid (∀ k, Value.ownBlock (.slice B1 ys.length d1) = some k → k ≠ V2.heap.size ∧ k ≠ V2.heap.size + 1) := (fun k hk => by have h1 := HIb.out k hk; exact ⟨by omega, by omega⟩); have pa : Value.ownBlock (.slice A1 xs.length c1') ≠ some (V2.heap.size) := (fun h => (HA.out _ h).1 rfl); have pa' : Value.ownBlock (.slice A1 xs.length c1') ≠ some (V2.heap.size + 1) := (fun h => (HA.out _ h).2.1 rfl); have pb : Value.ownBlock (.slice B1 ys.length d1) ≠ some (V2.heap.size) := (fun h => (HB.out _ h).1 rfl); have pb' : Value.ownBlock (.slice B1 ys.length d1) ≠ some (V2.heap.size + 1) := (fun h => (HB.out _ h).2 rfl)))
    all_goals (go_wp2_with fail; go_meet)
    all_goals (refine twoP_mk (A1 := A1) (c1 := c1') (B1 := B1) (d1 := d1) ⟨?_, ?_, ?_, ?_, ?_, ?_, ?_, ?_, ?_, ?_⟩; (focus (first | exact ba | exact bb)); (focus (first | exact bb | exact ba)); (focus (first | exact n12 | exact n21)); (focus ((repeat' (first | with_reducible exact hEb | refine bl_alloc ?_ _ | refine bl_set ?_ ba _ | refine bl_set ?_ bb _)); done)); (focus ((repeat' (first | with_reducible exact Z1 | with_reducible exact Z2 | with_reducible refine BoxL.put ?_ _ _ _ _ | with_reducible refine BoxL.set_ne ?_ n12 _ _ | with_reducible refine BoxL.set_ne ?_ n21 _ _ | with_reducible refine BoxL.new' ?_ | with_reducible refine BoxL.alloc ?_ _ | with_reducible rfl | (simp; done))); done)); (focus ((repeat' (first | with_reducible exact Z1 | with_reducible exact Z2 | with_reducible refine BoxL.put ?_ _ _ _ _ | with_reducible refine BoxL.set_ne ?_ n12 _ _ | with_reducible refine BoxL.set_ne ?_ n21 _ _ | with_reducible refine BoxL.new' ?_ | with_reducible refine BoxL.alloc ?_ _ | with_reducible rfl | (simp; done))); done)); (focus ((repeat' (first | with_reducible exact oa | with_reducible exact ob | with_reducible refine Own.alloc ?_ _ | with_reducible refine Own.set_ne ?_ pa _ _ | with_reducible refine Own.set_ne ?_ pa' _ _ | with_reducible refine Own.set_ne ?_ pb _ _ | with_reducible refine Own.set_ne ?_ pb' _ _)); done)); (focus ((repeat' (first | with_reducible exact oa | with_reducible exact ob | with_reducible refine Own.alloc ?_ _ | with_reducible refine Own.set_ne ?_ pa _ _ | with_reducible refine Own.set_ne ?_ pa' _ _ | with_reducible refine Own.set_ne ?_ pb _ _ | with_reducible refine Own.set_ne ?_ pb' _ _)); done)); (focus (first | exact HA.out | exact fun k h => ⟨(HA.out k h).2.1, (HA.out k h).1, (HA.out k h).2.2⟩)); (focus (first | exact HB.out | exact fun k h => ⟨(HB.out k h).2, (HB.out k h).1⟩)))
  case rest =>
    obtain ⟨ga, gb, A1, c1', B1, d1, rfl, rfl, HT⟩ := hcut
    obtain ⟨hga, hgb, hne, hbx, BA, BB, hoa, hob, hap, hbp⟩ := HT
    obtain ⟨V1, hVV⟩ : ∃ V, V = wc := ⟨_, rfl⟩
    subst hVV
    have hz0 := BT.lt
    have BR := BR.below hbx
    have BT := BT.below hbx
    have hW1 := bl_trans hk0 hbx
    have hz1 := hbx.size
    clear hbx hk0 bp0 bp1 fp0 fp1 bq0 bq1 fq0 fq1 BP BQ
    have HAP := Lib.hid hap
    have HBP := Lib.hid hbp
    clear hap hbp
    have HBV : Hid (∀ x, Value.ownBlock (.slice B1 ys.length d1) = some x → x < V1.heap.size) := fun x hx => (hob.lt x hx).2
    obtain ⟨ba0, ba1, fa0, fa1⟩ := id BA
    go_wp2_with fail
    refine (thingAt_any xs A1 xs.length c1' nm _ (by omega) hoa.sl).mono ?_
    rintro e V2 ⟨rfl, hb2⟩
    rw [HK.out]
    clear ba0 ba1 fa0 fa1
    have BA := BA.below hb2
    have BB := BB.below hb2
    have BR := BR.below hb2
    have BT := BT.below hb2
    have hoa := hoa.below hb2
    have hob := hob.below hb2
    have hW2 := bl_trans hW1 hb2
    have hz2 := hb2.size
    clear hb2 hW1
    obtain ⟨g, rfl⟩ := hoa.form (by omega)
    have hgi := hoa.lt g rfl
    have hgne := HAP.out g rfl
    have d1' : V2.cell? ⟨g, k * 3 + 1, none⟩ = some (.int .i64 (nth xs k).Count) := hoa.cellAt hkx 1 _ rfl
    have d2' : V2.cell? ⟨g, k * 3 + 2, none⟩ = some (.int .i64 (nth xs k).Day) := hoa.cellAt hkx 2 _ rfl
    have d3' := hoa.frozenAt (k * 3 + 1)
    have hcw : IntKind.i64.wrap ((nth xs k).Count - q) = (nth xs k).Count - q := IntWalk.i64_in _ (by omega)
    have hgz : g < V2.heap.size := hgi.2
    have hkI : (k : Int) < xs.length := by omega
    have m1 : ga ≠ g := by omega
    have m2 : g ≠ ga := by omega
    have m3 : gb ≠ g := by omega
    have m4 : g ≠ gb := by omega
    have m5 : g ≠ V2.heap.size := by omega
    have m6 : V2.heap.size ≠ g := by omega
    have lga := BA.lt
    have lgb := BB.lt
    have hne2 : gb ≠ ga := fun e => hne e.symm
    have or0 : g ≠ w.heap.size + 2 := by omega
    have ot0 : g ≠ w.heap.size + 3 := by omega
    have HOA := Lib.hid hoa
    have HOB := Lib.hid hob
    clear hoa hob
    obtain ⟨ba0, ba1, fa0, fa1⟩ := id BA
    go_upto_region 7 with fail
    refine wp_hide (R := fun X => Below w.heap.size w X ∧ BoxL X ga s (some ⟨g, 0, none⟩) xs.length c1' ∧ BoxL X gb u B1 ys.length d1 ∧ BoxL X (w.heap.size + 2) ⟨#[]⟩ none 0 0 ∧ BoxL X (w.heap.size + 3) ⟨#[]⟩ none 0 0 ∧ Own X V0.heap.size 59 (.slice (some ⟨g, 0, none⟩) xs.length c1') (xs.set k (lessY xs k q)) ∧ Own X V0.heap.size 59 (.slice B1 ys.length d1) ys ∧ X.cell? ⟨g, k * 3 + 1, none⟩ = some (.int .i64 ((nth xs k).Count - q)) ∧ X.cell? ⟨V2.heap.size, 0, none⟩ = some (.string nm) ∧ X.cell? ⟨V2.heap.size, 1, none⟩ = some (.int .i64 q) ∧ X.cell? ⟨V2.heap.size, 2, none⟩ = some (.int .i64 (nth xs k).Day) ∧ V2.heap.size < X.heap.size) ⟨by repeat' (first | with_reducible exact hW2 | refine bl_alloc ?_ _ | refine bl_set ?_ (by simp only []; omega) _), by repeat' (first | with_reducible exact BA | with_reducible refine BoxL.alloc ?_ _ | with_reducible refine BoxL.set_ne ?_ m2 _ _), by repeat' (first | with_reducible exact BB | with_reducible refine BoxL.alloc ?_ _ | with_reducible refine BoxL.set_ne ?_ m4 _ _), by repeat' (first | with_reducible exact BR | with_reducible refine BoxL.alloc ?_ _ | with_reducible refine BoxL.set_ne ?_ or0 _ _), by repeat' (first | with_reducible exact BT | with_reducible refine BoxL.alloc ?_ _ | with_reducible refine BoxL.set_ne ?_ ot0 _ _), (HOA.out.put1 (y := lessY xs k q) hkx 1 (by decide) rfl).alloc _, by repeat' (first | with_reducible exact HOB.out | refine Own.alloc ?_ _ | refine Own.set_ne ?_ (fun h => (HAP.out g rfl).2.2 h) _ _), by go_simp, by go_simp, by go_simp, by go_simp, by simp⟩ (fun X hX0 => ?_)
    obtain ⟨hWX, BA, BB, BR, BT, hoa, hob, dc, bm0, bm1, bm2, lm⟩ := hX0
    clear d1' d2' d3' hcw HOA HOB hW2
    clear ba0 ba1 fa0 fa1
    have hgX : g < X.heap.size := by omega
    have HRY := Lib.hid (things_rise hY.out)
    obtain ⟨ba0, ba1, fa0, fa1⟩ := id BA
    have hlT := takeT_len xs k q
    go_upto_if 58 with fail
    go_cut [] (fun wx => Mv2 w V0.heap.size 59 s u (takeT xs k q) ys nm q (nth xs k).Day ga gb V2.heap.size g c1' B1 d1 wx)
    case first =>
      by_cases hpos : 0 < (nth xs k).Count - q
      · have hp1 : ((nth xs k).Count - q == 0) = false := by simp; omega
        have hL : xs.length = (takeT xs k q).length := by rw [takeT_set hpos, List.length_set]
        have HL2 := Lib.hid hL
        have HS : Hid (xs.set k (lessY xs k q) = takeT xs k q) := (takeT_set hpos).symm
        clear hL
        go_wp2_with fail
        go_meet
        exact ⟨hWX, by rw [← HL2.out]; exact BA, BB, BR, BT, bm0, bm1, bm2, by rw [← HL2.out, ← HS.out]; exact hoa, hob⟩
      · have hp1 : ((nth xs k).Count - q == 0) = true := by simp; omega
        have hw1 : IntKind.i64.wrap ((k : Int) + 1) = (k : Int) + 1 := IntWalk.i64_in _ (by omega)
        obtain ⟨e, he⟩ : ∃ e, k + e + 1 = xs.length := ⟨xs.length - (k + 1), by omega⟩
        have hL : k + e = (takeT xs k q).length := by rw [takeT_cut (xs := xs) (k := k) (n := q) (by omega)]; simp only [List.length_append, List.length_take, List.length_drop]; omega
        have HL2 := Lib.hid hL
        have HS : Hid (xs.take k ++ xs.drop (k + 1) = takeT xs k q) := (takeT_cut (xs := xs) (k := k) (n := q) (by omega)).symm
        clear hL
        have HE := Lib.hid he
        clear he
        go_wp2_with fail
        refine (delete_thing (xs.set k (lessY xs k q)) g xs.length c1' V0.heap.size k e _ (by omega) hoa HE.out).mono ?_
        rintro e' V3 ⟨rfl, hod, hgd⟩
        rw [cut_set, HS.out] at hod
        have hf3 : OnlyF [g] X V3 := OnlyF.of_gb (v := .slice (some ⟨g, 0, none⟩) xs.length c1') hgd
        have BA := BA.only hf3 (fun hm => by have hm := List.mem_singleton.1 hm; omega)
        have BB := BB.only hf3 (fun hm => by have hm := List.mem_singleton.1 hm; omega)
        have BR := BR.only hf3 (fun hm => by have hm := List.mem_singleton.1 hm; omega)
        have BT := BT.only hf3 (fun hm => by have hm := List.mem_singleton.1 hm; omega)
        have bm0 := hf3.keeps bm0 (fun hm => by have hm := List.mem_singleton.1 hm; simp only [] at hm; omega)
        have bm1 := hf3.keeps bm1 (fun hm => by have hm := List.mem_singleton.1 hm; simp only [] at hm; omega)
        have bm2 := hf3.keeps bm2 (fun hm => by have hm := List.mem_singleton.1 hm; simp only [] at hm; omega)
        have hob := hob.grown hgd (.inr (HAP.out g rfl).2.2)
        have hWX := bl_grown hWX hgd (fun k hk => by injection hk with hk; omega)
        have hz3 := hf3.size
        clear ba0 ba1 fa0 fa1
        obtain ⟨ba0, ba1, fa0, fa1⟩ := id BA
        have hn3 : ga ≠ V2.heap.size := by omega
        have HOD := Lib.hid hod
        have HOB := Lib.hid hob
        clear hod hob hoa hgd
        go_wp2_with fail
        go_meet
        refine ⟨?_, ?_, ?_, ?_, ?_, ?_, ?_, ?_, ?_, ?_⟩
        · exact bl_set hWX (by simp only []; omega) _
        · rw [← HL2.out]; exact BA.set1 _ _ _
        · exact BB.set_ne hne _ _
        · exact BR.set_ne (by omega) _ _
        · exact BT.set_ne (by omega) _ _
        · rw [World.cell?_setCell_other _ _ _ _ (fun e => hn3 (by injection e))]; exact bm0
        · rw [World.cell?_setCell_other _ _ _ _ (fun e => hn3 (by injection e))]; exact bm1
        · rw [World.cell?_setCell_other _ _ _ _ (fun e => hn3 (by injection e))]; exact bm2
        · rw [← HL2.out]; exact Own.set_ne HOD.out (fun h => m2 (Option.some.inj (show some g = some ga from h))) _ _
        · exact Own.set_ne HOB.out (fun h => (HBP.out _ h).1 rfl) _ _
    case rest =>
      obtain ⟨V3, hVV⟩ : ∃ V, V = wc := ⟨_, rfl⟩
      subst hVV
      have hm0 : V0.heap.size ≤ V2.heap.size := by omega
      have hm1 : V2.heap.size ≠ ga := by omega
      have hm2 : V2.heap.size ≠ gb := by omega
      have hgi1 := hgi.1
      skip
      obtain ⟨hW3, BA3, BB3, BR3, BT3, bm30, bm31, bm32, hoa3, hob3⟩ := hcut
      clear BA BB BR BT bm0 bm1 bm2 hoa hob hWX dc ba0 ba1 fa0 fa1 lm hgX
      have hmz := World.block_lt_of_cell? _ _ bm30
      simp only [] at hmz
      have lgb3 := BB3.lt
      obtain ⟨bb0, bb1, fb0, fb1⟩ := id BB3
      go_wp2_with fail
      refine (searchFunc_thing ys B1 ys.length d1 (⟨nm, q, (nth xs k).Day⟩ : Thing) _ #[] (fun x => cmpT x (⟨nm, q, (nth xs k).Day⟩ : Thing)) _ (by omega) hob3.sl enters_mv (cmpT_mono HRY.out) (fun x _ W => mvCmp_any x (⟨nm, q, (nth xs k).Day⟩ : Thing) W)).mono ?_
      rintro e'' V4 ⟨i, rfl, hin, hsr, hb4⟩
      obtain ⟨hle, hhit⟩ := place_of hin hsr.out
      have hle := Lib.hid hle
      rw [← hhit]
      clear hhit hsr
      have BA := BA3.below hb4
      have BB := BB3.below hb4
      have BR := BR3.below hb4
      have BT := BT3.below hb4
      have bm0 := cell_later hb4 bm30
      have bm1 := cell_later hb4 bm31
      have bm2 := cell_later hb4 bm32
      have hoa := hoa3.below hb4
      have hob := hob3.below hb4
      have hW4 := bl_trans hW3 hb4
      have hz4 := hb4.size
      clear hb4 BA3 BB3 BR3 BT3 bm30 bm31 bm32 hoa3 hob3 hW3 bb0 bb1 fb0 fb1
      obtain ⟨bb0, bb1, fb0, fb1⟩ := id BB
      go_upto_if 73 with fail
      go_cut [16] (fun _ wx => Mv3P w V0.heap.size 59 s u (takeT xs k q) (putT ys (⟨nm, q, (nth xs k).Day⟩ : Thing)) ga gb g c1' wx)
      case first =>
        cases hh : hitT ys nm i
        · have HZ := Lib.hid (putT_miss (t := (⟨nm, q, (nth xs k).Day⟩ : Thing)) hle.out hh)
          clear hh
          have HIB := Lib.hid hob.lt
          have hbl : ∀ x, Value.ownBlock (.slice B1 ys.length d1) = some x → x ≠ g ∧ x ≠ ga ∧ x ≠ gb := fun x hx => ⟨fun e => by subst e; exact (HAP.out _ rfl).2.2 hx, (HBP.out x hx).1, (HBP.out x hx).2⟩
          have HBL := Lib.hid hbl
          clear hbl
          have HOA := Lib.hid hoa
          clear hoa
          go_wp2_with fail
          refine (insert_thing ys B1 ys.length d1 i V0.heap.size _ _ (⟨nm, q, (nth xs k).Day⟩ : Thing) _ (by omega) hin (hob.alloc _) (by have := hW4.size; simp only [World.size_alloc]; omega) (by simp only [World.alloc, Array.getElem?_push_size]; rfl) (fun g' hgA => ?_)).mono ?_
          focus (have := (HIB.out g' (by rw [hgA]; rfl)).2; omega)
          rintro e'' V5 ⟨B5, d5, rfl, ho5, hg5, hk5⟩
          have hzz := hg5.size
          simp only [World.size_alloc] at hzz hk5
          have hk5 := Lib.hid hk5
          have hO5 := OnlyF.of_gb (v := .slice B1 ys.length d1) hg5
          have hnF : ∀ x, (x = ga ∨ x = gb ∨ x = g ∨ x < V0.heap.size) → x ∉ (Value.ownBlock (.slice B1 ys.length d1)).toList := fun x hx hm => by
            have hm : Value.ownBlock (.slice B1 ys.length d1) = some x := by simpa using hm
            have h1 := HBL.out x hm
            have h2 := (HIB.out x hm).1
            rcases hx with rfl | rfl | rfl | hx
            · exact h1.2.1 rfl
            · exact h1.2.2 rfl
            · exact h1.1 rfl
            · omega
          have HNF := Lib.hid hnF
          clear hnF
          have BA := (BA.alloc _).only hO5 (HNF.out _ (.inl rfl))
          have BB := (BB.alloc _).only hO5 (HNF.out _ (.inr (.inl rfl)))
          have BR := (BR.alloc _).only hO5 (HNF.out _ (.inr (.inr (.inr (by omega)))))
          have BT := (BT.alloc _).only hO5 (HNF.out _ (.inr (.inr (.inr (by omega)))))
          have hoa := (HOA.out.alloc (.cells #[.string nm, .int .i64 q, .int .i64 (nth xs k).Day] 59)).grown hg5 (.inr (fun h => (HAP.out g rfl).2.2 (show Value.ownBlock (.slice B1 ys.length d1) = some g from h.symm)))
          have hW5 := bl_grown (bl_alloc hW4 _) hg5 (fun x hx => by have := (HIB.out x hx).1; have := hW4.size; omega)
          have hap5 : ∀ x, Value.ownBlock (.slice B5 (ys.length + 1) d5) = some x → x ≠ g ∧ x ≠ ga ∧ x ≠ gb := fun x hx => by
            rcases hk5.out x hx with h1 | h1
            · exact HBL.out x h1
            · exact ⟨by omega, by omega, by omega⟩
          have HA5 := Lib.hid hap5
          have hL : ys.length + 1 = (putT ys (⟨nm, q, (nth xs k).Day⟩ : Thing)).length := by rw [HZ.out]; simp [insAt]; omega
          have HL2 := Lib.hid hL
          rw [← HZ.out] at ho5
          have HO5 := Lib.hid ho5
          have HOA5 := Lib.hid hoa
          clear hap5 hL ho5 hoa hob hg5 hW4 bm0 bm1 bm2 bb0 bb1 fb0 fb1 HOA hO5
          obtain ⟨bb0, bb1, fb0, fb1⟩ := id BB
          go_wp2_with fail
          go_meet
          refine ⟨B5, d5, ?_, ?_, ?_, ?_, ?_, ?_, ?_, ?_⟩
          · exact bl_set hW5 (by simp only []; omega) _
          · exact BA.set_ne hne2 _ _
          · rw [← HL2.out]; exact BB.set1 _ _ _
          · exact BR.set_ne (by omega) _ _
          · exact BT.set_ne (by omega) _ _
          · exact Own.set_ne HOA5.out (fun h => m4 (Option.some.inj (show some g = some gb from h))) _ _
          · rw [← HL2.out]; exact Own.set_ne HO5.out (fun h => (HA5.out _ h).2.2 rfl) _ _
          · rw [← HL2.out]; exact ⟨fun h => (HA5.out _ h).1 rfl, fun h => (HA5.out _ h).2.1 rfl, fun h => (HA5.out _ h).2.2 rfl⟩
        · have HZ0 := Lib.hid (putT_hit (t := (⟨nm, q, (nth xs k).Day⟩ : Thing)) hle.out hh)
          have HLP : Hid (ys.length = (putT ys (⟨nm, q, (nth xs k).Day⟩ : Thing)).length) := by rw [Hid, HZ0.out, List.length_set]
          have hil : i < ys.length ∧ (nth ys i).Name.toList = nm.toList := by
            unfold hitT at hh
            simp only [Bool.and_eq_true, decide_eq_true_eq, beq_iff_eq] at hh
            exact hh
          have HNM : Hid ((nth ys i).Name = nm) := ba_extM (by have := hil.2; simpa [Lib.toList_data] using this)
          have hiy := hil.1
          clear hh hil
          have hcy := count_in hY.out hiy
          obtain ⟨gB, rfl⟩ := hob.form (by omega)
          have hgB := hob.lt gB rfl
          have hqB := HBP.out gB rfl
          have hqG := (HAP.out g rfl).2.2
          have hgg : gB ≠ g := fun e => hqG (by rw [e]; rfl)
          have hgg2 : g ≠ gB := fun e => hgg e.symm
          skip
          have c1y : V4.cell? ⟨gB, i * 3 + 1, none⟩ = some (.int .i64 (nth ys i).Count) := hob.cellAt hiy 1 _ rfl
          have c2y : V4.cell? ⟨gB, i * 3 + 2, none⟩ = some (.int .i64 (nth ys i).Day) := hob.cellAt hiy 2 _ rfl
          have d1y := hob.frozenAt (i * 3 + 1)
          have d2y := hob.frozenAt (i * 3 + 2)
          have hwy : IntKind.i64.wrap ((nth ys i).Count + q) = (nth ys i).Count + q := IntWalk.i64_in _ (by omega)
          have hiI : (i : Int) < ys.length := by omega
          have HOA := Lib.hid hoa
          have HOB := Lib.hid hob
          clear hoa hob
          have qa : gB ≠ ga := hqB.1
          have qb : gB ≠ gb := hqB.2
          have qr : gB ≠ w.heap.size + 2 := by omega
          have qt : gB ≠ w.heap.size + 3 := by omega
          have qm : gB ≠ V2.heap.size := by have := HBV.out gB rfl; omega
          have qm' : V2.heap.size ≠ gB := fun e => qm e.symm
          have qb' : gb ≠ gB := fun e => qb e.symm
          go_upto_region 12 with fail
          refine wp_hide (R := fun Y => Below w.heap.size w Y ∧ BoxL Y ga s (some ⟨g, 0, none⟩) (takeT xs k q).length c1' ∧ BoxL Y gb u (some ⟨gB, 0, none⟩) ys.length d1 ∧ BoxL Y (w.heap.size + 2) ⟨#[]⟩ none 0 0 ∧ BoxL Y (w.heap.size + 3) ⟨#[]⟩ none 0 0 ∧ Own Y V0.heap.size 59 (.slice (some ⟨g, 0, none⟩) (takeT xs k q).length c1') (takeT xs k q) ∧ Own Y V0.heap.size 59 (.slice (some ⟨gB, 0, none⟩) ys.length d1) (ys.set i (⟨(nth ys i).Name, (nth ys i).Count + q, (nth ys i).Day⟩ : Thing)) ∧ Y.cell? ⟨V2.heap.size, 2, none⟩ = some (.int .i64 (nth xs k).Day) ∧ Y.cell? ⟨gB, i * 3 + 2, none⟩ = some (.int .i64 (nth ys i).Day) ∧ Y.frozen? ⟨gB, i * 3 + 2, none⟩ = false) ⟨bl_set hW4 (by simp only []; omega) _, by repeat' (first | with_reducible exact BA | with_reducible refine BoxL.alloc ?_ _ | with_reducible refine BoxL.set_ne ?_ qa _ _), by repeat' (first | with_reducible exact BB | with_reducible refine BoxL.alloc ?_ _ | with_reducible refine BoxL.set_ne ?_ qb _ _), by repeat' (first | with_reducible exact BR | with_reducible refine BoxL.alloc ?_ _ | with_reducible refine BoxL.set_ne ?_ qr _ _), by repeat' (first | with_reducible exact BT | with_reducible refine BoxL.alloc ?_ _ | with_reducible refine BoxL.set_ne ?_ qt _ _), Own.set_ne HOA.out (fun h => hgg2 (Option.some.inj (show some g = some gB from h))) _ _, HOB.out.put1 (y := (⟨(nth ys i).Name, (nth ys i).Count + q, (nth ys i).Day⟩ : Thing)) hiy 1 (by decide) rfl, by rw [World.cell?_setCell_other _ _ _ _ (fun e => qm (by injection e))]; exact bm2, by rw [World.cell?_setCell_other _ _ _ _ (fun e => by simp at e)]; exact c2y, by rw [World.frozen?_setCell]; exact d2y⟩ (fun Y hX0 => ?_)
          obtain ⟨hWY, BA, BB, BR, BT, hoa, hob, bm2, c2y, d2y⟩ := hX0
          clear c1y d1y hwy HOA HOB hW4 bm0 bm1 bb0 bb1 fb0 fb1
          obtain ⟨bb0, bb1, fb0, fb1⟩ := id BB
          go_still_tail 14, (by kernel_rfl)
          change wpList _ _ _ _ _ Y.drew
          obtain ⟨Y1, hY1⟩ : ∃ U, U = Y.drew := ⟨_, rfl⟩
          rw [← hY1]
          have hd1 : Below Y.heap.size Y Y1 := by rw [hY1]; exact bl_drew (bl_refl _)
          have BA := BA.below hd1
          have BB := BB.below hd1
          have BR := BR.below hd1
          have BT := BT.below hd1
          have hoa := hoa.below hd1
          have hob := hob.below hd1
          have hWY := bl_trans hWY hd1
          have d2y := frozen_later hd1 (World.block_lt_of_cell? _ _ c2y) d2y
          have c2y := cell_later hd1 c2y
          have HOA := Lib.hid hoa
          have HOB := Lib.hid hob
          clear hY1 hoa hob bm2 bb0 bb1 fb0 fb1
          go_wp2_with fail
          go_meet
          refine ⟨some ⟨gB, 0, none⟩, d1, ?_, ?_, ?_, ?_, ?_, ?_, ?_, ?_⟩
          · exact bl_set hWY (by simp only []; omega) _
          · exact BA.set_ne qa _ _
          · rw [← HLP.out]; exact BB.set_ne qb _ _
          · exact BR.set_ne qr _ _
          · exact BT.set_ne qt _ _
          · exact Own.set_ne HOA.out (fun h => hgg2 (Option.some.inj (show some g = some gB from h))) _ _
          · rw [← HLP.out, HZ0.out, ← putY_min HNM.out]
            have h2 := HOB.out.put1 (k := i) (y := (⟨(nth ys i).Name, (nth ys i).Count + q, min (nth ys i).Day (nth xs k).Day⟩ : Thing)) (v := .int .i64 (min (nth ys i).Day (nth xs k).Day)) hiy 2 (by decide) (by rw [nth_set' hiy hiy, if_pos rfl]; rfl)
            rw [List.set_set] at h2
            exact h2
          · exact ⟨fun h => hgg (Option.some.inj (show some gB = some g from h)), fun h => qa (Option.some.inj (show some gB = some ga from h)), fun h => qb (Option.some.inj (show some gB = some gb from h))⟩
      case rest =>
        obtain ⟨B2, d2, HT3⟩ := hcut
        obtain ⟨hW5, BA5, BB5, BR5, BT5, hoa5, hob5, hap5⟩ := HT3
        obtain ⟨V5, hVV⟩ : ∃ V, V = wc := ⟨_, rfl⟩
        subst hVV
        have HAP5 := Lib.hid hap5
        have HAP5 := Lib.hid hap5
        clear hap5 hoa hob BA BB BR BT bm0 bm1 bm2 hle hW4 bb0 bb1 fb0 fb1 HAP HBP
        obtain ⟨bb0, bb1, fb0, fb1⟩ := id BB5
        have HPV : Hid (∀ x, x ∈ putT ys (⟨nm, q, (nth xs k).Day⟩ : Thing) → x.Name.size ≤ maxLen) := fun x hx => putT_names HV.out hnm hx
        have hlP := putT_len ys (⟨nm, q, (nth xs k).Day⟩ : Thing)
        obtain ⟨P, hP⟩ : ∃ P, P = putT ys (⟨nm, q, (nth xs k).Day⟩ : Thing) := ⟨_, rfl⟩
        rw [← hP] at HPV hlP BB5 hob5 HAP5 bb1
        have HP := Lib.hid hP
        skip
        clear hP
        obtain ⟨T, hT⟩ : ∃ T, T = takeT xs k q := ⟨_, rfl⟩
        rw [← hT] at hlT BA5 hoa5
        have HT := Lib.hid hT
        clear hT
        go_wp2_with fail
        refine (isLd_any u P B2 _ d2 _ hz' (by omega) hob5.sl HPV.out).mono ?_
        rintro e'' V6 ⟨rfl, hb6⟩
        have BA := BA5.below hb6
        have BB := BB5.below hb6
        have BR := BR5.below hb6
        have BT := BT5.below hb6
        have HOA := Lib.hid (hoa5.below hb6)
        have HOB := Lib.hid (hob5.below hb6)
        have hW6 := bl_trans hW5 hb6
        have hz6 := hb6.size
        clear hb6 hW5 BA5 BB5 BR5 BT5 hoa5 hob5 bb0 bb1 fb0 fb1
        have hG : w.heap.size + 3 < ga ∧ w.heap.size + 3 < gb ∧ w.heap.size + 3 < g := ⟨by omega, by omega, by omega⟩
        have hV0 : w.heap.size + 3 < V0.heap.size := hz0
        have BR : BoxL V6 (w.heap.size + 1 + 1) ⟨#[]⟩ none 0 0 := BR
        have BT : BoxL V6 (w.heap.size + 1 + 1 + 1) ⟨#[]⟩ none 0 0 := BT
        have nrt : w.heap.size + 1 + 1 ≠ w.heap.size + 1 + 1 + 1 := by omega
        have ntr : w.heap.size + 1 + 1 + 1 ≠ w.heap.size + 1 + 1 := by omega
        obtain ⟨br0, br1, fr0, fr1⟩ := id BR
        obtain ⟨bt0, bt1, ft0, ft1⟩ := id BT
        clear HBV hs ht hX hY HV HVx hlx hly hn12 hm12 hkx hkn hct hqc hgi1 hgne hgz hkI m1 m2 m3 m4 m5 m6 lga lgb or0 ot0 HRY hm0 hm1 hm2 hmz lgb3 hin hle hz4 hlP hlT HPV hz6 hn hm hz1 hz2 hga hgb hz0 HL HM
        have hWw := hW6.size
        skip
        cases hb5 : loadB u P
        · have HZ : Hid (mvF ⟨s, xs⟩ ⟨u, ys⟩ nm q = no3) := mvF_bad (Int.not_lt.2 HN.out) HK.out (by show loadB u (putT ys (⟨nm, q, (nth xs k).Day⟩ : Thing)) = false; rw [← HP.out]; exact hb5)
          clear hb5 HOA HOB BA BB
          go_upto_region 15 with fail
          go_cut [10] (fun s10 wx => s10 = .bool false ∧ Below w.heap.size w wx ∧ BoxL wx (w.heap.size + 1 + 1) ⟨#[]⟩ none 0 0 ∧ BoxL wx (w.heap.size + 1 + 1 + 1) ⟨#[]⟩ none 0 0)
          case first =>
            go_wp2_with fail
            go_meet
            exact ⟨rfl, by repeat' (first | with_reducible exact hW6 | refine bl_drew ?_ | refine bl_set ?_ (by simp only []; omega) _), by repeat' (first | with_reducible exact BR | with_reducible exact BT | with_reducible refine BoxL.drew ?_ | with_reducible refine BoxL.put ?_ _ _ _ _ | with_reducible refine BoxL.set_ne ?_ nrt _ _ | with_reducible refine BoxL.set_ne ?_ ntr _ _), by repeat' (first | with_reducible exact BR | with_reducible exact BT | with_reducible refine BoxL.drew ?_ | with_reducible refine BoxL.put ?_ _ _ _ _ | with_reducible refine BoxL.set_ne ?_ nrt _ _ | with_reducible refine BoxL.set_ne ?_ ntr _ _)⟩
          case rest =>
            obtain ⟨rfl, hWX, BRX, BTX⟩ := hcut
            clear br0 br1 bt0 bt1 fr0 fr1 ft0 ft1
            obtain ⟨br0, br1, fr0, fr1⟩ := BRX
            obtain ⟨bt0, bt1, ft0, ft1⟩ := BTX
            rename_i K0 hK0
            refine hK0 _ _ ?_
            clear hK0
            refine wp_ret ?_
            refine bodyPost_ret (by simp [results, Try.results33, go_sem, br0, br1, bt0, bt1]; try rfl) rfl ?_
            exact retLoad3_mk HZ.out rfl rfl (Own.nil _ _ _) (Own.nil _ _ _) (fun k h => by simp [Value.ownBlock] at h) (by repeat' (first | with_reducible exact hWX | refine bl_alloc ?_ _ | refine bl_drew ?_ | refine bl_set ?_ (by simp only []; omega) _))
        have HZ : Hid (mvF ⟨s, xs⟩ ⟨u, ys⟩ nm q = (⟨s, T⟩, ⟨u, P⟩, true)) := by have h1 := mvF_good (x := ⟨s, xs⟩) (y := ⟨u, ys⟩) (Int.not_lt.2 HN.out) HK.out (by show loadB u (putT ys (⟨nm, q, (nth xs k).Day⟩ : Thing)) = true; rw [← HP.out]; exact hb5); rw [Hid, h1]; show ((⟨s, takeT xs k q⟩ : Load), (⟨u, putT ys (⟨nm, q, (nth xs k).Day⟩ : Thing)⟩ : Load), true) = _; rw [← HP.out, ← HT.out]
        clear hb5
        obtain ⟨ba0, ba1, fa0, fa1⟩ := id BA
        obtain ⟨bb0, bb1, fb0, fb1⟩ := id BB
        have na10 : ga ≠ w.heap.size + 1 + 1 := by omega
        have na11 : w.heap.size + 1 + 1 ≠ ga := by omega
        have na20 : ga ≠ w.heap.size + 1 + 1 + 1 := by omega
        have na21 : w.heap.size + 1 + 1 + 1 ≠ ga := by omega
        have nb10 : gb ≠ w.heap.size + 1 + 1 := by omega
        have nb11 : w.heap.size + 1 + 1 ≠ gb := by omega
        have nb20 : gb ≠ w.heap.size + 1 + 1 + 1 := by omega
        have nb21 : w.heap.size + 1 + 1 + 1 ≠ gb := by omega
        go_wp2_with fail
        go_region_held3 (fun w' => w'.cell? ⟨ga, 0, none⟩ = some (.string s) ∧ w'.cell? ⟨ga, 1, none⟩ = some (.slice (some ⟨g, 0, none⟩) T.length c1') ∧ w'.cell? ⟨gb, 0, none⟩ = some (.string u) ∧ w'.cell? ⟨gb, 1, none⟩ = some (.slice B2 P.length d2)) (go_keep) (first | fail)
        refine ex_hide (R := fun X => Below w.heap.size w X ∧ BoxL X (w.heap.size + 1 + 1) s (some ⟨g, 0, none⟩) T.length c1' ∧ BoxL X (w.heap.size + 1 + 1 + 1) u B2 P.length d2 ∧ Own X V0.heap.size 59 (.slice (some ⟨g, 0, none⟩) T.length c1') T ∧ Own X V0.heap.size 59 (.slice B2 P.length d2) P) ⟨by repeat' (first | with_reducible exact hW6 | refine bl_drew ?_ | refine bl_set ?_ (by simp only []; omega) _), by repeat' (first | with_reducible exact BR | with_reducible exact BT | with_reducible exact BR.drew | with_reducible exact BT.drew | with_reducible refine BoxL.drew ?_ | with_reducible refine BoxL.put ?_ _ _ _ _ | with_reducible refine BoxL.set_ne ?_ nrt _ _ | with_reducible refine BoxL.set_ne ?_ ntr _ _), by repeat' (first | with_reducible exact BR | with_reducible exact BT | with_reducible exact BR.drew | with_reducible exact BT.drew | with_reducible refine BoxL.drew ?_ | with_reducible refine BoxL.put ?_ _ _ _ _ | with_reducible refine BoxL.set_ne ?_ nrt _ _ | with_reducible refine BoxL.set_ne ?_ ntr _ _), (by repeat' (first | with_reducible exact HOA.out | with_reducible exact HOB.out | refine Own.below ?_ (bl_drew (bl_refl _)) | refine Own.set ?_ (by omega) _)), (by repeat' (first | with_reducible exact HOA.out | with_reducible exact HOB.out | refine Own.below ?_ (bl_drew (bl_refl _)) | refine Own.set ?_ (by omega) _))⟩ (fun X hX => ?_)
        obtain ⟨hWX, BRX, BTX, hoX, hpX⟩ := hX
        have HOX := Lib.hid hoX
        have HPX := Lib.hid hpX
        clear br0 br1 bt0 bt1 fr0 fr1 ft0 ft1 ba0 ba1 fa0 fa1 bb0 bb1 fb0 fb1 HOA HOB hoX hpX
        obtain ⟨br0, br1, fr0, fr1⟩ := BRX
        obtain ⟨bt0, bt1, ft0, ft1⟩ := BTX
        rename_i hHeld
        clear hHeld
        rename_i K0 hK0
        refine hK0 _ _ ?_
        clear hK0
        refine wp_ret ?_
        refine bodyPost_ret (v := .tuple #[.agg #[.string s, .slice (some ⟨g, 0, none⟩) T.length c1'], .agg #[.string u, .slice B2 P.length d2], .bool true]) (by simp [results, Try.results33, go_sem, br0, br1, bt0, bt1]; try rfl) rfl ?_
        exact retLoad3_mk HZ.out rfl rfl (Own.mono (base := V0.heap.size) HOX.out (by omega)) (Own.mono (base := V0.heap.size) HPX.out (by omega)) (fun x h1 h2 => by have h3 : g = x := Option.some.inj (show some g = some x from h1); subst h3; exact HAP5.out.1 h2) hWX

end Go.Proofs.Ytokcgjjnljflaaa
