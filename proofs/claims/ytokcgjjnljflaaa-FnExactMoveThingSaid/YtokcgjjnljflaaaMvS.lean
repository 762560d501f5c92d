/-
  Pieces moved, by the reference. No conditions.
-/
import Derived.Test.YtokcgjjnljflaaaMvQ
namespace Go.Proofs.Ytokcgjjnljflaaa
open Go.RowKit

/-- A call hands back two loads of its own, which share no memory, and a bool. -/
def RetLoad3 (w : World) (E : TypeId) (r : Load × Load × Bool) (e : Ending) (w' : World) : Prop :=
  ∃ A c B d, e = .returned (.tuple #[.agg #[.string r.1.Appliance, .slice A r.1.Things.length c], .agg #[.string r.2.1.Appliance, .slice B r.2.1.Things.length d], .bool r.2.2]) ∧ Own w' w.heap.size E (.slice A r.1.Things.length c) r.1.Things ∧ Own w' w.heap.size E (.slice B r.2.1.Things.length d) r.2.1.Things ∧
    (∀ k, Value.ownBlock (.slice A r.1.Things.length c) = some k → Value.ownBlock (.slice B r.2.1.Things.length d) ≠ some k) ∧ Below w.heap.size w w'
theorem retLoad3_mk {w w' : World} {E : TypeId} {r : Load × Load × Bool} {s u : ByteArray} {xs ys : List Thing} {b : Bool} {A B : Option Addr} {n c m d : Nat} (hr : r = (⟨s, xs⟩, ⟨u, ys⟩, b)) (hn : xs.length = n) (hm : ys.length = m) (ho : Own w' w.heap.size E (.slice A n c) xs) (ho' : Own w' w.heap.size E (.slice B m d) ys)
    (hap : ∀ k, Value.ownBlock (.slice A n c) = some k → Value.ownBlock (.slice B m d) ≠ some k) (hb : Below w.heap.size w w') :
    RetLoad3 w E r (.returned (.tuple #[.agg #[.string s, .slice A n c], .agg #[.string u, .slice B m d], .bool b])) w' := by
  subst hr; subst hn; subst hm
  exact ⟨A, c, B, d, rfl, ho, ho', hap, hb⟩
theorem haveFirst {p q : Prop} (h : p) (f : p → q) : q := f h
theorem takeT_names {xs : List Thing} {k : Nat} {q : Int} (h : ∀ x, x ∈ xs → x.Name.size ≤ maxLen) {x : Thing} (hx : x ∈ takeT xs k q) : x.Name.size ≤ maxLen := by
  unfold takeT at hx
  split at hx
  · rcases List.mem_or_eq_of_mem_set hx with hx | rfl
    · exact h x hx
    · show (nth xs k).Name.size ≤ maxLen
      by_cases hk : k < xs.length
      · exact h _ (nth_mem hk)
      · have e : nth xs k = default := by unfold nth; simp [List.getD_eq_getElem?_getD, List.getElem?_eq_none (by omega : xs.length ≤ k)]
        rw [e]; exact Nat.zero_le _
  · rcases List.mem_append.1 hx with hx | hx
    · exact h x (List.mem_of_mem_take hx)
    · exact h x (List.mem_of_mem_drop hx)
theorem putT_names {xs : List Thing} {t : Thing} (h : ∀ x, x ∈ xs → x.Name.size ≤ maxLen) (ht : t.Name.size ≤ maxLen) {x : Thing} (hx : x ∈ putT xs t) : x.Name.size ≤ maxLen := by
  unfold putT at hx
  split at hx
  · rcases List.mem_or_eq_of_mem_set hx with hx | rfl
    · exact h x hx
    · exact ht
  · rw [insAt_mk] at hx
    rcases List.mem_append.1 hx with hx | hx
    · rcases List.mem_append.1 hx with hx | hx
      · exact h x (List.mem_of_mem_take hx)
      · rw [List.mem_singleton.1 hx]; exact ht
    · exact h x (List.mem_of_mem_drop hx)
theorem putT_len (xs : List Thing) (t : Thing) : (putT xs t).length ≤ xs.length + 1 := by
  unfold putT
  split
  · rw [List.length_set]; omega
  · rw [insAt_mk]; simp only [List.length_append, List.length_take, List.length_drop, List.length_cons, List.length_nil]; omega
set_option maxRecDepth 100000 in
set_option maxHeartbeats 8000000 in
theorem eqMove_any (s u : ByteArray) (xs ys : List Thing) (nm : ByteArray) (q : Int) (A B : Option Addr) (n c m d : Nat) (w : World) (hn : n ≤ 1048576) (hm : m ≤ 1048576) (hc : n ≤ c) (hcm : (c : Int) ≤ 9223372036854775807) (hd : m ≤ d) (hdm : (d : Int) ≤ 9223372036854775807) (hs : Sl w A n xs) (ht : Sl w B m ys) (hx : loadB s xs = true) (hy : loadB u ys = true) (hq : 1 ≤ q ∧ q ≤ 99) (hz : s.size ≤ maxLen) (hz' : u.size ≤ maxLen) (hv : ∀ x, x ∈ xs → x.Name.size ≤ maxLen) (hv' : ∀ x, x ∈ ys → x.Name.size ≤ maxLen) (hnm : nm.size ≤ maxLen) :
    Calls Try.prog 29 #[.agg #[.string s, .slice A n c], .agg #[.string u, .slice B m d], .string nm, .int .i64 q] w (RetLoad3 w 59 (mvF ⟨s, xs⟩ ⟨u, ys⟩ nm q)) := by
  have HL := Lib.hid hs.1
  have HM := Lib.hid ht.1
  have hX := Lib.hid (loadB_things hx)
  have hY := Lib.hid (loadB_things hy)
  have HR := Lib.hid (things_rise hX.out)
  have HV := Lib.hid hv'
  have HVx := Lib.hid hv
  have hlx := thingsB_len hX.out
  have hly := thingsB_len hY.out
  have hn12 : n ≤ 12 := by have := HL.out; omega
  have hm12 : m ≤ 12 := by have := HM.out; omega
  have HSX := Lib.hid hx
  clear hx hy hv hv'
  go_enter Try.func29, Try.ntmps29
  go_wp2_with fail
  refine (eqFind_at xs _ _ _ nm _ (by omega) (hs.below (by repeat' (first | assumption | exact bl_refl _ | refine bl_alloc ?_ _ | refine bl_drew ?_ | refine bl_set ?_ (by simp only []; omega) _)))).mono ?_
  rintro e V0 ⟨k, rfl, hle, hb1⟩
  have bp0 : V0.cell? ⟨w.heap.size, 0, none⟩ = some (.string s) := cell_later hb1 (by go_simp)
  have bp1 : V0.cell? ⟨w.heap.size, 1, none⟩ = some (.slice A n c) := cell_later hb1 (by go_simp)
  have lp : w.heap.size < V0.heap.size := World.block_lt_of_cell? _ _ bp0
  have bq0 : V0.cell? ⟨w.heap.size + 1, 0, none⟩ = some (.string u) := cell_later hb1 (by go_simp)
  have bq1 : V0.cell? ⟨w.heap.size + 1, 1, none⟩ = some (.slice B m d) := cell_later hb1 (by go_simp)
  have lq : w.heap.size + 1 < V0.heap.size := World.block_lt_of_cell? _ _ bq0
  have br0 : V0.cell? ⟨w.heap.size + 2, 0, none⟩ = some (.string ⟨#[]⟩) := cell_later hb1 (by go_simp)
  have fr0 : V0.frozen? ⟨w.heap.size + 2, 0, none⟩ = false := frozen_later hb1 (by simp) (by go_simp)
  have br1 : V0.cell? ⟨w.heap.size + 2, 1, none⟩ = some (.slice none 0 0) := cell_later hb1 (by go_simp)
  have fr1 : V0.frozen? ⟨w.heap.size + 2, 1, none⟩ = false := frozen_later hb1 (by simp) (by go_simp)
  have lr : w.heap.size + 2 < V0.heap.size := World.block_lt_of_cell? _ _ br0
  have bt0 : V0.cell? ⟨w.heap.size + 3, 0, none⟩ = some (.string ⟨#[]⟩) := cell_later hb1 (by go_simp)
  have ft0 : V0.frozen? ⟨w.heap.size + 3, 0, none⟩ = false := frozen_later hb1 (by simp) (by go_simp)
  have bt1 : V0.cell? ⟨w.heap.size + 3, 1, none⟩ = some (.slice none 0 0) := cell_later hb1 (by go_simp)
  have ft1 : V0.frozen? ⟨w.heap.size + 3, 1, none⟩ = false := frozen_later hb1 (by simp) (by go_simp)
  have lt : w.heap.size + 3 < V0.heap.size := World.block_lt_of_cell? _ _ bt0
  have hk0 : Below w.heap.size w V0 := bl_trans (by repeat' (first | assumption | exact bl_refl _ | refine bl_alloc ?_ _ | refine bl_drew ?_ | refine bl_set ?_ (by simp only []; omega) _)) hb1
  clear hb1
  cases hh : hitT xs nm k
  · have HZ : Hid (mvF ⟨s, xs⟩ ⟨u, ys⟩ nm q = no3) := mvF_few (by rw [show (⟨s, xs⟩ : Load).Things = xs from rfl, countF_no (find_none HR.out hle hh)]; omega)
    clear hle hh
    go_wp2
    refine bodyPost_ret (by simp [results, Try.results29, go_sem, br0, br1, bt0, bt1]; try rfl) rfl ?_
    exact retLoad3_mk HZ.out rfl rfl (Own.nil _ _ _) (Own.nil _ _ _) (fun k h => by simp [Value.ownBlock] at h) (by repeat' (first | exact hk0 | refine bl_alloc ?_ _ | refine bl_drew ?_ | refine bl_set ?_ (by simp only []; omega) _))
  have HK := Lib.hid (find_index hle hh)
  have hkx := index_at HK.out
  have hkn : k < n := by have := HL.out; omega
  have hct := count_in hX.out hkx
  have HC := Lib.hid (countF_at HK.out)
  clear hh hle
  obtain ⟨b, o, rfl, hbz, c0, c1, c2⟩ := hs.thing hkn
  have c1 := cell_later hk0 c1
  have c2 := cell_later hk0 c2
  have hkI : (k : Int) < n := by omega
  have hbw1 : b < w.heap.size := hbz
  by_cases hfew : (nth xs k).Count < q
  · have hd1 : decide ((nth xs k).Count < q) = true := decide_eq_true hfew
    have HZ : Hid (mvF ⟨s, xs⟩ ⟨u, ys⟩ nm q = no3) := mvF_few (by rw [show (⟨s, xs⟩ : Load).Things = xs from rfl, HC.out]; exact hfew)
    go_wp2
    refine bodyPost_ret (by simp [results, Try.results29, go_sem, br0, br1, bt0, bt1]; try rfl) rfl ?_
    exact retLoad3_mk HZ.out rfl rfl (Own.nil _ _ _) (Own.nil _ _ _) (fun k h => by simp [Value.ownBlock] at h) (by repeat' (first | exact hk0 | refine bl_alloc ?_ _ | refine bl_drew ?_ | refine bl_set ?_ (by simp only []; omega) _))
  have hd1 : decide ((nth xs k).Count < q) = false := decide_eq_false hfew
  have HN : Hid (¬ countF (⟨s, xs⟩ : Load).Things nm < q) := by rw [Hid, show (⟨s, xs⟩ : Load).Things = xs from rfl, HC.out]; exact hfew
  clear c0
  have hW0 := hk0
  go_upto_region 4 with fail
  clear hk0 c1 hd1 hfew
  go_cut [13] (fun s13 wx => ∃ g : Nat, s13 = .pointer (some ⟨g, 0, none⟩) ∧ V0.heap.size ≤ g ∧ Below V0.heap.size V0 wx ∧ ∃ (A1 : Option Addr) (c1 : Nat), wx.cell? ⟨g, 0, none⟩ = some (.string s) ∧ wx.cell? ⟨g, 1, none⟩ = some (.slice A1 (takeT xs k q).length c1) ∧ Own wx V0.heap.size 59 (.slice A1 (takeT xs k q).length c1) (takeT xs k q))
  case first =>
    have h0D := bl_drew (bl_refl V0)
    go_region_held3 (fun w' => w'.cell? ⟨w.heap.size, 0, none⟩ = some (.string s) ∧ w'.cell? ⟨w.heap.size, 1, none⟩ = some (.slice (some ⟨b, o, none⟩) n c)) (refine ⟨cell_later (?_ : Below V0.heap.size V0 _) bp0, cell_later (?_ : Below V0.heap.size V0 _) bp1⟩ <;> (repeat' (first | assumption | exact bl_refl _ | refine bl_alloc ?_ _ | refine bl_drew ?_ | refine bl_set ?_ (by first | exact Nat.le_refl _ | exact hE.size) _))) (first | (go_at_call 51; refine (eqTake_any xs _ n c k nm q _ hn hc hcm (hs.below (bl_trans hW0 (by repeat' (first | exact bl_refl _ | refine bl_alloc ?_ _ | refine bl_drew ?_)))) hX.out HK.out hq).mono ?_; rintro e V9 ⟨A9, c9, rfl, ho9, hb9⟩; refine haveFirst (p := Below V0.heap.size V0 V9) ?_ (fun hE => ?_); (focus (exact bl_trans (a := V0) (by repeat' (first | exact bl_refl _ | refine bl_alloc ?_ _ | refine bl_drew ?_)) hb9)); have e0 := cell_later hE bp0; have e1 := cell_later hE bp1; refine haveFirst (p := V9.cell? ⟨V0.heap.size, 0, none⟩ = some (.string ⟨#[]⟩)) ?_ (fun hq0 => ?_); (focus (refine cell_later hb9 ?_; go_simp; done)); refine haveFirst (p := V9.cell? ⟨V0.heap.size, 1, none⟩ = some (.slice none 0 0)) ?_ (fun hq1 => ?_); (focus (refine cell_later hb9 ?_; go_simp; done)); refine haveFirst (p := V9.frozen? ⟨V0.heap.size, 0, none⟩ = false) ?_ (fun hf0 => ?_); (focus (refine frozen_later hb9 ?_ ?_; (focus (simp; done)); (focus (go_simp; done)))); refine haveFirst (p := V9.frozen? ⟨V0.heap.size, 1, none⟩ = false) ?_ (fun hf1 => ?_); (focus (refine frozen_later hb9 ?_ ?_; (focus (simp; done)); (focus (go_simp; done)))); have ho9 : Own V9 (V0.heap.size + 1) 59 (.slice A9 (takeT xs k q).length c9) (takeT xs k q) := ho9.mono (by simp); have hlz : V0.heap.size < V9.heap.size := World.block_lt_of_cell? _ _ hq0) | (go_at_call 51; refine (eqTake_any xs _ n c k nm q _ hn hc hcm (hs.below (bl_trans hW0 (by repeat' (first | exact bl_refl _ | refine bl_alloc ?_ _ | refine bl_drew ?_)))) hX.out HK.out hq).mono ?_; rintro e V9 ⟨A9, c9, rfl, ho9, hb9⟩; refine haveFirst (p := Below V0.heap.size V0 V9) ?_ (fun hE => ?_); (focus (exact bl_trans (a := V0) (by repeat' (first | exact bl_refl _ | refine bl_alloc ?_ _ | refine bl_drew ?_)) hb9)); have e0 := cell_later hE bp0; have e1 := cell_later hE bp1; have ho9 : Own V9 V0.heap.size 59 (.slice A9 (takeT xs k q).length c9) (takeT xs k q) := ho9.mono (by simp)))
    all_goals (go_wp2_with fail; go_meet; refine ⟨_, rfl, ?_, ?_, A9, c9, ?_, ?_, ?_⟩)
    all_goals (first | exact Nat.le_refl _ | exact hE.size | (focus (go_simp; done)) | (focus (repeat' (first | exact hE | refine bl_alloc ?_ _ | refine bl_set ?_ (Nat.le_refl _) _)); done) | (focus (exact Own.alloc ho9 _)) | (focus (refine Own.mono (base := V0.heap.size + 1) ?_ (Nat.le_succ _); (repeat' (first | exact ho9 | refine Own.set ?_ (Nat.lt_succ_self _) _)); done)))
  case rest =>
  obtain ⟨ga, rfl, hga, hbx, A1, c1', ba0, ba1, ho_a⟩ := hcut
  obtain ⟨V1, hVV⟩ : ∃ V, V = wc := ⟨_, rfl⟩
  subst hVV
  have la : ga < V1.heap.size := World.block_lt_of_cell? _ _ ba0
  have HIA : Hid (∀ g, Value.ownBlock (.slice A1 (takeT xs k q).length c1') = some g → g < V1.heap.size) := fun g hg => (ho_a.lt g hg).2
  have bp0 := cell_later hbx bp0
  have bp1 := cell_later hbx bp1
  have lp := Nat.lt_of_lt_of_le lp hbx.size
  have bq0 := cell_later hbx bq0
  have bq1 := cell_later hbx bq1
  have lq := Nat.lt_of_lt_of_le lq hbx.size
  have br0 := cell_later hbx br0
  have fr0 := frozen_later hbx lr fr0
  have br1 := cell_later hbx br1
  have fr1 := frozen_later hbx lr fr1
  have lr := Nat.lt_of_lt_of_le lr hbx.size
  have bt0 := cell_later hbx bt0
  have ft0 := frozen_later hbx lt ft0
  have bt1 := cell_later hbx bt1
  have ft1 := frozen_later hbx lt ft1
  have lt := Nat.lt_of_lt_of_le lt hbx.size
  have c2 := cell_later hbx c2
  have hW1 := bl_trans hW0 hbx
  have hz0 := hbx.size
  clear hbx
  obtain ⟨y, hy⟩ : ∃ y, y = (⟨nm, q, (nth xs k).Day⟩ : Thing) := ⟨_, rfl⟩
  have HP : Hid (∀ W, Below w.heap.size w W → Calls Try.prog 52 #[.slice B m d, .agg #[.string nm, .int .i64 q, .int .i64 (nth xs k).Day]] W (RetOwn W 59 (putT ys y))) := fun W hW => by rw [hy]; exact eqPut_any ys ⟨nm, q, (nth xs k).Day⟩ B m d W hm hd hdm (ht.below hW) hY.out hq
  have HYE := Lib.hid hy
  clear hy
  go_upto_region 5 with fail
  go_cut [14] (fun s13 wx => ∃ g : Nat, s13 = .pointer (some ⟨g, 0, none⟩) ∧ V1.heap.size ≤ g ∧ Below V1.heap.size V1 wx ∧ ∃ (A1 : Option Addr) (c1 : Nat), wx.cell? ⟨g, 0, none⟩ = some (.string u) ∧ wx.cell? ⟨g, 1, none⟩ = some (.slice A1 (putT ys y).length c1) ∧ Own wx V1.heap.size 59 (.slice A1 (putT ys y).length c1) (putT ys y))
  case first =>
    have h0D := bl_drew (bl_refl V1)
    go_region_held3 (fun w' => w'.cell? ⟨w.heap.size, 1, none⟩ = some (.slice (some ⟨b, o, none⟩) n c) ∧ w'.cell? ⟨w.heap.size + 1, 0, none⟩ = some (.string u) ∧ w'.cell? ⟨w.heap.size + 1, 1, none⟩ = some (.slice B m d) ∧ w'.cell? ⟨b, o + k * 3 + 2, none⟩ = some (.int .i64 (nth xs k).Day)) (refine ⟨cell_later (?_ : Below V1.heap.size V1 _) bp1, cell_later (?_ : Below V1.heap.size V1 _) bq0, cell_later (?_ : Below V1.heap.size V1 _) bq1, cell_later (?_ : Below V1.heap.size V1 _) c2⟩ <;> (repeat' (first | assumption | exact bl_refl _ | refine bl_alloc ?_ _ | refine bl_drew ?_ | refine bl_set ?_ (by first | exact Nat.le_refl _ | exact hE.size) _))) (first | (go_at_call 52; refine (HP.out _ (bl_trans hW1 (by repeat' (first | exact bl_refl _ | refine bl_alloc ?_ _ | refine bl_drew ?_)))).mono ?_; rintro e V9 ⟨A9, c9, rfl, ho9, hb9⟩; refine haveFirst (p := Below V1.heap.size V1 V9) ?_ (fun hE => ?_); (focus (exact bl_trans (a := V1) (by repeat' (first | exact bl_refl _ | refine bl_alloc ?_ _ | refine bl_drew ?_)) hb9)); have e0 := cell_later hE bp1; have e1 := cell_later hE bq0; have e2 := cell_later hE bq1; have e3 := cell_later hE c2; refine haveFirst (p := V9.cell? ⟨V1.heap.size, 0, none⟩ = some (.string ⟨#[]⟩)) ?_ (fun hq0 => ?_); (focus (refine cell_later hb9 ?_; go_simp; done)); refine haveFirst (p := V9.cell? ⟨V1.heap.size, 1, none⟩ = some (.slice none 0 0)) ?_ (fun hq1 => ?_); (focus (refine cell_later hb9 ?_; go_simp; done)); refine haveFirst (p := V9.frozen? ⟨V1.heap.size, 0, none⟩ = false) ?_ (fun hf0 => ?_); (focus (refine frozen_later hb9 ?_ ?_; (focus (simp; done)); (focus (go_simp; done)))); refine haveFirst (p := V9.frozen? ⟨V1.heap.size, 1, none⟩ = false) ?_ (fun hf1 => ?_); (focus (refine frozen_later hb9 ?_ ?_; (focus (simp; done)); (focus (go_simp; done)))); have ho9 : Own V9 (V1.heap.size + 1) 59 (.slice A9 (putT ys y).length c9) (putT ys y) := ho9.mono (by simp); have hlz : V1.heap.size < V9.heap.size := World.block_lt_of_cell? _ _ hq0) | (go_at_call 52; refine (HP.out _ (bl_trans hW1 (by repeat' (first | exact bl_refl _ | refine bl_alloc ?_ _ | refine bl_drew ?_)))).mono ?_; rintro e V9 ⟨A9, c9, rfl, ho9, hb9⟩; refine haveFirst (p := Below V1.heap.size V1 V9) ?_ (fun hE => ?_); (focus (exact bl_trans (a := V1) (by repeat' (first | exact bl_refl _ | refine bl_alloc ?_ _ | refine bl_drew ?_)) hb9)); have e0 := cell_later hE bp1; have e1 := cell_later hE bq0; have e2 := cell_later hE bq1; have e3 := cell_later hE c2; have ho9 : Own V9 V1.heap.size 59 (.slice A9 (putT ys y).length c9) (putT ys y) := ho9.mono (by simp)))
    all_goals (go_wp2_with fail; go_meet; refine ⟨_, rfl, ?_, ?_, A9, c9, ?_, ?_, ?_⟩)
    all_goals (first | exact Nat.le_refl _ | exact hE.size | (focus (go_simp; done)) | (focus (repeat' (first | exact hE | refine bl_alloc ?_ _ | refine bl_set ?_ (Nat.le_refl _) _)); done) | (focus (exact Own.alloc ho9 _)) | (focus (refine Own.mono (base := V1.heap.size + 1) ?_ (Nat.le_succ _); (repeat' (first | exact ho9 | refine Own.set ?_ (Nat.lt_succ_self _) _)); done)))
  case rest =>
  obtain ⟨gb, rfl, hgb, hbx, B1, d1, bb0, bb1, ho_b⟩ := hcut
  obtain ⟨V2, hVV⟩ : ∃ V, V = wc := ⟨_, rfl⟩
  subst hVV
  have lb : gb < V2.heap.size := World.block_lt_of_cell? _ _ bb0
  have bp0 := cell_later hbx bp0
  have bp1 := cell_later hbx bp1
  have lp := Nat.lt_of_lt_of_le lp hbx.size
  have bq0 := cell_later hbx bq0
  have bq1 := cell_later hbx bq1
  have lq := Nat.lt_of_lt_of_le lq hbx.size
  have br0 := cell_later hbx br0
  have fr0 := frozen_later hbx lr fr0
  have br1 := cell_later hbx br1
  have fr1 := frozen_later hbx lr fr1
  have lr := Nat.lt_of_lt_of_le lr hbx.size
  have bt0 := cell_later hbx bt0
  have ft0 := frozen_later hbx lt ft0
  have bt1 := cell_later hbx bt1
  have ft1 := frozen_later hbx lt ft1
  have lt := Nat.lt_of_lt_of_le lt hbx.size
  have ba0 := cell_later hbx ba0
  have ba1 := cell_later hbx ba1
  have la := Nat.lt_of_lt_of_le la hbx.size
  have hoa := ho_a.below hbx
  have hW2 := bl_trans hW1 hbx
  have hz1 := hbx.size
  clear hbx ho_a
  have HT := Lib.hid (take_ok hX.out hkx hq.1)
  have HTV : Hid (∀ x, x ∈ takeT xs k q → x.Name.size ≤ maxLen) := fun x hx => takeT_names HVx.out hx
  have HPV : Hid (∀ x, x ∈ putT ys y → x.Name.size ≤ maxLen) := fun x hx => putT_names HV.out (by rw [HYE.out]; exact hnm) hx
  have hlT := thingsB_len HT.out
  have hlP := putT_len ys y
  have HLA : Hid (loadB s (takeT xs k q) = true) := by have h1 := HSX.out; unfold loadB at h1 ⊢; rw [HT.out]; simp only [Bool.and_eq_true] at h1 ⊢; exact ⟨h1.1, trivial⟩
  clear c2
  have hap : ∀ g, Value.ownBlock (.slice A1 (takeT xs k q).length c1') = some g → Value.ownBlock (.slice B1 (putT ys y).length d1) ≠ some g := fun g h1 h2 => by have e1 := HIA.out g h1; have e2 := (ho_b.lt g h2).1; omega
  have HAP := Lib.hid hap
  clear hap HIA
  go_wp2_with fail
  refine (eqLd_any s (takeT xs k q) A1 _ c1' _ hz (by omega) hoa.sl HTV.out).mono ?_
  rintro e V3 ⟨rfl, hb3⟩
  rw [HLA.out]
  have bp0 := cell_later hb3 bp0
  have bp1 := cell_later hb3 bp1
  have lp := Nat.lt_of_lt_of_le lp hb3.size
  have bq0 := cell_later hb3 bq0
  have bq1 := cell_later hb3 bq1
  have lq := Nat.lt_of_lt_of_le lq hb3.size
  have br0 := cell_later hb3 br0
  have fr0 := frozen_later hb3 lr fr0
  have br1 := cell_later hb3 br1
  have fr1 := frozen_later hb3 lr fr1
  have lr := Nat.lt_of_lt_of_le lr hb3.size
  have bt0 := cell_later hb3 bt0
  have ft0 := frozen_later hb3 lt ft0
  have bt1 := cell_later hb3 bt1
  have ft1 := frozen_later hb3 lt ft1
  have lt := Nat.lt_of_lt_of_le lt hb3.size
  have ba0 := cell_later hb3 ba0
  have ba1 := cell_later hb3 ba1
  have la := Nat.lt_of_lt_of_le la hb3.size
  have bb0 := cell_later hb3 bb0
  have bb1 := cell_later hb3 bb1
  have lb := Nat.lt_of_lt_of_le lb hb3.size
  have hoa := hoa.below hb3
  have hob := ho_b.below hb3
  have hW3 := bl_trans hW2 hb3
  have hz2 := hb3.size
  clear ho_b hb3
  go_wp2_with fail
  refine (eqLd_any u (putT ys y) B1 _ d1 _ hz' (by omega) hob.sl HPV.out).mono ?_
  rintro e V4 ⟨rfl, hb4⟩
  have bp0 := cell_later hb4 bp0
  have bp1 := cell_later hb4 bp1
  have lp := Nat.lt_of_lt_of_le lp hb4.size
  have bq0 := cell_later hb4 bq0
  have bq1 := cell_later hb4 bq1
  have lq := Nat.lt_of_lt_of_le lq hb4.size
  have br0 := cell_later hb4 br0
  have fr0 := frozen_later hb4 lr fr0
  have br1 := cell_later hb4 br1
  have fr1 := frozen_later hb4 lr fr1
  have lr := Nat.lt_of_lt_of_le lr hb4.size
  have bt0 := cell_later hb4 bt0
  have ft0 := frozen_later hb4 lt ft0
  have bt1 := cell_later hb4 bt1
  have ft1 := frozen_later hb4 lt ft1
  have lt := Nat.lt_of_lt_of_le lt hb4.size
  have ba0 := cell_later hb4 ba0
  have ba1 := cell_later hb4 ba1
  have la := Nat.lt_of_lt_of_le la hb4.size
  have bb0 := cell_later hb4 bb0
  have bb1 := cell_later hb4 bb1
  have lb := Nat.lt_of_lt_of_le lb hb4.size
  have hoa := hoa.below hb4
  have hob := hob.below hb4
  have hW4 := bl_trans hW3 hb4
  have hz3 := hb4.size
  clear hb4
  cases hb5 : loadB u (putT ys y)
  · have HZ : Hid (mvF ⟨s, xs⟩ ⟨u, ys⟩ nm q = no3) := mvF_bad (Int.not_lt.2 HN.out) HK.out (by show loadB u (putT ys ⟨nm, q, (nth xs k).Day⟩) = false; rw [← HYE.out]; exact hb5)
    clear hb5 hoa hob
    go_wp2
    refine bodyPost_ret (by simp [results, Try.results29, go_sem, br0, br1, bt0, bt1]; try rfl) rfl ?_
    exact retLoad3_mk HZ.out rfl rfl (Own.nil _ _ _) (Own.nil _ _ _) (fun k h => by simp [Value.ownBlock] at h) (by repeat' (first | exact hW4 | refine bl_alloc ?_ _ | refine bl_drew ?_ | refine bl_set ?_ (by simp only []; omega) _))
  have HZ : Hid (mvF ⟨s, xs⟩ ⟨u, ys⟩ nm q = (⟨s, takeT xs k q⟩, ⟨u, putT ys y⟩, true)) := by have h1 := mvF_good (x := ⟨s, xs⟩) (y := ⟨u, ys⟩) (Int.not_lt.2 HN.out) HK.out (by show loadB u (putT ys ⟨nm, q, (nth xs k).Day⟩) = true; rw [← HYE.out]; exact hb5); rw [Hid, h1]; show (_, (⟨u, putT ys ⟨nm, q, (nth xs k).Day⟩⟩ : Load), true) = _; rw [← HYE.out]
  have HOA := Lib.hid hoa
  have HOB := Lib.hid hob
  clear hb5 hoa hob
  have hgr : w.heap.size + 3 < V0.heap.size := by omega
  have hgb2 : V1.heap.size ≤ gb := hgb
  have na10 : ga ≠ w.heap.size + 1 + 1 := by omega
  have na11 : w.heap.size + 1 + 1 ≠ ga := by omega
  have na20 : ga ≠ w.heap.size + 1 + 1 + 1 := by omega
  have na21 : w.heap.size + 1 + 1 + 1 ≠ ga := by omega
  have nb10 : gb ≠ w.heap.size + 1 + 1 := by omega
  have nb11 : w.heap.size + 1 + 1 ≠ gb := by omega
  have nb20 : gb ≠ w.heap.size + 1 + 1 + 1 := by omega
  have nb21 : w.heap.size + 1 + 1 + 1 ≠ gb := by omega
  go_wp2_with fail
  go_region_held3 (fun w' => w'.cell? ⟨ga, 0, none⟩ = some (.string s) ∧ w'.cell? ⟨ga, 1, none⟩ = some (.slice A1 (takeT xs k q).length c1') ∧ w'.cell? ⟨gb, 0, none⟩ = some (.string u) ∧ w'.cell? ⟨gb, 1, none⟩ = some (.slice B1 (putT ys y).length d1)) (go_keep) (first | fail)
  go_wp2
  refine bodyPost_ret (v := .tuple #[.agg #[.string s, .slice A1 (takeT xs k q).length c1'], .agg #[.string u, .slice B1 (putT ys y).length d1], .bool true]) (by simp [results, Try.results29, go_sem, br0, br1, bt0, bt1]; try rfl) rfl ?_
  refine retLoad3_mk HZ.out rfl rfl (Own.mono (base := V0.heap.size) ?_ (by omega)) (Own.mono (base := V1.heap.size) ?_ (by omega)) HAP.out ?_
  · refine Own.below ?_ (bl_drew (bl_refl _))
    repeat' (first | exact HOA.out | refine Own.set ?_ (by omega) _)
  · refine Own.below ?_ (bl_drew (bl_refl _))
    repeat' (first | exact HOB.out | refine Own.set ?_ (by omega) _)
  · refine bl_drew ?_
    repeat' (first | exact hW4 | refine bl_set ?_ (by simp only []; omega) _)

end Go.Proofs.Ytokcgjjnljflaaa
