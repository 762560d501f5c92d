/-
  Several texts in one. No conditions.
-/
import Derived.Test.YtfglmghcgoembaaGreatDoorHx26
import Derived.Test.YtfglmghcgoembaaGreatDoorHx25
import Derived.Test.YtfglmghcgoembaaGreatDoorHiI
import Derived.Test.YtfglmghcgoembaaGreatDoorHx21
import Derived.Test.YtfglmghcgoembaaGreatDoorHx5
namespace Go.Proofs.YtfglmghcgoembaaGreatDoor
open Go.RowKit

theorem enters_lk : Enters Tryz.prog 36 := enters_of Tryz.func36 (by kernel_rfl) (by kernel_rfl)
theorem pred_lk (w0 w : World) (F : List Nat) (B : Nat) (a : List Entry) (A : Option Addr) (n c : Nat) (hn : n ≤ 1048576) (hb0 : Below w0.heap.size w0 w) (hF : ∀ k, k ∈ F → w0.heap.size ≤ k) (ha : w0.cell? ⟨B, 0, none⟩ = some (.slice A n c)) (hs : Sl w0 A n a) (xs : List Entry) :
    Pred Tryz.prog w F xs 36 EntryVal #[.pointer (some ⟨B, 0, none⟩)] (fun e => decide (e ∈ a)) := by
  intro W x _ hof
  have hb : Below w0.heap.size w0 W := hb0.trans ⟨hof.os, hof.tape, hof.output, hof.size, fun k hk => hof.block k (Nat.lt_of_lt_of_le hk hb0.size) (fun hm => by have := hF k hm; omega)⟩
  have ha' := cell_later hb ha
  have hs' := hs.below hb
  have hz : B < W.heap.size := World.block_lt_of_cell? W _ ha'
  clear ha hb0 hF hof hb hs
  show Calls _ _ #[EntryVal x, .pointer (some ⟨B, 0, none⟩)] W _
  unfold EntryVal
  obtain ⟨v, hv⟩ : ∃ v, decide (x ∈ a) = v := ⟨_, rfl⟩
  have kc := Lib.hid (show ∀ W : World, Sl W A n a → Calls Tryz.prog 37 #[.slice A n c, .agg #[.int .i64 x.Room, .int .i64 x.Number, .int .i64 x.Minute, .string x.Text]] W fun e w' => e = .returned (.bool v) ∧ Below W.heap.size W w' from fun W h1 => by have h := containsE_any a x A n c W hn h1; rw [hv] at h; exact h)
  have HV := Lib.hid hv
  clear hv
  go_enter Tryz.func36, Tryz.ntmps36
  go_wp2_with fail
  refine (kc.out _ (hs'.below (bl_alloc (bl_refl _) _))).mono ?_
  rintro e V ⟨rfl, hbv⟩
  go_wp2
  go_ret
  exact ⟨ret_bool (by rw [HV.out]), bl_trans (bl_alloc (bl_refl _) _) hbv⟩
set_option maxHeartbeats 8000000 in
theorem implLack_any (a b : List Entry) (A B : Option Addr) (n m c d : Nat) (w : World) (hn : n ≤ 1048576) (hm : m ≤ 1048576) (hs : Sl w A n a) (ht : Sl w B m b) (hv : ∀ x, x ∈ a → x.Text.size ≤ maxLen) (hu : ∀ x, x ∈ b → x.Text.size ≤ maxLen) :
    Calls Tryz.prog 8 #[.slice A n c, .slice B m d] w (RetOwn2 w 40 (lkF a b)) := by
  have HA := Lib.hid hs.1
  have HB := Lib.hid ht.1
  obtain ⟨v, ev⟩ : ∃ v, hiB a = v := ⟨_, rfl⟩
  obtain ⟨u, eu⟩ : ∃ v, hiB b = v := ⟨_, rfl⟩
  have kg := Lib.hid (show ∀ (W : World), Sl W A n a → Calls Tryz.prog 27 #[.slice A n c] W fun e w' => e = .returned (.bool v) ∧ Below W.heap.size W w' from fun W hs => by have h := isHistory_any a A n c W hn hs hv; rw [ev] at h; exact h)
  have kh := Lib.hid (show ∀ (W : World), Sl W B m b → Calls Tryz.prog 27 #[.slice B m d] W fun e w' => e = .returned (.bool u) ∧ Below W.heap.size W w' from fun W hs => by have h := isHistory_any b B m d W hm hs hu; rw [eu] at h; exact h)
  have EV := Lib.hid ev
  have EU := Lib.hid eu
  clear ev eu hv hu
  have hb0 := bl_alloc (bl_refl w) (.cells #[.slice A n c] 24)
  have HB0 := Lib.hid hb0
  clear hb0
  go_enter Tryz.func8, Tryz.ntmps8
  go_wp2_with fail
  refine (kg.out _ (hs.below HB0.out)).mono ?_
  rintro e V1 ⟨rfl, hb1⟩
  have g1 : V1.cell? ⟨w.heap.size, 0, none⟩ = some (.slice A n c) := cell_later hb1 (by go_simp)
  have lg1 := World.block_lt_of_cell? _ _ g1
  have hk1 := bl_trans HB0.out hb1
  cases v
  · go_wp2
    go_ret2
    exact retOwn2_mk (lkF_no (by rw [EV.out]; rfl)) (Own.nil _ _ _) hk1
  · go_wp2_with fail
    refine (kh.out _ (ht.below hk1)).mono ?_
    rintro e V2 ⟨rfl, hb2⟩
    have hk2 := bl_trans hk1 hb2
    cases u
    · go_wp2
      go_ret2
      exact retOwn2_mk (lkF_no (by rw [EU.out, Bool.and_false])) (Own.nil _ _ _) hk2
    · have g2 := cell_later hb2 g1
      have lg2 := World.block_lt_of_cell? _ _ g2
      go_wp2_with fail
      refine (clone_entry b B m d _ hm (ht.below hk2)).mono ?_
      rintro e V3 ⟨A3, c3, rfl, ho3, hb3⟩
      have HP := Lib.hid (pred_lk V2 V3 (Value.ownBlock (.slice A3 b.length c3)).toList w.heap.size a A n c hn hb3 (fun k hk => (ho3.lies k hk).1) g2 (hs.below hk2) b)
      go_wp2_with fail
      refine (deleteFunc_entry b A3 _ c3 _ _ _ (fun e => decide (e ∈ a)) _ (by have := HB.out; omega) ho3 enters_lk HP.out).mono ?_
      rintro e V4 ⟨p, rfl, ho4, hp4, hf4⟩
      have hk3 := bl_trans hk2 hb3
      go_wp2
      go_ret2
      exact retOwn2_mk (xs := lackL a b) (lkF_yes EV.out EU.out) (ho4.mono hk2.size) (below_only hk3 hf4 ho3.lies hk2.size)
end Go.Proofs.YtfglmghcgoembaaGreatDoor

namespace Go.Proofs.YtfglmghcgoembaaGreatDoor
open Go.RowKit

theorem enters_po : Enters Tryz.prog 46 := enters_of Tryz.func46 (by kernel_rfl) (by kernel_rfl)
theorem pred_po (w : World) (B C : Nat) (r q : Int) (ha : w.cell? ⟨B, 0, none⟩ = some (.int .i64 r)) (hc : w.cell? ⟨C, 0, none⟩ = some (.int .i64 q)) (xs : List Entry) :
    Pred Tryz.prog w [] xs 46 EntryVal #[.pointer (some ⟨B, 0, none⟩), .pointer (some ⟨C, 0, none⟩)] (isP r q) := by
  intro W x _ hof
  have ha' := hof.keeps ha (by simp)
  have hc' := hof.keeps hc (by simp)
  have hz : B < W.heap.size := World.block_lt_of_cell? W _ ha'
  have hy : C < W.heap.size := World.block_lt_of_cell? W _ hc'
  clear ha hc hof
  show Calls _ _ #[EntryVal x, .pointer (some ⟨B, 0, none⟩), .pointer (some ⟨C, 0, none⟩)] W _
  unfold EntryVal isP
  by_cases h1 : x.Room = r
  · have e1 : (x.Room == r) = true := by simpa using h1
    by_cases h2 : x.Number = q
    · have e2 : (x.Number == q) = true := by simpa using h2
      rw [e1, e2]
      clear h1 h2
      go_enter Tryz.func46, Tryz.ntmps46
      go_wp2
      go_ret
      exact ⟨rfl, bl_alloc (bl_refl _) _⟩
    · have e2 : (x.Number == q) = false := by simpa using h2
      rw [e1, e2]
      clear h1 h2
      go_enter Tryz.func46, Tryz.ntmps46
      go_wp2
      go_ret
      exact ⟨rfl, bl_alloc (bl_refl _) _⟩
  · have e1 : (x.Room == r) = false := by simpa using h1
    rw [e1]
    clear h1
    go_enter Tryz.func46, Tryz.ntmps46
    go_wp2
    go_ret
    exact ⟨rfl, bl_alloc (bl_refl _) _⟩
set_option maxHeartbeats 4000000 in
theorem placeOf_any (h : List Entry) (A : Option Addr) (n c i : Nat) (r q : Int) (w : World) (hn : n ≤ 1048576) (hs : Sl w A n h) (hv : ∀ x, x ∈ h → x.Text.size ≤ maxLen) (hh : hiB h = true) (hr : inB r 1 2 = true) (hq : inB q 1 999 = true) (hi : indexF (isP r q) h = (i : Int)) :
    Calls Tryz.prog 20 #[.slice A n c, .int .i64 r, .int .i64 q] w fun e w' => e = .returned (.tuple #[.int .i64 (i : Int), .bool true]) ∧ Below w.heap.size w w' := by
  have kg := Lib.hid (show ∀ (W : World), Sl W A n h → Calls Tryz.prog 27 #[.slice A n c] W fun e w' => e = .returned (.bool true) ∧ Below W.heap.size W w' from fun W hs => by have h := isHistory_any h A n c W hn hs hv; rw [hh] at h; exact h)
  have kr := Lib.hid (show ∀ W : World, Calls Tryz.prog 43 #[.int .i64 r] W fun e w' => e = .returned (.bool true) ∧ w' = W from fun W => by have h := isRoom_any r W; rw [hr] at h; exact h)
  have kn := Lib.hid (show ∀ W : World, Calls Tryz.prog 44 #[.int .i64 q, .int .i64 1, .int .i64 999] W fun e w' => e = .returned (.bool true) ∧ w' = W from fun W => by have h := inside_any q 1 999 W; rw [hq] at h; exact h)
  have HI := Lib.hid hi
  clear hh hr hq hi hv
  go_enter Tryz.func20, Tryz.ntmps20
  go_wp2_with fail
  refine (kg.out _ ((hs.below (bl_alloc (bl_refl _) _)).below (bl_alloc (bl_refl _) _))).mono ?_
  rintro e V ⟨rfl, hb1⟩
  have hb : Below w.heap.size w V := bl_trans (bl_alloc (bl_alloc (bl_refl _) _) _) hb1
  have c0 : V.cell? ⟨w.heap.size, 0, none⟩ = some (.int .i64 r) := cell_later hb1 (by go_simp)
  have c1 : V.cell? ⟨w.heap.size + 1, 0, none⟩ = some (.int .i64 q) := cell_later hb1 (by go_simp)
  have lz0 : w.heap.size < V.heap.size := World.block_lt_of_cell? V _ c0
  have lz1 : w.heap.size + 1 < V.heap.size := World.block_lt_of_cell? V _ c1
  have hsV := hs.below hb
  clear hb1 hs
  go_wp2_with fail
  refine (kr.out _).mono ?_
  rintro e V2 ⟨rfl, rfl⟩
  go_wp2_with fail
  refine (kn.out _).mono ?_
  rintro e V2 ⟨rfl, rfl⟩
  have HP := Lib.hid (pred_po V2 w.heap.size (w.heap.size + 1) r q c0 c1 h)
  go_wp2_with fail
  refine (indexFunc_entry h A n c _ _ (isP r q) _ (by omega) hsV enters_po _ HP.out).mono ?_
  rintro e V3 ⟨rfl, hb3⟩
  rw [HI.out]
  have hd : (0 : Int) ≤ (i : Int) := by omega
  go_wp2
  go_ret2
  exact ⟨rfl, bl_trans hb hb3⟩
set_option maxHeartbeats 8000000 in
theorem historyOf_yes (f s : List Entry) (A B : Option Addr) (n m c d : Nat) (w : World) (hs : Sl w A n f) (ht : Sl w B m s) (hf : Lg f) (hg : Lg s) (o1 : OfR 1 f) (o2 : OfR 2 s) :
    Calls Tryz.prog 15 #[.slice A n c, .slice B m d] w fun e w' => ∃ A3 c3, e = .returned (.tuple #[.slice A3 (mgL f s).length c3, .bool true]) ∧ Own w' w.heap.size 40 (.slice A3 (mgL f s).length c3) (mgL f s) ∧ Below w.heap.size w w' := by
  have hl1 := hs.1
  have hl2 := ht.1
  have hn := hf.len
  have hm := hg.len
  have hsm : ∀ {l : List Entry}, Lg l → ∀ x, x ∈ l → x.Text.size ≤ maxLen := fun hl x hx => by obtain ⟨k, hk, rfl⟩ := ix_of hx; have := textB_size (entB_text (hl.one k hk)); unfold maxLen; omega
  have k1 := Lib.hid (show ∀ (W : World), Sl W A n f → Calls Tryz.prog 40 #[.slice A n c] W fun e w' => e = .returned (.bool true) ∧ Below W.heap.size W w' from fun W h1 => by have h := isLog_any f A n c W (by omega) h1 (hsm hf); rw [lg_iff.2 hf] at h; exact h)
  have k2 := Lib.hid (show ∀ (W : World), Sl W B m s → Calls Tryz.prog 40 #[.slice B m d] W fun e w' => e = .returned (.bool true) ∧ Below W.heap.size W w' from fun W h1 => by have h := isLog_any s B m d W (by omega) h1 (hsm hg); rw [lg_iff.2 hg] at h; exact h)
  have k3 := Lib.hid (show ∀ (W : World), Sl W A n f → Sl W B m s → Calls Tryz.prog 30 #[.slice A n c, .slice B m d] W (RetOwn W 40 (mgL f s)) from fun W h1 h2 => historyOf_any f s A B n m c d W (by omega) (by omega) h1 h2 (hist_of hf hg o1 o2).1.srt)
  have q1 : ∀ h0 : 0 < n, (nth f 0).Room = 1 := fun h0 => o1 _ (nth_mem (by omega))
  have q2 : ∀ h0 : 0 < m, (nth s 0).Room = 2 := fun h0 => o2 _ (nth_mem (by omega))
  have Q1 := Lib.hid q1
  have Q2 := Lib.hid q2
  have HN : Hid (n ≤ 20) := by rw [Hid]; omega
  have HM : Hid (m ≤ 20) := by rw [Hid]; omega
  clear q1 q2 hsm hf hg o1 o2 hl1 hl2 hn hm
  go_enter Tryz.func15, Tryz.ntmps15
  go_wp2_with fail
  refine (k1.out _ hs).mono ?_
  rintro e V1 ⟨rfl, hb1⟩
  go_wp2_with fail
  refine (k2.out _ (ht.below hb1)).mono ?_
  rintro e V2 ⟨rfl, hb2⟩
  have hb := bl_trans hb1 hb2
  have hs2 := hs.below hb
  have ht2 := ht.below hb
  clear hb1 hb2 hs ht
  by_cases hn : 0 < n
  · obtain ⟨bf, of, rfl, hzf, f0, f1, f2, f3⟩ := hs2.entry (k := 0) hn
    have fz : V2.cell? ⟨bf, of, none⟩ = some (.int .i64 1) := by rw [← Q1.out hn]; simpa using f0
    clear f0 f1 f2 f3
    have fd : decide ((n : Int) > 0) = true := by simpa using hn
    have fe : (0 : Int) < n := by omega
    by_cases hm : 0 < m
    · obtain ⟨bs, os, rfl, hzs, s0, s1, s2, s3⟩ := ht2.entry (k := 0) hm
      have sz : V2.cell? ⟨bs, os, none⟩ = some (.int .i64 2) := by rw [← Q2.out hm]; simpa using s0
      clear s0 s1 s2 s3
      have sd : decide ((m : Int) > 0) = true := by simpa using hm
      have se : (0 : Int) < m := by omega
      go_wp2_with fail
      refine (k3.out _ hs2 ht2).mono ?_
      rintro e V3 ⟨A3, c3, rfl, ho3, hb3⟩
      go_wp2
      go_ret2
      exact ⟨A3, c3, rfl, ho3.mono hb.size, bl_trans hb hb3⟩
    · have sd : decide ((m : Int) > 0) = false := by simp; omega
      have se : ¬ (0 : Int) < m := by omega
      go_wp2_with fail
      refine (k3.out _ hs2 ht2).mono ?_
      rintro e V3 ⟨A3, c3, rfl, ho3, hb3⟩
      go_wp2
      go_ret2
      exact ⟨A3, c3, rfl, ho3.mono hb.size, bl_trans hb hb3⟩
  · have fd : decide ((n : Int) > 0) = false := by simp; omega
    have fe : ¬ (0 : Int) < n := by omega
    by_cases hm : 0 < m
    · obtain ⟨bs, os, rfl, hzs, s0, s1, s2, s3⟩ := ht2.entry (k := 0) hm
      have sz : V2.cell? ⟨bs, os, none⟩ = some (.int .i64 2) := by rw [← Q2.out hm]; simpa using s0
      clear s0 s1 s2 s3
      have sd : decide ((m : Int) > 0) = true := by simpa using hm
      have se : (0 : Int) < m := by omega
      go_wp2_with fail
      refine (k3.out _ hs2 ht2).mono ?_
      rintro e V3 ⟨A3, c3, rfl, ho3, hb3⟩
      go_wp2
      go_ret2
      exact ⟨A3, c3, rfl, ho3.mono hb.size, bl_trans hb hb3⟩
    · have sd : decide ((m : Int) > 0) = false := by simp; omega
      have se : ¬ (0 : Int) < m := by omega
      go_wp2_with fail
      refine (k3.out _ hs2 ht2).mono ?_
      rintro e V3 ⟨A3, c3, rfl, ho3, hb3⟩
      go_wp2
      go_ret2
      exact ⟨A3, c3, rfl, ho3.mono hb.size, bl_trans hb hb3⟩
end Go.Proofs.YtfglmghcgoembaaGreatDoor
