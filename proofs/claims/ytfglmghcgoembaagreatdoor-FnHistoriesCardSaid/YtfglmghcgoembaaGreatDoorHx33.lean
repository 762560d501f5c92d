/-
  Several texts in one. No conditions.
-/
import Derived.Test.YtfglmghcgoembaaGreatDoorHx32
import Derived.Test.YtfglmghcgoembaaGreatDoorHx25
namespace Go.Proofs.YtfglmghcgoembaaGreatDoor
open Go.RowKit

set_option maxRecDepth 100000 in
set_option maxHeartbeats 2000000 in
theorem entryText_any (x : Entry) (w : World) (hx : entB x = true) (ht : Tab w) :
    Calls Tryz.prog 65 #[.agg #[.int .i64 x.Room, .int .i64 x.Number, .int .i64 x.Minute, .string x.Text]] w fun e w' => e = .returned (.string (entT x)) ∧ Below w.heap.size w w' := by
  have h1 := entB_room hx
  obtain ⟨h2, h2'⟩ := entB_num hx
  obtain ⟨h3, h3'⟩ := entB_min hx
  obtain ⟨h4, h4'⟩ := textB_size (entB_text hx)
  have h1a : 1 ≤ x.Room := by omega
  have h1b : x.Room ≤ 2 := by omega
  have l1 := it_len (n := x.Room) (by omega) 0 (by omega)
  have l2 := it_len (n := x.Number) (by omega) 2 (by omega)
  have l3 := it_len (n := x.Minute) (by omega) 4 (by omega)
  clear h1 hx
  unfold entT
  go_enter Tryz.func65, Tryz.ntmps65
  go_wp2_with fail
  refine wp_region_grow (by kernel_rfl) (by kernel_rfl) (fun X hX => ?_)
  have hbX : Below w.heap.size w X := by rw [hX]; exact bl_alloc (bl_refl _) _
  have q0 : ∀ g : Gw X, g.val.cell? ⟨w.heap.size, 0, none⟩ = some (.int .i64 x.Room) := Gw.cell (by rw [hX]; go_simp)
  have q1 : ∀ g : Gw X, g.val.cell? ⟨w.heap.size, 1, none⟩ = some (.int .i64 x.Number) := Gw.cell (by rw [hX]; go_simp)
  have q2 : ∀ g : Gw X, g.val.cell? ⟨w.heap.size, 2, none⟩ = some (.int .i64 x.Minute) := Gw.cell (by rw [hX]; go_simp)
  have q3 : ∀ g : Gw X, g.val.cell? ⟨w.heap.size, 3, none⟩ = some (.string x.Text) := Gw.cell (by rw [hX]; go_simp)
  have hT : ∀ g : Gw X, Tab g.val := fun g => (ht.below hbX).below g.property
  have HT := Lib.hid hT
  clear hT
  have HX := Lib.hid hX
  clear hX
  repeat (go_big_quiet_step (exact Calls.grow_of (itoa_any _ _ (by omega) (by omega) (HT.out _))))
  refine wpGrow_nil (fun V hV => ?_)
  have hbV := bl_trans hbX hV
  clear q0 q1 q2 q3 hV hbX HX
  go_wp2
  go_ret
  exact ⟨rfl, hbV⟩
set_option maxRecDepth 100000 in
set_option maxHeartbeats 4000000 in
theorem entriesText_any (l : List Entry) (A : Option Addr) (n c : Nat) (w : World) (hn : n ≤ 1048576) (hs : Sl w A n l) (hv : ∀ j, j < l.length → entB (nth l j) = true) (ht : Tab w) :
    Calls Tryz.prog 41 #[.slice A n c] w fun e w' => e = .returned (.string (histT l l.length)) ∧ Below w.heap.size w w' := by
  have HL := Lib.hid hs.1
  have HLn := Lib.hid (histT_len hv)
  have HV := Lib.hid hv
  clear hv
  go_enter Tryz.func41, Tryz.ntmps41
  go_wp2
  go_loopw [3, 8] (fun tv iv wr => ∃ i : Nat, i ≤ n ∧ iv = .int .i64 i ∧ tv = .string (histT l i) ∧ Below w.heap.size w wr) (fun _ iv _ => n - (intOf iv).toNat)
  case atStart => exact ⟨0, Nat.zero_le _, rfl, rfl, bl_refl _⟩
  case round =>
    obtain ⟨i, hi, rfl, rfl, hb⟩ := hrel
    by_cases hlt : i < n
    · obtain ⟨b, o, rfl, hbz, c0, c1, c2, c3⟩ := (hs.below hb).entry hlt
      clear hs
      have hid1 : (i : Int) < n := by omega
      have hx0 := HV.out i (by rw [HL.out]; exact hlt)
      have hp := entT_len hx0
      have htl := HLn.out i (by rw [HL.out]; omega)
      have HX1 : Hid (histT l (i + 1) = histT l i ++ (entT (nth l i) ++ ⟨#[10]⟩)) := rfl
      obtain ⟨T, hT0⟩ : ∃ T, T = histT l i := ⟨_, rfl⟩
      rw [← hT0] at htl HX1 ⊢
      clear hT0
      obtain ⟨x, hx⟩ : ∃ x, nth l i = x := ⟨_, rfl⟩
      rw [hx] at c0 c1 c2 c3 hx0 hp HX1
      clear hx
      have kl := Lib.hid (show ∀ W : World, Tab W → Calls Tryz.prog 65 #[.agg #[.int .i64 x.Room, .int .i64 x.Number, .int .i64 x.Minute, .string x.Text]] W fun e w' => e = .returned (.string (entT x)) ∧ Below W.heap.size W w' from fun W ht => entryText_any x W hx0 ht)
      have htl2 : T.size ≤ 63963136 := by omega
      clear hx0 htl
      obtain ⟨E, hE⟩ : ∃ E, entT x = E := ⟨_, rfl⟩
      rw [hE] at hp kl HX1
      clear hE
      have hsz : (E ++ ⟨#[10]⟩ : ByteArray).size ≤ 61 := by rw [ByteArray.size_append]; have s1 : (⟨#[10]⟩ : ByteArray).size = 1 := rfl; omega
      go_wp2_with fail
      refine (kl.out _ ((ht.below hb).below (bl_alloc (bl_refl _) _))).mono ?_
      rintro e V ⟨rfl, hbV⟩
      have hb2 := bl_trans hb (bl_trans (bl_alloc (bl_refl _) _) hbV)
      go_wp2
      go_roundw
      case rel => exact ⟨i + 1, by omega, by go_num, by rw [HX1.out], hb2⟩
      case measure => simp [intOf]; omega
    · obtain hin : i = n := by omega
      have HF : Hid (histT l i = histT l l.length) := by rw [Hid, hin, HL.out]
      have hni : ¬ (i : Int) < n := by omega
      clear hs hin
      go_wp2
      go_ret
      exact ⟨congrArg (fun b => Ending.returned (.string b)) HF.out, hb⟩
end Go.Proofs.YtfglmghcgoembaaGreatDoor

namespace Go.Proofs.YtfglmghcgoembaaGreatDoor
open Go.RowKit

set_option maxHeartbeats 4000000 in
theorem implText_any (h : List Entry) (A : Option Addr) (n c : Nat) (w : World) (hn : n ≤ 1048576) (hs : Sl w A n h) (hv : ∀ x, x ∈ h → x.Text.size ≤ maxLen) (ht : Tab w) :
    Calls Tryz.prog 18 #[.slice A n c] w fun e w' => e = .returned (.tuple #[.string (htF h).1, .bool (htF h).2]) ∧ Below w.heap.size w w' := by
  obtain ⟨v, ev⟩ : ∃ v, hiB h = v := ⟨_, rfl⟩
  have kg := Lib.hid (show ∀ (W : World), Sl W A n h → Calls Tryz.prog 27 #[.slice A n c] W fun e w' => e = .returned (.bool v) ∧ Below W.heap.size W w' from fun W hs => by have h := isHistory_any h A n c W hn hs hv; rw [ev] at h; exact h)
  have EV := Lib.hid ev
  clear ev hv
  go_enter Tryz.func18, Tryz.ntmps18
  go_wp2_with fail
  refine (kg.out _ hs).mono ?_
  rintro e V1 ⟨rfl, hb1⟩
  cases v
  · go_wp2
    go_ret2
    exact ⟨(by rw [htF_no EV.out]; first | done | rfl), hb1⟩
  · go_wp2_with fail
    refine (entriesText_any h A n c _ hn (hs.below hb1) (hi_ents EV.out) (ht.below hb1)).mono ?_
    rintro e V2 ⟨rfl, hb2⟩
    go_wp2
    go_ret2
    exact ⟨(by rw [htF_yes EV.out]; first | done | rfl), bl_trans hb1 hb2⟩
end Go.Proofs.YtfglmghcgoembaaGreatDoor
