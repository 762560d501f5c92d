/-
  Several texts in one. No conditions.
-/
import Derived.Test.YtpdblmcflniomaaGreatDoorIv1
import Derived.Test.YtpdblmcflniomaaGreatDoorIv5
import Derived.Test.YtpdblmcflniomaaGreatDoorIv3
import Derived.Test.YtpdblmcflniomaaGreatDoorIv6
namespace Go.Proofs.YtpdblmcflniomaaGreatDoor
open Go.RowKit

structure Appliance where
  Name : ByteArray
  Kind : Int
  Node : Int
  Crew : Int
  State : Int
  deriving DecidableEq
instance : Inhabited Appliance := ⟨⟨ByteArray.empty, 0, 0, 0, 0⟩⟩
instance : Flat Appliance where
  sz := 5
  pos := by omega
  enc := fun x => [.string (x.Name), .int .i64 (x.Kind), .int .i64 (x.Node), .int .i64 (x.Crew), .int .i64 (x.State)]
  len := fun _ => rfl
  one := fun _ u h => by simp at h; rcases h with rfl | rfl | rfl | rfl | rfl <;> rfl
theorem Sl.appliance {w : World} {A : Option Addr} {n : Nat} {xs : List Appliance} (h : Sl w A n xs) {k : Nat} (hk : k < n) :
    ∃ b o, A = some ⟨b, o, none⟩ ∧ b < w.heap.size ∧ w.cell? ⟨b, o + k * 5, none⟩ = some (.string ((nth xs k).Name)) ∧ w.cell? ⟨b, o + k * 5 + 1, none⟩ = some (.int .i64 ((nth xs k).Kind)) ∧ w.cell? ⟨b, o + k * 5 + 2, none⟩ = some (.int .i64 ((nth xs k).Node)) ∧ w.cell? ⟨b, o + k * 5 + 3, none⟩ = some (.int .i64 ((nth xs k).Crew)) ∧ w.cell? ⟨b, o + k * 5 + 4, none⟩ = some (.int .i64 ((nth xs k).State)) := by
  obtain ⟨b, o, rfl, hc⟩ := h.flat hk
  exact ⟨b, o, rfl, h.lt hk, hc 0 _ rfl, hc 1 _ rfl, hc 2 _ rfl, hc 3 _ rfl, hc 4 _ rfl⟩
theorem appliance_eq {x y : Appliance} : sameB x y = (sameB x.Name y.Name && sameB x.Kind y.Kind && sameB x.Node y.Node && sameB x.Crew y.Crew && sameB x.State y.State) := by
  cases x; cases y; simp [sameB, Bool.and_assoc]
theorem appliance_info : (Tryz.prog.info? 48).map (fun i => (i.zero, i.size, i.bytes)) = some (some (.agg #[.string ByteArray.empty, .int .i64 0, .int .i64 0, .int .i64 0, .int .i64 0]), 5, 48) := by kernel_rfl
def mkAppliance (m : Int) : Appliance := ⟨mkT m, (m + 1), (m + 1 + 1), (m + 1 + 1 + 1), (m + 1 + 1 + 1 + 1)⟩
end Go.Proofs.YtpdblmcflniomaaGreatDoor

namespace Go.Proofs.YtpdblmcflniomaaGreatDoor
open Go.RowKit

def applB (x : Appliance) : Bool := nameB x.Name && inB x.Kind 0 3 && inB x.Node 0 13 && inB x.Crew 1 9 && inB x.State 0 5
theorem apState_any (n : Int) (w : World) :
    Calls Tryz.prog 105 #[.int .i64 n] w fun e w' => e = .returned (.bool (inB n 0 5)) ∧ w' = w := by
  go_enter Tryz.func105, Tryz.ntmps105
  go_wp2_with (go_at_call 76; refine (l1In_any _ _ _ _).mono ?_; rintro e V ⟨rfl, rfl⟩)
  go_ret
  exact ⟨rfl, rfl⟩
theorem isSt_any (n : Int) (w : World) :
    Calls Tryz.prog 103 #[.int .i64 n] w fun e w' => e = .returned (.bool (inB n 0 5)) ∧ w' = w := by
  go_enter Tryz.func103, Tryz.ntmps103
  go_wp2_with (go_at_call 36; refine (inside_any _ _ _ _).mono ?_; rintro e V ⟨rfl, rfl⟩)
  go_ret
  exact ⟨rfl, rfl⟩
set_option maxHeartbeats 1000000 in
theorem apGood_any (x : Appliance) (w : World) (hx : x.Name.size ≤ maxLen) :
    Calls Tryz.prog 85 #[.agg #[.string x.Name, .int .i64 x.Kind, .int .i64 x.Node, .int .i64 x.Crew, .int .i64 x.State]] w fun e w' => e = .returned (.bool (applB x)) ∧ Below w.heap.size w w' := by
  go_enter Tryz.func85, Tryz.ntmps85
  have hk0 := bl_refl w
  go_wp2_with fail
  refine (apName_any x.Name _ hx).mono ?_
  rintro e V1 ⟨rfl, hb1⟩
  have hB1 := bl_trans (a := w) (by repeat' (first | exact bl_refl _ | refine bl_alloc ?_ _ | refine bl_drew ?_ | refine bl_drewN ?_ _ | refine bl_set ?_ ?_ _ | (simp; done) | (simp; omega))) hb1
  have hk1 := bl_trans hk0 hB1
  have z1 : Hid (w.heap.size + 1 ≤ V1.heap.size) := by have := hb1.size; simp only [World.size_alloc] at this; exact (by omega : _)
  have ba_0_1 : V1.cell? ⟨w.heap.size, 0, none⟩ = some (.string x.Name) := cell_later hb1 (by go_simp)
  have ba_1_1 : V1.cell? ⟨w.heap.size, 1, none⟩ = some (.int .i64 x.Kind) := cell_later hb1 (by go_simp)
  have ba_2_1 : V1.cell? ⟨w.heap.size, 2, none⟩ = some (.int .i64 x.Node) := cell_later hb1 (by go_simp)
  have ba_3_1 : V1.cell? ⟨w.heap.size, 3, none⟩ = some (.int .i64 x.Crew) := cell_later hb1 (by go_simp)
  have ba_4_1 : V1.cell? ⟨w.heap.size, 4, none⟩ = some (.int .i64 x.State) := cell_later hb1 (by go_simp)
  have la_1 : w.heap.size < V1.heap.size := World.block_lt_of_cell? _ _ ba_0_1
  cases h0 : nameB x.Name
  · have q : Hid (applB x = false) := by rw [Hid, applB, h0]; simp
    clear h0
    go_wp2
    go_ret
    exact ⟨ret_bool q.out.symm, hk1⟩
  have H0 := Lib.hid h0
  go_wp2_with fail
  refine (l1In_any x.Kind 0 3 _).mono ?_
  rintro _ V1 ⟨rfl, rfl⟩
  cases h1 : inB x.Kind 0 3
  · have q : Hid (applB x = false) := by rw [Hid, applB, h0, h1]; simp
    clear h1
    go_wp2
    go_ret
    exact ⟨ret_bool q.out.symm, hk1⟩
  have H1 := Lib.hid h1
  go_wp2_with fail
  refine (apNode_any x.Node _).mono ?_
  rintro _ V1 ⟨rfl, rfl⟩
  cases h2 : inB x.Node 0 13
  · have q : Hid (applB x = false) := by rw [Hid, applB, h0, h1, h2]; simp
    clear h2
    go_wp2
    go_ret
    exact ⟨ret_bool q.out.symm, hk1⟩
  have H2 := Lib.hid h2
  go_wp2_with fail
  refine (l1In_any x.Crew 1 9 _).mono ?_
  rintro _ V1 ⟨rfl, rfl⟩
  cases h3 : inB x.Crew 1 9
  · have q : Hid (applB x = false) := by rw [Hid, applB, h0, h1, h2, h3]; simp
    clear h3
    go_wp2
    go_ret
    exact ⟨ret_bool q.out.symm, hk1⟩
  have H3 := Lib.hid h3
  go_wp2_with fail
  refine (apState_any x.State _).mono ?_
  rintro _ V1 ⟨rfl, rfl⟩
  have q : Hid (applB x = inB x.State 0 5) := by rw [Hid, applB, h0, h1, h2, h3]; simp
  clear h0 h1 h2 h3
  go_wp2
  go_ret
  exact ⟨ret_bool q.out.symm, hk1⟩
set_option maxHeartbeats 1000000 in
theorem isAppliance_any (x : Appliance) (w : World) (hx : x.Name.size ≤ maxLen) :
    Calls Tryz.prog 82 #[.agg #[.string x.Name, .int .i64 x.Kind, .int .i64 x.Node, .int .i64 x.Crew, .int .i64 x.State]] w fun e w' => e = .returned (.bool (applB x)) ∧ Below w.heap.size w w' := by
  go_enter Tryz.func82, Tryz.ntmps82
  have hk0 := bl_refl w
  go_wp2_with fail
  refine (isName_any x.Name _ hx).mono ?_
  rintro e V1 ⟨rfl, hb1⟩
  have hB1 := bl_trans (a := w) (by repeat' (first | exact bl_refl _ | refine bl_alloc ?_ _ | refine bl_drew ?_ | refine bl_drewN ?_ _ | refine bl_set ?_ ?_ _ | (simp; done) | (simp; omega))) hb1
  have hk1 := bl_trans hk0 hB1
  have z1 : Hid (w.heap.size + 1 ≤ V1.heap.size) := by have := hb1.size; simp only [World.size_alloc] at this; exact (by omega : _)
  have ba_0_1 : V1.cell? ⟨w.heap.size, 0, none⟩ = some (.string x.Name) := cell_later hb1 (by go_simp)
  have ba_1_1 : V1.cell? ⟨w.heap.size, 1, none⟩ = some (.int .i64 x.Kind) := cell_later hb1 (by go_simp)
  have ba_2_1 : V1.cell? ⟨w.heap.size, 2, none⟩ = some (.int .i64 x.Node) := cell_later hb1 (by go_simp)
  have ba_3_1 : V1.cell? ⟨w.heap.size, 3, none⟩ = some (.int .i64 x.Crew) := cell_later hb1 (by go_simp)
  have ba_4_1 : V1.cell? ⟨w.heap.size, 4, none⟩ = some (.int .i64 x.State) := cell_later hb1 (by go_simp)
  have la_1 : w.heap.size < V1.heap.size := World.block_lt_of_cell? _ _ ba_0_1
  cases h0 : nameB x.Name
  · have q : Hid (applB x = false) := by rw [Hid, applB, h0]; simp
    clear h0
    go_wp2
    go_ret
    exact ⟨ret_bool q.out.symm, hk1⟩
  have H0 := Lib.hid h0
  go_wp2_with fail
  refine (inside_any x.Kind 0 3 _).mono ?_
  rintro _ V1 ⟨rfl, rfl⟩
  cases h1 : inB x.Kind 0 3
  · have q : Hid (applB x = false) := by rw [Hid, applB, h0, h1]; simp
    clear h1
    go_wp2
    go_ret
    exact ⟨ret_bool q.out.symm, hk1⟩
  have H1 := Lib.hid h1
  go_wp2_with fail
  refine (inside_any x.Node 0 13 _).mono ?_
  rintro _ V1 ⟨rfl, rfl⟩
  cases h2 : inB x.Node 0 13
  · have q : Hid (applB x = false) := by rw [Hid, applB, h0, h1, h2]; simp
    clear h2
    go_wp2
    go_ret
    exact ⟨ret_bool q.out.symm, hk1⟩
  have H2 := Lib.hid h2
  go_wp2_with fail
  refine (inside_any x.Crew 1 9 _).mono ?_
  rintro _ V1 ⟨rfl, rfl⟩
  cases h3 : inB x.Crew 1 9
  · have q : Hid (applB x = false) := by rw [Hid, applB, h0, h1, h2, h3]; simp
    clear h3
    go_wp2
    go_ret
    exact ⟨ret_bool q.out.symm, hk1⟩
  have H3 := Lib.hid h3
  go_wp2_with fail
  refine (isSt_any x.State _).mono ?_
  rintro _ V1 ⟨rfl, rfl⟩
  have q : Hid (applB x = inB x.State 0 5) := by rw [Hid, applB, h0, h1, h2, h3]; simp
  clear h0 h1 h2 h3
  go_wp2
  go_ret
  exact ⟨ret_bool q.out.symm, hk1⟩

end Go.Proofs.YtpdblmcflniomaaGreatDoor

namespace Go.Proofs.YtpdblmcflniomaaGreatDoor
open Go.RowKit

def okAp (xs : List Appliance) (k : Nat) : Bool := applB (nth xs k) && !(decide (0 < k) && !Op.bytesLess (nth xs (k - 1)).Name.toList (nth xs k).Name.toList)
def fleetB (xs : List Appliance) : Bool := allB xs.length (okAp xs) && decide (xs.length ≤ 12)
theorem okAp_0 {xs : List Appliance} {k : Nat} (h : applB (nth xs k) = false) : okAp xs k = false := by simp only [okAp, h]; rfl
theorem okAp_1 {xs : List Appliance} {k : Nat} (h : 0 < k) (h' : Op.bytesLess (nth xs (k - 1)).Name.toList (nth xs k).Name.toList = false) : okAp xs k = false := by simp only [okAp, decide_eq_true h, h']; simp
theorem okAp_y {xs : List Appliance} {k : Nat} (h : applB (nth xs k) = true) (h' : ¬ 0 < k ∨ Op.bytesLess (nth xs (k - 1)).Name.toList (nth xs k).Name.toList = true) : okAp xs k = true := by
  rcases h' with h' | h'
  · simp only [okAp, h, decide_eq_false h']; rfl
  · simp only [okAp, h, h']; simp
theorem fleetB_no {xs : List Appliance} {k : Nat} (hk : k < xs.length) (h : okAp xs k = false) : fleetB xs = false := by simp only [fleetB, allB_false hk h]; rfl
theorem fleetB_all {xs : List Appliance} (h : ∀ j, j < xs.length → okAp xs j = true) : fleetB xs = decide (xs.length ≤ 12) := by simp only [fleetB, allB_true h]; rfl
theorem fleetB_len {xs : List Appliance} (h : fleetB xs = true) : xs.length ≤ 12 := by simp [fleetB] at h; exact h.2
set_option maxHeartbeats 4000000 in
theorem apFleet_any (xs : List Appliance) (A : Option Addr) (n c : Nat) (w : World) (hn : (n : Int) ≤ 9223372036854775807) (hs : Sl w A n xs) (hv : ∀ x, x ∈ xs → x.Name.size ≤ maxLen) :
    Calls Tryz.prog 51 #[.slice A n c] w fun e w' => e = .returned (.bool (fleetB xs)) ∧ Below w.heap.size w w' := by
  have HV := Lib.hid hv
  clear hv
  have HL := Lib.hid hs.1
  go_enter Tryz.func51, Tryz.ntmps51
  go_wp2
  go_loopw [7] (fun i wr => ∃ k : Nat, k ≤ n ∧ i = .int .i64 k ∧ Below w.heap.size w wr ∧ Hid (∀ j, j < k → okAp xs j = true)) (fun i _ => n - (intOf i).toNat)
  case atStart => exact ⟨0, Nat.zero_le _, rfl, Below.refl _ _, fun j hj => absurd hj (by omega)⟩
  case round =>
    obtain ⟨k, hk, rfl, hb, hg⟩ := hrel
    by_cases hlt : k < n
    · have hs' := hs.below hb
      obtain ⟨b, o, rfl, hbz, c0, c1, c2, c3, c4⟩ := hs'.appliance hlt
      clear hs
      have hkx : Hid (k < xs.length) := by rw [Hid, HL.out]; exact hlt
      have hszh := Lib.hid (HV.out _ (nth_mem hkx.out))
      cases g0 : applB (nth xs k)
      · have G0 := Lib.hid g0
        clear hs'
        go_wp2_with fail
        refine wp_region_grow (by kernel_rfl) (by kernel_rfl) (fun X hX => ?_)
        have hbX : Below wr.heap.size wr X := by rw [hX]; exact bl_alloc (bl_refl _) _
        have r0 : X.cell? ⟨wr.heap.size, 0, none⟩ = some (.string (nth xs k).Name) := by rw [hX]; go_simp
        have r1 : X.cell? ⟨wr.heap.size, 1, none⟩ = some (.int .i64 (nth xs k).Kind) := by rw [hX]; go_simp
        have r2 : X.cell? ⟨wr.heap.size, 2, none⟩ = some (.int .i64 (nth xs k).Node) := by rw [hX]; go_simp
        have r3 : X.cell? ⟨wr.heap.size, 3, none⟩ = some (.int .i64 (nth xs k).Crew) := by rw [hX]; go_simp
        have r4 : X.cell? ⟨wr.heap.size, 4, none⟩ = some (.int .i64 (nth xs k).State) := by rw [hX]; go_simp
        have q0 := Gw.cell r0
        have q1 := Gw.cell r1
        have q2 := Gw.cell r2
        have q3 := Gw.cell r3
        have q4 := Gw.cell r4
        have HX := Lib.hid hX
        clear hX c0 c1 c2 c3 c4
        repeat (go_big_quiet_step ((go_at_call 85; exact Calls.grow_of (apGood_any (nth xs k) _ hszh.out))))
        refine wpGrow_nil (fun V hV => ?_)
        have hbV := bl_trans hb (bl_trans hbX hV)
        clear hV hbX r0 q0 r1 q1 r2 q2 r3 q3 r4 q4
        go_wp2
        go_ret
        exact ⟨ret_bool (fleetB_no hkx.out (okAp_0 G0.out)).symm, hbV⟩
      have G0 := Lib.hid g0
      by_cases hk0 : 0 < k
      · have h2 := hs'.flat2 (k := k - 1) (by omega)
        have d0 : wr.cell? ⟨b, o + (k - 1) * 5, none⟩ = some (.string (nth xs (k - 1)).Name) := h2 0 _ rfl
        clear h2 hs'
        have hkd : decide ((k : Int) > 0) = true := by simpa using hk0
        have i2 : 0 ≤ (k : Int) - 1 := by omega
        have i4 : (k : Int) - 1 < n := by omega
        have i1 : IntKind.i64.wrap ((k : Int) - 1) = (k : Int) - 1 := IntWalk.i64_in _ (by omega)
        have i3 : ((k : Int) - 1).toNat = k - 1 := by omega
        cases g1 : Op.bytesLess (nth xs (k - 1)).Name.toList (nth xs k).Name.toList
        · have G1 := Lib.hid g1
          go_wp2_with fail
          refine wp_region_grow (by kernel_rfl) (by kernel_rfl) (fun X hX => ?_)
          have hbX : Below wr.heap.size wr X := by rw [hX]; exact bl_alloc (bl_refl _) _
          have r0 : X.cell? ⟨wr.heap.size, 0, none⟩ = some (.string (nth xs k).Name) := by rw [hX]; go_simp
          have r1 : X.cell? ⟨wr.heap.size, 1, none⟩ = some (.int .i64 (nth xs k).Kind) := by rw [hX]; go_simp
          have r2 : X.cell? ⟨wr.heap.size, 2, none⟩ = some (.int .i64 (nth xs k).Node) := by rw [hX]; go_simp
          have r3 : X.cell? ⟨wr.heap.size, 3, none⟩ = some (.int .i64 (nth xs k).Crew) := by rw [hX]; go_simp
          have r4 : X.cell? ⟨wr.heap.size, 4, none⟩ = some (.int .i64 (nth xs k).State) := by rw [hX]; go_simp
          have p0 := cell_later hbX d0
          have q0 := Gw.cell r0
          have q1 := Gw.cell r1
          have q2 := Gw.cell r2
          have q3 := Gw.cell r3
          have q4 := Gw.cell r4
          have s0 := Gw.cell p0
          have HX := Lib.hid hX
          clear hX c0 c1 c2 c3 c4
          repeat (go_big_quiet_step ((go_at_call 85; exact Calls.grow_of (apGood_any (nth xs k) _ hszh.out))))
          refine wpGrow_nil (fun V hV => ?_)
          have hbV := bl_trans hb (bl_trans hbX hV)
          clear hV hbX r0 q0 r1 q1 r2 q2 r3 q3 r4 q4 p0 s0 d0 i1 i3
          go_wp2
          go_ret
          exact ⟨ret_bool (fleetB_no hkx.out (okAp_1 hk0 G1.out)).symm, hbV⟩
        · have G1 := Lib.hid g1
          go_wp2_with fail
          refine wp_region_grow (by kernel_rfl) (by kernel_rfl) (fun X hX => ?_)
          have hbX : Below wr.heap.size wr X := by rw [hX]; exact bl_alloc (bl_refl _) _
          have r0 : X.cell? ⟨wr.heap.size, 0, none⟩ = some (.string (nth xs k).Name) := by rw [hX]; go_simp
          have r1 : X.cell? ⟨wr.heap.size, 1, none⟩ = some (.int .i64 (nth xs k).Kind) := by rw [hX]; go_simp
          have r2 : X.cell? ⟨wr.heap.size, 2, none⟩ = some (.int .i64 (nth xs k).Node) := by rw [hX]; go_simp
          have r3 : X.cell? ⟨wr.heap.size, 3, none⟩ = some (.int .i64 (nth xs k).Crew) := by rw [hX]; go_simp
          have r4 : X.cell? ⟨wr.heap.size, 4, none⟩ = some (.int .i64 (nth xs k).State) := by rw [hX]; go_simp
          have p0 := cell_later hbX d0
          have q0 := Gw.cell r0
          have q1 := Gw.cell r1
          have q2 := Gw.cell r2
          have q3 := Gw.cell r3
          have q4 := Gw.cell r4
          have s0 := Gw.cell p0
          have HX := Lib.hid hX
          clear hX c0 c1 c2 c3 c4
          repeat (go_big_quiet_step ((go_at_call 85; exact Calls.grow_of (apGood_any (nth xs k) _ hszh.out))))
          refine wpGrow_nil (fun V hV => ?_)
          have hbV := bl_trans hb (bl_trans hbX hV)
          clear hV hbX r0 q0 r1 q1 r2 q2 r3 q3 r4 q4 p0 s0 d0 i1 i3
          go_wp2
          go_roundw
          case rel => exact ⟨k + 1, by omega, by go_num, hbV, upto_succ hg (okAp_y G0.out (.inr G1.out))⟩
          case measure => simp [intOf]; omega
      · have hkd : decide ((k : Int) > 0) = false := by simp; omega
        clear hs'
        go_wp2_with fail
        refine wp_region_grow (by kernel_rfl) (by kernel_rfl) (fun X hX => ?_)
        have hbX : Below wr.heap.size wr X := by rw [hX]; exact bl_alloc (bl_refl _) _
        have r0 : X.cell? ⟨wr.heap.size, 0, none⟩ = some (.string (nth xs k).Name) := by rw [hX]; go_simp
        have r1 : X.cell? ⟨wr.heap.size, 1, none⟩ = some (.int .i64 (nth xs k).Kind) := by rw [hX]; go_simp
        have r2 : X.cell? ⟨wr.heap.size, 2, none⟩ = some (.int .i64 (nth xs k).Node) := by rw [hX]; go_simp
        have r3 : X.cell? ⟨wr.heap.size, 3, none⟩ = some (.int .i64 (nth xs k).Crew) := by rw [hX]; go_simp
        have r4 : X.cell? ⟨wr.heap.size, 4, none⟩ = some (.int .i64 (nth xs k).State) := by rw [hX]; go_simp
        have q0 := Gw.cell r0
        have q1 := Gw.cell r1
        have q2 := Gw.cell r2
        have q3 := Gw.cell r3
        have q4 := Gw.cell r4
        have HX := Lib.hid hX
        clear hX c0 c1 c2 c3 c4
        repeat (go_big_quiet_step ((go_at_call 85; exact Calls.grow_of (apGood_any (nth xs k) _ hszh.out))))
        refine wpGrow_nil (fun V hV => ?_)
        have hbV := bl_trans hb (bl_trans hbX hV)
        clear hV hbX r0 q0 r1 q1 r2 q2 r3 q3 r4 q4
        go_wp2
        go_roundw
        case rel => exact ⟨k + 1, by omega, by go_num, hbV, upto_succ hg (okAp_y G0.out (.inl hk0))⟩
        case measure => simp [intOf]; omega
    · obtain rfl : k = n := by omega
      go_wp2
      go_ret
      refine ⟨ret_bool ?_, hb⟩
      rw [fleetB_all (by rw [HL.out]; exact hg.out), HL.out]
      simp
      try omega
set_option maxHeartbeats 4000000 in
theorem isFleet_any (xs : List Appliance) (A : Option Addr) (n c : Nat) (w : World) (hn : (n : Int) ≤ 9223372036854775807) (hs : Sl w A n xs) (hv : ∀ x, x ∈ xs → x.Name.size ≤ maxLen) :
    Calls Tryz.prog 49 #[.slice A n c] w fun e w' => e = .returned (.bool (fleetB xs)) ∧ Below w.heap.size w w' := by
  have HV := Lib.hid hv
  clear hv
  have HL := Lib.hid hs.1
  go_enter Tryz.func49, Tryz.ntmps49
  go_wp2
  go_loopw [7] (fun i wr => ∃ k : Nat, k ≤ n ∧ i = .int .i64 k ∧ Below w.heap.size w wr ∧ Hid (∀ j, j < k → okAp xs j = true)) (fun i _ => n - (intOf i).toNat)
  case atStart => exact ⟨0, Nat.zero_le _, rfl, Below.refl _ _, fun j hj => absurd hj (by omega)⟩
  case round =>
    obtain ⟨k, hk, rfl, hb, hg⟩ := hrel
    by_cases hlt : k < n
    · have hs' := hs.below hb
      obtain ⟨b, o, rfl, hbz, c0, c1, c2, c3, c4⟩ := hs'.appliance hlt
      clear hs
      have hkx : Hid (k < xs.length) := by rw [Hid, HL.out]; exact hlt
      have hszh := Lib.hid (HV.out _ (nth_mem hkx.out))
      cases g0 : applB (nth xs k)
      · have G0 := Lib.hid g0
        clear hs'
        go_wp2_with fail
        refine wp_region_grow (by kernel_rfl) (by kernel_rfl) (fun X hX => ?_)
        have hbX : Below wr.heap.size wr X := by rw [hX]; exact bl_alloc (bl_refl _) _
        have r0 : X.cell? ⟨wr.heap.size, 0, none⟩ = some (.string (nth xs k).Name) := by rw [hX]; go_simp
        have r1 : X.cell? ⟨wr.heap.size, 1, none⟩ = some (.int .i64 (nth xs k).Kind) := by rw [hX]; go_simp
        have r2 : X.cell? ⟨wr.heap.size, 2, none⟩ = some (.int .i64 (nth xs k).Node) := by rw [hX]; go_simp
        have r3 : X.cell? ⟨wr.heap.size, 3, none⟩ = some (.int .i64 (nth xs k).Crew) := by rw [hX]; go_simp
        have r4 : X.cell? ⟨wr.heap.size, 4, none⟩ = some (.int .i64 (nth xs k).State) := by rw [hX]; go_simp
        have q0 := Gw.cell r0
        have q1 := Gw.cell r1
        have q2 := Gw.cell r2
        have q3 := Gw.cell r3
        have q4 := Gw.cell r4
        have HX := Lib.hid hX
        clear hX c0 c1 c2 c3 c4
        repeat (go_big_quiet_step ((go_at_call 82; exact Calls.grow_of (isAppliance_any (nth xs k) _ hszh.out))))
        refine wpGrow_nil (fun V hV => ?_)
        have hbV := bl_trans hb (bl_trans hbX hV)
        clear hV hbX r0 q0 r1 q1 r2 q2 r3 q3 r4 q4
        go_wp2
        go_ret
        exact ⟨ret_bool (fleetB_no hkx.out (okAp_0 G0.out)).symm, hbV⟩
      have G0 := Lib.hid g0
      by_cases hk0 : 0 < k
      · have h2 := hs'.flat2 (k := k - 1) (by omega)
        have d0 : wr.cell? ⟨b, o + (k - 1) * 5, none⟩ = some (.string (nth xs (k - 1)).Name) := h2 0 _ rfl
        clear h2 hs'
        have hkd : decide ((k : Int) > 0) = true := by simpa using hk0
        have i2 : 0 ≤ (k : Int) - 1 := by omega
        have i4 : (k : Int) - 1 < n := by omega
        have i1 : IntKind.i64.wrap ((k : Int) - 1) = (k : Int) - 1 := IntWalk.i64_in _ (by omega)
        have i3 : ((k : Int) - 1).toNat = k - 1 := by omega
        cases g1 : Op.bytesLess (nth xs (k - 1)).Name.toList (nth xs k).Name.toList
        · have G1 := Lib.hid g1
          go_wp2_with fail
          refine wp_region_grow (by kernel_rfl) (by kernel_rfl) (fun X hX => ?_)
          have hbX : Below wr.heap.size wr X := by rw [hX]; exact bl_alloc (bl_refl _) _
          have r0 : X.cell? ⟨wr.heap.size, 0, none⟩ = some (.string (nth xs k).Name) := by rw [hX]; go_simp
          have r1 : X.cell? ⟨wr.heap.size, 1, none⟩ = some (.int .i64 (nth xs k).Kind) := by rw [hX]; go_simp
          have r2 : X.cell? ⟨wr.heap.size, 2, none⟩ = some (.int .i64 (nth xs k).Node) := by rw [hX]; go_simp
          have r3 : X.cell? ⟨wr.heap.size, 3, none⟩ = some (.int .i64 (nth xs k).Crew) := by rw [hX]; go_simp
          have r4 : X.cell? ⟨wr.heap.size, 4, none⟩ = some (.int .i64 (nth xs k).State) := by rw [hX]; go_simp
          have p0 := cell_later hbX d0
          have q0 := Gw.cell r0
          have q1 := Gw.cell r1
          have q2 := Gw.cell r2
          have q3 := Gw.cell r3
          have q4 := Gw.cell r4
          have s0 := Gw.cell p0
          have HX := Lib.hid hX
          clear hX c0 c1 c2 c3 c4
          repeat (go_big_quiet_step ((go_at_call 82; exact Calls.grow_of (isAppliance_any (nth xs k) _ hszh.out))))
          refine wpGrow_nil (fun V hV => ?_)
          have hbV := bl_trans hb (bl_trans hbX hV)
          clear hV hbX r0 q0 r1 q1 r2 q2 r3 q3 r4 q4 p0 s0 d0 i1 i3
          go_wp2
          go_ret
          exact ⟨ret_bool (fleetB_no hkx.out (okAp_1 hk0 G1.out)).symm, hbV⟩
        · have G1 := Lib.hid g1
          go_wp2_with fail
          refine wp_region_grow (by kernel_rfl) (by kernel_rfl) (fun X hX => ?_)
          have hbX : Below wr.heap.size wr X := by rw [hX]; exact bl_alloc (bl_refl _) _
          have r0 : X.cell? ⟨wr.heap.size, 0, none⟩ = some (.string (nth xs k).Name) := by rw [hX]; go_simp
          have r1 : X.cell? ⟨wr.heap.size, 1, none⟩ = some (.int .i64 (nth xs k).Kind) := by rw [hX]; go_simp
          have r2 : X.cell? ⟨wr.heap.size, 2, none⟩ = some (.int .i64 (nth xs k).Node) := by rw [hX]; go_simp
          have r3 : X.cell? ⟨wr.heap.size, 3, none⟩ = some (.int .i64 (nth xs k).Crew) := by rw [hX]; go_simp
          have r4 : X.cell? ⟨wr.heap.size, 4, none⟩ = some (.int .i64 (nth xs k).State) := by rw [hX]; go_simp
          have p0 := cell_later hbX d0
          have q0 := Gw.cell r0
          have q1 := Gw.cell r1
          have q2 := Gw.cell r2
          have q3 := Gw.cell r3
          have q4 := Gw.cell r4
          have s0 := Gw.cell p0
          have HX := Lib.hid hX
          clear hX c0 c1 c2 c3 c4
          repeat (go_big_quiet_step ((go_at_call 82; exact Calls.grow_of (isAppliance_any (nth xs k) _ hszh.out))))
          refine wpGrow_nil (fun V hV => ?_)
          have hbV := bl_trans hb (bl_trans hbX hV)
          clear hV hbX r0 q0 r1 q1 r2 q2 r3 q3 r4 q4 p0 s0 d0 i1 i3
          go_wp2
          go_roundw
          case rel => exact ⟨k + 1, by omega, by go_num, hbV, upto_succ hg (okAp_y G0.out (.inr G1.out))⟩
          case measure => simp [intOf]; omega
      · have hkd : decide ((k : Int) > 0) = false := by simp; omega
        clear hs'
        go_wp2_with fail
        refine wp_region_grow (by kernel_rfl) (by kernel_rfl) (fun X hX => ?_)
        have hbX : Below wr.heap.size wr X := by rw [hX]; exact bl_alloc (bl_refl _) _
        have r0 : X.cell? ⟨wr.heap.size, 0, none⟩ = some (.string (nth xs k).Name) := by rw [hX]; go_simp
        have r1 : X.cell? ⟨wr.heap.size, 1, none⟩ = some (.int .i64 (nth xs k).Kind) := by rw [hX]; go_simp
        have r2 : X.cell? ⟨wr.heap.size, 2, none⟩ = some (.int .i64 (nth xs k).Node) := by rw [hX]; go_simp
        have r3 : X.cell? ⟨wr.heap.size, 3, none⟩ = some (.int .i64 (nth xs k).Crew) := by rw [hX]; go_simp
        have r4 : X.cell? ⟨wr.heap.size, 4, none⟩ = some (.int .i64 (nth xs k).State) := by rw [hX]; go_simp
        have q0 := Gw.cell r0
        have q1 := Gw.cell r1
        have q2 := Gw.cell r2
        have q3 := Gw.cell r3
        have q4 := Gw.cell r4
        have HX := Lib.hid hX
        clear hX c0 c1 c2 c3 c4
        repeat (go_big_quiet_step ((go_at_call 82; exact Calls.grow_of (isAppliance_any (nth xs k) _ hszh.out))))
        refine wpGrow_nil (fun V hV => ?_)
        have hbV := bl_trans hb (bl_trans hbX hV)
        clear hV hbX r0 q0 r1 q1 r2 q2 r3 q3 r4 q4
        go_wp2
        go_roundw
        case rel => exact ⟨k + 1, by omega, by go_num, hbV, upto_succ hg (okAp_y G0.out (.inl hk0))⟩
        case measure => simp [intOf]; omega
    · obtain rfl : k = n := by omega
      go_wp2
      go_ret
      refine ⟨ret_bool ?_, hb⟩
      rw [fleetB_all (by rw [HL.out]; exact hg.out), HL.out]
      simp
      try omega

end Go.Proofs.YtpdblmcflniomaaGreatDoor
