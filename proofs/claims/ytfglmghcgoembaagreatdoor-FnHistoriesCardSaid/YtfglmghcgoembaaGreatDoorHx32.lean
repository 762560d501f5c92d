/-
  Several texts in one. No conditions.
-/
import Derived.Test.YtfglmghcgoembaaGreatDoorHx31
import Derived.Test.YtfglmghcgoembaaGreatDoorHx18
import Derived.Test.YtfglmghcgoembaaGreatDoorHx5
namespace Go.Proofs.YtfglmghcgoembaaGreatDoor
open Go.RowKit

def digB (d : Int) : ByteArray := ⟨#[UInt8.ofNat (48 + d.toNat)]⟩
theorem itB_low {n : Int} (h0 : 0 ≤ n) (h : n < 10) : itB n = digB n := by
  obtain ⟨u, rfl⟩ := Int.eq_ofNat_of_zero_le h0
  rw [itB_nat, Lib.decDigits, dif_pos (by omega)]; rfl
theorem itB_high {n : Int} (h : 10 ≤ n) : itB n = itB (n / 10) ++ digB (n % 10) := by
  obtain ⟨u, rfl⟩ := Int.eq_ofNat_of_zero_le (by omega : 0 ≤ n)
  have e1 : (u : Int) / 10 = ((u / 10 : Nat) : Int) := by omega
  have e2 : ((u : Int) % 10).toNat = u % 10 := by omega
  rw [digB, e2, e1, itB_nat, itB_nat, Lib.decDigits, dif_neg (by omega)]
  apply ba_ext; simp
theorem conv1 (W : World) (b cap : Nat) (d : Int) (h0 : 0 ≤ d) (h1 : d ≤ 9) (hc : W.cell? ⟨b, 0, none⟩ = some (.int .u8 (48 + d))) :
    (convert 22 9 (.slice (some ⟨b, 0, none⟩) 1 cap)).run Tryz.prog W = .ok (.string (digB d)) W := by
  refine run_convert_bytes_back W 22 9 5 ⟨b, 0, none⟩ cap [UInt8.ofNat (48 + d.toNat)] Tryz.underlying22 Tryz.underlying5 Tryz.underlying9 ?_
  intro j hj
  have hj0 : j = 0 := by simpa using hj
  subst hj0
  have e : ((UInt8.ofNat (48 + d.toNat)).toNat : Int) = 48 + d := by rw [u8n (by omega)]; omega
  rw [addr_add]
  simp only [List.getElem_cons_zero, e]
  exact hc
set_option maxRecDepth 100000 in
set_option maxHeartbeats 4000000 in
theorem l1Num_upto (k : Nat) : ∀ (n : Int) (w : World), 0 ≤ n → n ≤ 1000000 → n.toNat ≤ k → Calls Tryz.prog 79 #[.int .i64 n] w fun e w' => e = .returned (.string (itB n)) ∧ Below w.heap.size w w' := by
  induction k with
  | zero =>
    intro n w h0 h1 hk
    obtain rfl : n = 0 := by omega
    have kc := conv1 (w.alloc (.cells #[.int .u8 48] 5)) w.heap.size 1 0 (by omega) (by omega) (by go_simp)
    go_enter Tryz.func79, Tryz.ntmps79
    go_wp2
    go_ret
    exact ⟨by rw [itB_low (by omega) (by omega)]; rfl, bl_alloc (bl_refl _) _⟩
  | succ k ih =>
    intro n w h0 h1 hk
    by_cases h : n < 10
    · have kc := conv1 (w.alloc (.cells #[.int .u8 (48 + n)] 5)) w.heap.size 1 n h0 (by omega) (by go_simp)
      go_enter Tryz.func79, Tryz.ntmps79
      go_wp2
      go_ret
      exact ⟨by rw [itB_low h0 h]; rfl, bl_alloc (bl_refl _) _⟩
    · have hg : 10 ≤ n := by omega
      have hi : ∀ W : World, Calls Tryz.prog 79 #[.int .i64 (n / 10)] W fun e w' => e = .returned (.string (itB (n / 10))) ∧ Below W.heap.size W w' := fun W => ih (n / 10) W (by omega) (by omega) (by omega)
      have hd0 : 0 ≤ n % 10 := by omega
      have hd1 : n % 10 ≤ 9 := by omega
      have kc := fun (W : World) (b : Nat) => conv1 W b 1 (n % 10) hd0 hd1
      have hs := it_len (n := n / 10) (by omega) 5 (by omega)
      have HI := Lib.hid hi
      have hds : (digB (n % 10)).size ≤ 1 := Nat.le_refl 1
      have w1 : n.tdiv 10 = n / 10 := Int.tdiv_eq_ediv_of_nonneg h0
      have w2 : n.tmod 10 = n % 10 := Int.tmod_eq_emod_of_nonneg h0
      have w3 : IntKind.i64.wrap (n / 10) = n / 10 := IntWalk.i64_in _ (by omega)
      have w4 : IntKind.i64.wrap (48 + n % 10) = 48 + n % 10 := IntWalk.i64_in _ (by omega)
      have w5 : IntKind.u8.wrap (48 + n % 10) = 48 + n % 10 := by rw [IntKind.wrap_u8]; omega
      have w6 : IntKind.i64.wrap (n % 10) = n % 10 := IntWalk.i64_in _ (by omega)
      clear hi ih hk h
      rw [itB_high hg]
      go_enter Tryz.func79, Tryz.ntmps79
      go_wp2_with fail
      go_region_with (first | (go_at_call 79; refine (HI.out _).mono ?_; rintro e V ⟨rfl, hb⟩; obtain hq : V.cell? ⟨w.heap.size, 0, none⟩ = some (.int .u8 (48 + n % 10)); focus (refine cell_later hb ?_; go_simp; done)) | (go_at_call 79; refine (HI.out _).mono ?_; rintro e V ⟨rfl, hb⟩))
      all_goals
        clear kc w1 w2 w3 w4 w5 w6
        go_wp2
        go_ret
        exact ⟨rfl, by first | exact bl_alloc (bl_trans (bl_drew (bl_refl w)) hb) _ | exact bl_trans (bl_drew (bl_refl w)) hb | exact bl_trans (bl_alloc (bl_drew (bl_refl w)) _) hb⟩
theorem l1Num_any (n : Int) (w : World) (h0 : 0 ≤ n) (h1 : n ≤ 1000000) : Calls Tryz.prog 79 #[.int .i64 n] w fun e w' => e = .returned (.string (itB n)) ∧ Below w.heap.size w w' := l1Num_upto n.toNat n w h0 h1 (Nat.le_refl _)
theorem sumL_bt {s : ByteArray} {k : Nat} (hk : k < s.size) : sumL (s.data.toList.take (k + 1)) = (31 * sumL (s.data.toList.take k) + Go.PlainAid.bt s k) % 99991 := by
  have h : k < s.data.toList.length := by rw [ba_len]; exact hk
  rw [sumL_take hk, List.getD_eq_getElem?_getD, List.getElem?_eq_getElem h, ← Go.PlainAid.get_bt s k hk]; rfl
end Go.Proofs.YtfglmghcgoembaaGreatDoor

namespace Go.Proofs.YtfglmghcgoembaaGreatDoor
open Go.RowKit

/-- the text of an entry -/
def entT (e : Entry) : ByteArray := itB e.Room ++ ⟨#[46]⟩ ++ itB e.Number ++ ⟨#[64]⟩ ++ itB e.Minute ++ ⟨#[32]⟩ ++ e.Text
/-- the text of the first ones -/
def histT (l : List Entry) : Nat → ByteArray
  | 0 => ByteArray.empty
  | k + 1 => histT l k ++ (entT (nth l k) ++ ⟨#[10]⟩)
theorem entT_len {e : Entry} (h : entB e = true) : (entT e).size ≤ 60 := by
  have h1 := entB_room h
  have h2 := entB_num h
  have h3 := entB_min h
  have h4 := textB_size (entB_text h)
  have l1 := it_len (n := e.Room) (by omega) 0 (by omega)
  have l2 := it_len (n := e.Number) (by omega) 2 (by omega)
  have l3 := it_len (n := e.Minute) (by omega) 4 (by omega)
  unfold entT
  simp only [ByteArray.size_append]
  have s1 : (⟨#[46]⟩ : ByteArray).size = 1 := rfl
  have s2 : (⟨#[64]⟩ : ByteArray).size = 1 := rfl
  have s3 : (⟨#[32]⟩ : ByteArray).size = 1 := rfl
  omega
theorem histT_len {l : List Entry} (h : ∀ j, j < l.length → entB (nth l j) = true) : ∀ k, k ≤ l.length → (histT l k).size ≤ 61 * k
  | 0, _ => Nat.le_refl 0
  | k + 1, hk => by
    have h1 := histT_len h k (by omega)
    have h2 := entT_len (h k (by omega))
    show (histT l k ++ (entT (nth l k) ++ ⟨#[10]⟩)).size ≤ _
    simp only [ByteArray.size_append]
    have s1 : (⟨#[10]⟩ : ByteArray).size = 1 := rfl
    omega
def htF (h : List Entry) : ByteArray × Bool := if hiB h then (histT h h.length, true) else (ByteArray.empty, false)
theorem htF_yes {h : List Entry} (k : hiB h = true) : htF h = (histT h h.length, true) := by unfold htF; rw [if_pos k]
theorem htF_no {h : List Entry} (k : hiB h = false) : htF h = (ByteArray.empty, false) := by unfold htF; rw [if_neg (by rw [k]; simp)]
theorem hi_ents {h : List Entry} (k : hiB h = true) : ∀ j, j < h.length → entB (nth h j) = true := fun _ hj => (hi_iff.1 k).ent (nth_mem hj)
set_option maxRecDepth 100000 in
set_option maxHeartbeats 2000000 in
theorem lgLine_any (x : Entry) (w : World) (hx : entB x = true) :
    Calls Tryz.prog 66 #[.agg #[.int .i64 x.Room, .int .i64 x.Number, .int .i64 x.Minute, .string x.Text]] w fun e w' => e = .returned (.string (entT x)) ∧ Below w.heap.size w w' := by
  have h1 := entB_room hx
  obtain ⟨h2, h2'⟩ := entB_num hx
  obtain ⟨h3, h3'⟩ := entB_min hx
  obtain ⟨h4, h4'⟩ := textB_size (entB_text hx)
  have h1a : 1 ≤ x.Room := by omega
  have h1b : x.Room ≤ 2 := by omega
  have l1 := it_len (n := x.Room) (by omega) 0 (by omega)
  have l2 := it_len (n := x.Number) (by omega) 2 (by omega)
  have l3 := it_len (n := x.Minute) (by omega) 4 (by omega)
  clear h1 hx
  unfold entT
  go_enter Tryz.func66, Tryz.ntmps66
  go_wp2_with fail
  refine wp_region_grow (by kernel_rfl) (by kernel_rfl) (fun X hX => ?_)
  have hbX : Below w.heap.size w X := by rw [hX]; exact bl_alloc (bl_refl _) _
  have q0 : ∀ g : Gw X, g.val.cell? ⟨w.heap.size, 0, none⟩ = some (.int .i64 x.Room) := Gw.cell (by rw [hX]; go_simp)
  have q1 : ∀ g : Gw X, g.val.cell? ⟨w.heap.size, 1, none⟩ = some (.int .i64 x.Number) := Gw.cell (by rw [hX]; go_simp)
  have q2 : ∀ g : Gw X, g.val.cell? ⟨w.heap.size, 2, none⟩ = some (.int .i64 x.Minute) := Gw.cell (by rw [hX]; go_simp)
  have q3 : ∀ g : Gw X, g.val.cell? ⟨w.heap.size, 3, none⟩ = some (.string x.Text) := Gw.cell (by rw [hX]; go_simp)
  have HX := Lib.hid hX
  clear hX
  repeat (go_big_quiet_step (exact Calls.grow_of (l1Num_any _ _ (by omega) (by omega))))
  refine wpGrow_nil (fun V hV => ?_)
  have hbV := bl_trans hbX hV
  clear q0 q1 q2 q3 hV hbX HX
  go_wp2
  go_ret
  exact ⟨rfl, hbV⟩
set_option maxRecDepth 100000 in
set_option maxHeartbeats 4000000 in
theorem lgAll_any (l : List Entry) (A : Option Addr) (n c : Nat) (w : World) (hn : n ≤ 1048576) (hs : Sl w A n l) (hv : ∀ j, j < l.length → entB (nth l j) = true) :
    Calls Tryz.prog 42 #[.slice A n c] w fun e w' => e = .returned (.string (histT l l.length)) ∧ Below w.heap.size w w' := by
  have HL := Lib.hid hs.1
  have HLn := Lib.hid (histT_len hv)
  have HV := Lib.hid hv
  clear hv
  go_enter Tryz.func42, Tryz.ntmps42
  go_wp2
  go_loopw [3, 8] (fun tv iv wr => ∃ i : Nat, i ≤ n ∧ iv = .int .i64 i ∧ tv = .string (histT l i) ∧ Below w.heap.size w wr) (fun _ iv _ => n - (intOf iv).toNat)
  case atStart => exact ⟨0, Nat.zero_le _, rfl, rfl, bl_refl _⟩
  case round =>
    obtain ⟨i, hi, rfl, rfl, hb⟩ := hrel
    by_cases hlt : i < n
    · obtain ⟨b, o, rfl, hbz, c0, c1, c2, c3⟩ := (hs.below hb).entry hlt
      clear hs
      have hid1 : (i : Int) < n := by omega
      have hx0 := HV.out i (by rw [HL.out]; exact hlt)
      have hp := entT_len hx0
      have htl := HLn.out i (by rw [HL.out]; omega)
      have HX1 : Hid (histT l (i + 1) = histT l i ++ (entT (nth l i) ++ ⟨#[10]⟩)) := rfl
      obtain ⟨T, hT0⟩ : ∃ T, T = histT l i := ⟨_, rfl⟩
      rw [← hT0] at htl HX1 ⊢
      clear hT0
      obtain ⟨x, hx⟩ : ∃ x, nth l i = x := ⟨_, rfl⟩
      rw [hx] at c0 c1 c2 c3 hx0 hp HX1
      clear hx
      have kl := Lib.hid (show ∀ W : World, Calls Tryz.prog 66 #[.agg #[.int .i64 x.Room, .int .i64 x.Number, .int .i64 x.Minute, .string x.Text]] W fun e w' => e = .returned (.string (entT x)) ∧ Below W.heap.size W w' from fun W => lgLine_any x W hx0)
      have htl2 : T.size ≤ 63963136 := by omega
      clear hx0 htl
      obtain ⟨E, hE⟩ : ∃ E, entT x = E := ⟨_, rfl⟩
      rw [hE] at hp kl HX1
      clear hE
      have hsz : (E ++ ⟨#[10]⟩ : ByteArray).size ≤ 61 := by rw [ByteArray.size_append]; have s1 : (⟨#[10]⟩ : ByteArray).size = 1 := rfl; omega
      go_wp2_with fail
      refine (kl.out _).mono ?_
      rintro e V ⟨rfl, hbV⟩
      have hb2 := bl_trans hb (bl_trans (bl_alloc (bl_refl _) _) hbV)
      go_wp2
      go_roundw
      case rel => exact ⟨i + 1, by omega, by go_num, by rw [HX1.out], hb2⟩
      case measure => simp [intOf]; omega
    · obtain hin : i = n := by omega
      have HF : Hid (histT l i = histT l l.length) := by rw [Hid, hin, HL.out]
      have hni : ¬ (i : Int) < n := by omega
      clear hs hin
      go_wp2
      go_ret
      exact ⟨congrArg (fun b => Ending.returned (.string b)) HF.out, hb⟩
set_option maxHeartbeats 4000000 in
theorem specText_any (h : List Entry) (A : Option Addr) (n c : Nat) (w : World) (hn : n ≤ 1048576) (hs : Sl w A n h) (hv : ∀ x, x ∈ h → x.Text.size ≤ maxLen) :
    Calls Tryz.prog 19 #[.slice A n c] w fun e w' => e = .returned (.tuple #[.string (htF h).1, .bool (htF h).2]) ∧ Below w.heap.size w w' := by
  obtain ⟨v, ev⟩ : ∃ v, hiB h = v := ⟨_, rfl⟩
  have kg := Lib.hid (show ∀ (W : World), Sl W A n h → Calls Tryz.prog 31 #[.slice A n c] W fun e w' => e = .returned (.bool v) ∧ Below W.heap.size W w' from fun W hs => by have h := mgGood_any h A n c W hn hs hv; rw [ev] at h; exact h)
  have EV := Lib.hid ev
  clear ev hv
  go_enter Tryz.func19, Tryz.ntmps19
  go_wp2_with fail
  refine (kg.out _ hs).mono ?_
  rintro e V1 ⟨rfl, hb1⟩
  cases v
  · go_wp2
    go_ret2
    exact ⟨(by rw [htF_no EV.out]; first | done | rfl), hb1⟩
  · go_wp2_with fail
    refine (lgAll_any h A n c _ hn (hs.below hb1) (hi_ents EV.out)).mono ?_
    rintro e V2 ⟨rfl, hb2⟩
    go_wp2
    go_ret2
    exact ⟨(by rw [htF_yes EV.out]; first | done | rfl), bl_trans hb1 hb2⟩
end Go.Proofs.YtfglmghcgoembaaGreatDoor
