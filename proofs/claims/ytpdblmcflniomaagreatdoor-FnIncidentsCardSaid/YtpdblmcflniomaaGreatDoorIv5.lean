/-
  Several texts in one. No conditions.
-/
import Derived.Test.YtpdblmcflniomaaGreatDoorIv4
import Derived.Test.YtpdblmcflniomaaGreatDoorIv0
import Derived.PlainAid
namespace Go.Proofs.YtpdblmcflniomaaGreatDoor
open Go.RowKit

instance : Deep Incident where
  sz := 4
  pos := by omega
  rep := fun w cs x => ∃ A c, cs = [.int .i64 (x.Number), .int .i64 (x.Node), .bool (x.Closed), .slice A x.Names.length c] ∧ Sl w A x.Names.length x.Names ∧ x.Names.length ≤ maxLen
  len := fun {_ _ _} h => by obtain ⟨A, c, rfl, _⟩ := h; rfl
  keep := fun {_ _ _ _} k h => by obtain ⟨A, c, e, hs, hl⟩ := h; exact ⟨A, c, e, hs.keep k, hl⟩
structure IncidentR where
  Number : Int
  Node : Int
  Closed : Bool
  A : Option Addr
  n : Nat
  c : Nat
instance : Inhabited IncidentR := ⟨⟨0, 0, false, none, 0, 0⟩⟩
instance : Flat IncidentR where
  sz := 4
  pos := by omega
  enc := fun x => [.int .i64 (x.Number), .int .i64 (x.Node), .bool (x.Closed), .slice x.A x.n x.c]
  len := fun _ => rfl
  one := fun _ u h => by simp at h; rcases h with rfl | rfl | rfl | rfl <;> rfl
def incidentN : Nest IncidentR ByteArray Incident where
  hdr := fun r => .slice r.A r.n r.c
  of := fun r l => ⟨r.Number, r.Node, r.Closed, l⟩
  szs := rfl
  rep := fun {w base E r l} h => by
    have hl := h.sl.1
    have hc := h.cap
    refine ⟨r.A, r.c, ?_, ?_, ?_⟩
    · show ([.int .i64 (r.Number), .int .i64 (r.Node), .bool (r.Closed), .slice r.A r.n r.c] : List Value) = [.int .i64 (r.Number), .int .i64 (r.Node), .bool (r.Closed), .slice r.A l.length r.c]
      rw [hl]
    · show Sl w r.A l.length l
      rw [hl]; exact h.sl
    · show l.length ≤ maxLen
      omega
theorem Sl.incident {w : World} {A : Option Addr} {n : Nat} {xs : List Incident} (h : Sl w A n xs) {k : Nat} (hk : k < n) :
    ∃ b o A' c', A = some ⟨b, o, none⟩ ∧ b < w.heap.size ∧ w.cell? ⟨b, o + k * 4, none⟩ = some (.int .i64 ((nth xs k).Number)) ∧ w.cell? ⟨b, o + k * 4 + 1, none⟩ = some (.int .i64 ((nth xs k).Node)) ∧ w.cell? ⟨b, o + k * 4 + 2, none⟩ = some (.bool ((nth xs k).Closed)) ∧ w.cell? ⟨b, o + k * 4 + 3, none⟩ = some (.slice A' (nth xs k).Names.length c') ∧ Sl w A' (nth xs k).Names.length (nth xs k).Names ∧ (nth xs k).Names.length ≤ maxLen := by
  obtain ⟨b, o, cs, rfl, ⟨A', c', rfl, hs, hl⟩, hc⟩ := h.at hk
  have h0 := hc 0 _ rfl
  exact ⟨b, o, A', c', rfl, World.block_lt_of_cell? w _ h0, hc 0 _ rfl, hc 1 _ rfl, hc 2 _ rfl, hc 3 _ rfl, hs, hl⟩
/-- how many there are inside, all told -/
def sumIncident (xs : List Incident) : Nat := (xs.map fun x => x.Names.length).sum
theorem sumIncident_succ {xs : List Incident} {k : Nat} (hk : k < xs.length) : sumIncident (xs.take (k + 1)) = sumIncident (xs.take k) + (nth xs k).Names.length := by
  unfold sumIncident; rw [take_succ hk, List.map_append, List.sum_append]; simp
theorem sumIncident_at {xs : List Incident} {x : Incident} (h : x ∈ xs) : x.Names.length ≤ sumIncident xs := by
  unfold sumIncident
  induction xs with
  | nil => cases h
  | cons y ys ih =>
    simp only [List.map_cons, List.sum_cons]
    rcases List.mem_cons.1 h with rfl | h
    · omega
    · have := ih h; omega

end Go.Proofs.YtpdblmcflniomaaGreatDoor

namespace Go.Proofs.YtpdblmcflniomaaGreatDoor
open Go.RowKit

open Go.PlainAid
/-- the byte at k as a number -/
def letterB (s : ByteArray) (k : Nat) : Bool := inB (bt s k) 97 122
def nameC (s : ByteArray) (k : Nat) : Bool := inB (bt s k) 97 122 || (!decide (k = 0) && inB (bt s k) 48 57)
def nameB (s : ByteArray) : Bool := allB s.size (nameC s) && inB s.size 1 6
def wordB (m : Int) (s : ByteArray) : Bool := allB s.size (letterB s) && inB s.size 1 m
theorem inB_yes {n a b : Int} (h1 : a ≤ n) (h2 : n ≤ b) : inB n a b = true := inB_iff.2 ⟨h1, h2⟩
theorem inB_no {n a b : Int} (h : n < a ∨ b < n) : inB n a b = false := by
  cases e : inB n a b
  · rfl
  · have := inB_iff.1 e; omega
theorem nameB_no {s : ByteArray} {k : Nat} (hk : k < s.size) (h : nameC s k = false) : nameB s = false := by simp [nameB, allB_false hk h]
theorem nameB_all {s : ByteArray} (h : ∀ j, j < s.size → nameC s j = true) : nameB s = inB s.size 1 6 := by simp [nameB, allB_true h]
theorem nameB_size {s : ByteArray} (h : nameB s = true) : s.size ≤ 6 := by
  simp only [nameB, Bool.and_eq_true] at h; have := inB_iff.1 h.2; omega
theorem wordB_no {m : Int} {s : ByteArray} {k : Nat} (hk : k < s.size) (h : letterB s k = false) : wordB m s = false := by simp [wordB, allB_false hk h]
theorem wordB_all {m : Int} {s : ByteArray} (h : ∀ j, j < s.size → letterB s j = true) : wordB m s = inB s.size 1 m := by simp [wordB, allB_true h]
theorem wordB_size {m : Int} {s : ByteArray} (h : wordB m s = true) : (s.size : Int) ≤ m := by
  simp only [wordB, Bool.and_eq_true] at h; have := inB_iff.1 h.2; omega
theorem thing_word (s : ByteArray) : wordB 8 s = (decide (s.size ≤ 8) && wordB 10 s) := by
  unfold wordB
  by_cases h : s.size ≤ 8
  · rw [decide_eq_true h]; simp only [Bool.true_and]; congr 1
    by_cases h1 : 1 ≤ s.size
    · rw [inB_yes (by omega) (by omega), inB_yes (by omega) (by omega)]
    · rw [inB_no (.inl (by omega)), inB_no (.inl (by omega))]
  · rw [decide_eq_false h, inB_no (.inr (by omega)), Bool.and_false, Bool.false_and]
theorem bl_of_eq {w w' : World} (h : w' = w) : Below w.heap.size w w' := by rw [h]; exact bl_refl _
set_option maxHeartbeats 1000000 in
theorem apName_any (s : ByteArray) (w : World) (hs : s.size ≤ maxLen) :
    Calls Tryz.prog 93 #[.string s] w fun e w' => e = .returned (.bool (nameB s)) ∧ Below w.heap.size w w' := by
  unfold maxLen at hs
  have hbt := get_bt s
  go_enter Tryz.func93, Tryz.ntmps93
  go_wp2
  go_loop [3] (fun i => ∃ k : Nat, k ≤ s.size ∧ i = .int .i64 k ∧ Hid (∀ j, j < k → nameC s j = true)) (fun i => s.size - (intOf i).toNat)
  case atStart => exact ⟨0, Nat.zero_le _, rfl, fun j hj => absurd hj (by omega)⟩
  case round =>
    obtain ⟨k, hk, rfl, hg⟩ := hrel
    by_cases hlt : k < s.size
    · have hlt2 : (k : Int) < s.size := by omega
      have hk0' : (0 : Int) ≤ k := by omega
      by_cases a1 : 97 ≤ bt s k
      · have a2 : decide (bt s k ≥ 97) = true := by simpa using a1
        have a4 : decide (bt s k ≥ 48) = true := by simp; omega
        have a5 : decide (bt s k ≤ 57) = false := by simp; omega
        have a6 : decide (bt s k < 48) = false := by simp; omega
        have a7 : decide (bt s k > 57) = true := by simp; omega
        by_cases b1 : bt s k ≤ 122
        · have b2 : decide (bt s k ≤ 122) = true := by simpa using b1
          have hc : Hid (nameC s k = true) := by rw [Hid, nameC, inB_yes (by omega) (by omega)]; rfl
          go_wp2
          go_round
          case rel => exact ⟨k + 1, by omega, by go_num, upto_succ hg hc.out⟩
          case measure => simp [intOf]; omega
        · have b2 : decide (bt s k ≤ 122) = false := by simpa using b1
          by_cases z1 : k = 0
          all_goals
            have z2 : ((k : Int) == 0) = decide (k = 0) := by simp [z1]
            simp only [z1, decide_true, decide_false] at z2
            have hc : Hid (nameC s k = false) := by rw [Hid, nameC, inB_no (.inr (by omega)), inB_no (.inr (by omega))]; simp
            have Z := Lib.hid z1
            clear z1
            go_wp2
            go_ret
            exact ⟨ret_bool (nameB_no hlt hc.out).symm, bl_refl _⟩
      · have a2 : decide (bt s k ≥ 97) = false := by simp; omega
        have hcl : inB (bt s k) 97 122 = false := inB_no (.inl (by omega))
        have Hcl := Lib.hid hcl
        clear hcl
        by_cases z1 : k = 0
        · have z2 : ((k : Int) == 0) = true := by simp [z1]
          have hc : Hid (nameC s k = false) := by rw [Hid, nameC, Hcl.out, z1]; simp
          have Z := Lib.hid z1
          clear z1
          by_cases d1 : 48 ≤ bt s k
          · have a4 : decide (bt s k ≥ 48) = true := by simpa using d1
            by_cases d2 : bt s k ≤ 57
            · have a5 : decide (bt s k ≤ 57) = true := by simpa using d2
              go_wp2
              go_ret
              exact ⟨ret_bool (nameB_no hlt hc.out).symm, bl_refl _⟩
            · have a5 : decide (bt s k ≤ 57) = false := by simpa using d2
              go_wp2
              go_ret
              exact ⟨ret_bool (nameB_no hlt hc.out).symm, bl_refl _⟩
          · have a4 : decide (bt s k ≥ 48) = false := by simpa using d1
            go_wp2
            go_ret
            exact ⟨ret_bool (nameB_no hlt hc.out).symm, bl_refl _⟩
        · have z2 : ((k : Int) == 0) = false := by simpa using z1
          have Z := Lib.hid z1
          clear z1
          by_cases d1 : 48 ≤ bt s k
          · have a4 : decide (bt s k ≥ 48) = true := by simpa using d1
            have a6 : decide (bt s k < 48) = false := by simp; omega
            by_cases d2 : bt s k ≤ 57
            · have a5 : decide (bt s k ≤ 57) = true := by simpa using d2
              have a7 : decide (bt s k > 57) = false := by simp; omega
              have hc : Hid (nameC s k = true) := by rw [Hid, nameC, inB_yes (a := 48) (by omega) (by omega), decide_eq_false Z.out]; simp
              go_wp2
              go_round
              case rel => exact ⟨k + 1, by omega, by go_num, upto_succ hg hc.out⟩
              case measure => simp [intOf]; omega
            · have a5 : decide (bt s k ≤ 57) = false := by simpa using d2
              have a7 : decide (bt s k > 57) = true := by simp; omega
              have hc : Hid (nameC s k = false) := by rw [Hid, nameC, Hcl.out, inB_no (a := 48) (.inr (by omega))]; simp
              go_wp2
              go_ret
              exact ⟨ret_bool (nameB_no hlt hc.out).symm, bl_refl _⟩
          · have a4 : decide (bt s k ≥ 48) = false := by simpa using d1
            have a6 : decide (bt s k < 48) = true := by simp; omega
            have hc : Hid (nameC s k = false) := by rw [Hid, nameC, Hcl.out, inB_no (a := 48) (.inl (by omega))]; simp
            go_wp2
            go_ret
            exact ⟨ret_bool (nameB_no hlt hc.out).symm, bl_refl _⟩
    · obtain rfl : k = s.size := by omega
      go_wp2_with (go_at_call 76; refine (l1In_any _ _ _ _).mono ?_; rintro e V ⟨rfl, rfl⟩)
      go_ret
      exact ⟨ret_bool (nameB_all hg.out).symm, bl_refl _⟩
set_option maxHeartbeats 1000000 in
theorem isName_any (s : ByteArray) (w : World) (hs : s.size ≤ maxLen) :
    Calls Tryz.prog 57 #[.string s] w fun e w' => e = .returned (.bool (nameB s)) ∧ Below w.heap.size w w' := by
  unfold maxLen at hs
  have hbt := get_bt s
  go_enter Tryz.func57, Tryz.ntmps57
  go_wp2
  go_loopw [8] (fun i wr => ∃ k : Nat, k ≤ s.size ∧ i = .int .i64 k ∧ Below w.heap.size w wr ∧ Hid (∀ j, j < k → nameC s j = true)) (fun i _ => s.size - (intOf i).toNat)
  case atStart => exact ⟨0, Nat.zero_le _, rfl, bl_refl _, fun j hj => absurd hj (by omega)⟩
  case round =>
    obtain ⟨k, hk, rfl, hb, hg⟩ := hrel
    by_cases hlt : k < s.size
    · have hlt2 : (k : Int) < s.size := by omega
      have hk0' : (0 : Int) ≤ k := by omega
      by_cases a1 : 97 ≤ bt s k
      · have a2 : decide (bt s k ≥ 97) = true := by simpa using a1
        have a4 : decide (bt s k ≥ 48) = true := by simp; omega
        have a5 : decide (bt s k ≤ 57) = false := by simp; omega
        have a6 : decide (bt s k < 48) = false := by simp; omega
        have a7 : decide (bt s k > 57) = true := by simp; omega
        by_cases b1 : bt s k ≤ 122
        · have b2 : decide (bt s k ≤ 122) = true := by simpa using b1
          have hc : Hid (nameC s k = true) := by rw [Hid, nameC, inB_yes (by omega) (by omega)]; rfl
          go_wp2_with fail
          go_quiet (fail)
          go_wp2
          go_roundw
          case rel => exact ⟨k + 1, by omega, by go_num, bl_drewN hb _, upto_succ hg hc.out⟩
          case measure => simp [intOf]; omega
        · have b2 : decide (bt s k ≤ 122) = false := by simpa using b1
          by_cases z1 : k = 0
          all_goals
            have z2 : ((k : Int) == 0) = decide (k = 0) := by simp [z1]
            simp only [z1, decide_true, decide_false] at z2
            have hc : Hid (nameC s k = false) := by rw [Hid, nameC, inB_no (.inr (by omega)), inB_no (.inr (by omega))]; simp
            have Z := Lib.hid z1
            clear z1
            go_wp2_with fail
            go_quiet (fail)
            go_wp2
            go_ret
            exact ⟨ret_bool (nameB_no hlt hc.out).symm, bl_drewN hb _⟩
      · have a2 : decide (bt s k ≥ 97) = false := by simp; omega
        have hcl : inB (bt s k) 97 122 = false := inB_no (.inl (by omega))
        have Hcl := Lib.hid hcl
        clear hcl
        by_cases z1 : k = 0
        · have z2 : ((k : Int) == 0) = true := by simp [z1]
          have hc : Hid (nameC s k = false) := by rw [Hid, nameC, Hcl.out, z1]; simp
          have Z := Lib.hid z1
          clear z1
          by_cases d1 : 48 ≤ bt s k
          · have a4 : decide (bt s k ≥ 48) = true := by simpa using d1
            by_cases d2 : bt s k ≤ 57
            · have a5 : decide (bt s k ≤ 57) = true := by simpa using d2
              go_wp2_with fail
              go_quiet (fail)
              go_wp2
              go_ret
              exact ⟨ret_bool (nameB_no hlt hc.out).symm, bl_drewN hb _⟩
            · have a5 : decide (bt s k ≤ 57) = false := by simpa using d2
              go_wp2_with fail
              go_quiet (fail)
              go_wp2
              go_ret
              exact ⟨ret_bool (nameB_no hlt hc.out).symm, bl_drewN hb _⟩
          · have a4 : decide (bt s k ≥ 48) = false := by simpa using d1
            go_wp2_with fail
            go_quiet (fail)
            go_wp2
            go_ret
            exact ⟨ret_bool (nameB_no hlt hc.out).symm, bl_drewN hb _⟩
        · have z2 : ((k : Int) == 0) = false := by simpa using z1
          have Z := Lib.hid z1
          clear z1
          by_cases d1 : 48 ≤ bt s k
          · have a4 : decide (bt s k ≥ 48) = true := by simpa using d1
            have a6 : decide (bt s k < 48) = false := by simp; omega
            by_cases d2 : bt s k ≤ 57
            · have a5 : decide (bt s k ≤ 57) = true := by simpa using d2
              have a7 : decide (bt s k > 57) = false := by simp; omega
              have hc : Hid (nameC s k = true) := by rw [Hid, nameC, inB_yes (a := 48) (by omega) (by omega), decide_eq_false Z.out]; simp
              go_wp2_with fail
              go_quiet (fail)
              go_wp2
              go_roundw
              case rel => exact ⟨k + 1, by omega, by go_num, bl_drewN hb _, upto_succ hg hc.out⟩
              case measure => simp [intOf]; omega
            · have a5 : decide (bt s k ≤ 57) = false := by simpa using d2
              have a7 : decide (bt s k > 57) = true := by simp; omega
              have hc : Hid (nameC s k = false) := by rw [Hid, nameC, Hcl.out, inB_no (a := 48) (.inr (by omega))]; simp
              go_wp2_with fail
              go_quiet (fail)
              go_wp2
              go_ret
              exact ⟨ret_bool (nameB_no hlt hc.out).symm, bl_drewN hb _⟩
          · have a4 : decide (bt s k ≥ 48) = false := by simpa using d1
            have a6 : decide (bt s k < 48) = true := by simp; omega
            have hc : Hid (nameC s k = false) := by rw [Hid, nameC, Hcl.out, inB_no (a := 48) (.inl (by omega))]; simp
            go_wp2_with fail
            go_quiet (fail)
            go_wp2
            go_ret
            exact ⟨ret_bool (nameB_no hlt hc.out).symm, bl_drewN hb _⟩
    · obtain rfl : k = s.size := by omega
      go_wp2_with (go_at_call 36; refine (inside_any _ _ _ _).mono ?_; rintro e V ⟨rfl, rfl⟩)
      go_ret
      exact ⟨ret_bool (nameB_all hg.out).symm, hb⟩

end Go.Proofs.YtpdblmcflniomaaGreatDoor

namespace Go.Proofs.YtpdblmcflniomaaGreatDoor
open Go.RowKit

def hasS (l : List ByteArray) (s : ByteArray) : Bool := l.any (fun p => p.toList == s.toList)
theorem any_no {α : Type} [Inhabited α] {p : α → Bool} {xs : List α} (h : ∀ j, j < xs.length → p (nth xs j) = false) : xs.any p = false := by
  rw [any_index, indexF_none h]; rfl
theorem any_yes {α : Type} [Inhabited α] {p : α → Bool} {xs : List α} {k : Nat} (hk : k < xs.length) (h : p (nth xs k) = true) : xs.any p = true := by
  rw [List.any_eq_true]; exact ⟨_, nth_mem hk, h⟩
set_option maxHeartbeats 1000000 in
theorem dsHas_any (L : List ByteArray) (v : ByteArray) (A : Option Addr) (n c : Nat) (w : World) (hn : (n : Int) ≤ 9223372036854775807) (hs : Sl w A n L) :
    Calls Tryz.prog 75 #[.slice A n c, .string v] w fun e w' => e = .returned (.bool (hasS L v)) ∧ w' = w := by
  have HL := Lib.hid hs.1
  go_enter Tryz.func75, Tryz.ntmps75
  go_wp2
  go_loop [9] (fun i => ∃ k : Nat, k ≤ n ∧ i = .int .i64 k ∧ Hid (∀ j, j < k → ((nth L j).toList == v.toList) = false)) (fun i => n - (intOf i).toNat)
  case atStart => exact ⟨0, Nat.zero_le _, rfl, fun j hj => absurd hj (by omega)⟩
  case round =>
    obtain ⟨k, hk, rfl, hg⟩ := hrel
    by_cases hlt : k < n
    · obtain ⟨b, o, rfl, _, c0⟩ := hs.str hlt
      clear hs
      cases hp : (nth L k).toList == v.toList
      · have hp' := Lib.hid hp
        go_wp2
        go_round
        case rel => exact ⟨k + 1, by omega, by go_num, upto_succ hg hp'.out⟩
        case measure => simp [intOf]; omega
      · have hp' := Lib.hid hp
        go_wp2
        go_ret
        exact ⟨ret_bool (any_yes (p := fun p : ByteArray => p.toList == v.toList) (by rw [HL.out]; exact hlt) hp'.out).symm, rfl⟩
    · obtain rfl : k = n := by omega
      go_wp2
      go_ret
      exact ⟨ret_bool (any_no (p := fun p : ByteArray => p.toList == v.toList) (by rw [HL.out]; exact hg.out)).symm, rfl⟩
set_option maxHeartbeats 1000000 in
theorem indexS_any (L : List ByteArray) (v : ByteArray) (A : Option Addr) (n c : Nat) (w : World) (hn : (n : Int) ≤ 9223372036854775807) (hs : Sl w A n L) :
    Calls Tryz.prog 104 #[.slice A n c, .string v] w fun e w' => e = .returned (.int .i64 (indexF (fun p => p.toList == v.toList) L)) ∧ w' = w := by
  have HL := Lib.hid hs.1
  go_enter Tryz.func104, Tryz.ntmps104
  go_wp2
  go_loop [8] (fun i => ∃ k : Nat, k ≤ n ∧ i = .int .i64 k ∧ Hid (∀ j, j < k → ((nth L j).toList == v.toList) = false)) (fun i => n - (intOf i).toNat)
  case atStart => exact ⟨0, Nat.zero_le _, rfl, fun j hj => absurd hj (by omega)⟩
  case round =>
    obtain ⟨k, hk, rfl, hg⟩ := hrel
    by_cases hlt : k < n
    · obtain ⟨b, o, rfl, _, c0⟩ := hs.str hlt
      clear hs
      cases hp : (nth L k).toList == v.toList
      · have hp' := Lib.hid hp
        have hp2 : (v.toList == (nth L k).toList) = false := by rw [BEq.comm]; exact hp
        clear hp
        go_wp2
        go_round
        case rel => exact ⟨k + 1, by omega, by go_num, upto_succ hg hp'.out⟩
        case measure => simp [intOf]; omega
      · have hp' := Lib.hid hp
        have hp2 : (v.toList == (nth L k).toList) = true := by rw [BEq.comm]; exact hp
        clear hp
        go_wp2
        go_ret
        exact ⟨ret_i64 (indexF_hit (p := fun p : ByteArray => p.toList == v.toList) (by rw [HL.out]; exact hlt) hp'.out hg.out).symm, rfl⟩
    · obtain rfl : k = n := by omega
      go_wp2
      go_ret
      exact ⟨ret_i64 (indexF_none (p := fun p : ByteArray => p.toList == v.toList) (by rw [HL.out]; exact hg.out)).symm, rfl⟩
theorem containsS_any (L : List ByteArray) (v : ByteArray) (A : Option Addr) (n c : Nat) (w : World) (hn : (n : Int) ≤ 9223372036854775807) (hs : Sl w A n L) :
    Calls Tryz.prog 84 #[.slice A n c, .string v] w fun e w' => e = .returned (.bool (hasS L v)) ∧ w' = w := by
  unfold hasS
  rw [any_index]
  go_enter Tryz.func84, Tryz.ntmps84
  go_wp2_with fail
  refine (indexS_any L v _ _ _ _ hn hs).mono ?_
  rintro e w ⟨rfl, rfl⟩
  go_wp2
  go_ret
  exact ⟨rfl, rfl⟩
/-- What a function value handed to the library does with a Incident. -/
def PredIncident (P : Program) (w : World) (xs : List Incident) (g : FuncId) (caps : Array Value) (p : Incident → Bool) : Prop :=
  ∀ (W : World) (x : Incident) (A' : Option Addr) (c' : Nat), x ∈ xs → Below w.heap.size w W → Sl W A' x.Names.length x.Names → x.Names.length ≤ maxLen → Calls P g (#[.agg #[.int .i64 (x.Number), .int .i64 (x.Node), .bool (x.Closed), .slice A' x.Names.length c']] ++ caps) W fun e W' => e = .returned (.bool (p x)) ∧ Below W.heap.size W W'
set_option maxHeartbeats 1000000 in
theorem indexFunc_incident (xs : List Incident) (A : Option Addr) (n c : Nat) (g : FuncId) (caps : Array Value) (p : Incident → Bool) (w : World) (hn : (n : Int) ≤ 9223372036854775807) (hs : Sl w A n xs) (hen : Enters Tryz.prog g) (hp : PredIncident Tryz.prog w xs g caps p) :
    Calls Tryz.prog 77 #[.slice A n c, .func (.func g) #[] caps] w fun e w' => e = .returned (.int .i64 (indexF p xs)) ∧ Below w.heap.size w w' := by
  have HL := Lib.hid hs.1
  have HP := Lib.hid hp
  clear hp
  have hcf : ∀ (args : Array Value) (W : World), (callFunc g args).run Tryz.prog W = .ok (.enter g args) W := hen
  clear hen
  go_enter Tryz.func77, Tryz.ntmps77
  go_wp2
  go_loopw [8] (fun i wr => ∃ k : Nat, k ≤ n ∧ i = .int .i64 k ∧ Below w.heap.size w wr ∧ Hid (∀ j, j < k → p (nth xs j) = false)) (fun i _ => n - (intOf i).toNat)
  case atStart => exact ⟨0, Nat.zero_le _, rfl, bl_refl _, fun j hj => absurd hj (by omega)⟩
  case round =>
    obtain ⟨k, hk, rfl, hb, hg⟩ := hrel
    by_cases hlt : k < n
    · obtain ⟨b, o, A', c', rfl, _, c0, c1, c2, c3, hi, hil⟩ := (hs.below hb).incident hlt
      clear hs
      go_wp2_with fail
      refine (HP.out _ (nth xs k) A' c' (nth_mem (by rw [HL.out]; exact hlt)) hb hi hil).mono ?_
      rintro e V ⟨rfl, hV⟩
      have hbV := bl_trans hb hV
      clear hi hil c0 c1 c2 c3
      cases hpk : p (nth xs k)
      · have hpk' := Lib.hid hpk
        clear hpk
        go_wp2
        go_roundw
        case rel => exact ⟨k + 1, by omega, by go_num, hbV, upto_succ hg hpk'.out⟩
        case measure => simp [intOf]; omega
      · have hpk' := Lib.hid hpk
        clear hpk
        go_wp2
        go_ret
        exact ⟨ret_i64 (indexF_hit (by rw [HL.out]; exact hlt) hpk'.out hg).symm, hbV⟩
    · obtain rfl : k = n := by omega
      go_wp2
      go_ret
      exact ⟨ret_i64 (indexF_none (by rw [HL.out]; exact hg)).symm, hb⟩
/-- where the first incident stands to which a name is committed -/
def atB (xs : List Incident) (nm : ByteArray) : Int := indexF (fun y => hasS y.Names nm) xs
theorem enters_cA : Enters Tryz.prog 83 := enters_of Tryz.func83 (by kernel_rfl) (by kernel_rfl)
theorem pred_cA (w : World) (B : Nat) (nm : ByteArray) (ha : w.cell? ⟨B, 0, none⟩ = some (.string nm)) (xs : List Incident) : PredIncident Tryz.prog w xs 83 #[.pointer (some ⟨B, 0, none⟩)] (fun y => hasS y.Names nm) := by
  intro W x A' c' _ hb hi hil
  have ha' := cell_later hb ha
  have hz : B < W.heap.size := World.block_lt_of_cell? W _ ha'
  have hil2 : (x.Names.length : Int) ≤ 9223372036854775807 := by unfold maxLen at hil; omega
  clear ha hil
  show Calls _ _ #[.agg #[.int .i64 x.Number, .int .i64 x.Node, .bool x.Closed, .slice A' x.Names.length c'], .pointer (some ⟨B, 0, none⟩)] W _
  go_enter Tryz.func83, Tryz.ntmps83
  go_wp2_with fail
  refine (containsS_any x.Names nm _ _ _ _ hil2 (hi.below (bl_alloc (bl_refl _) _))).mono ?_
  rintro e V ⟨rfl, rfl⟩
  go_wp2
  go_ret
  exact ⟨rfl, bl_alloc (bl_refl _) _⟩
theorem committedAt_any (xs : List Incident) (nm : ByteArray) (A : Option Addr) (n c : Nat) (w : World) (hn : (n : Int) ≤ 9223372036854775807) (hs : Sl w A n xs) :
    Calls Tryz.prog 50 #[.slice A n c, .string nm] w fun e w' => e = .returned (.int .i64 (atB xs nm)) ∧ Below w.heap.size w w' := by
  go_enter Tryz.func50, Tryz.ntmps50
  go_wp2_with fail
  refine (indexFunc_incident xs _ _ _ _ _ _ _ hn (hs.below (bl_alloc (bl_refl _) _)) enters_cA (pred_cA _ w.heap.size nm (by go_simp) xs)).mono ?_
  rintro e V ⟨rfl, hV⟩
  go_wp2
  go_ret
  exact ⟨rfl, bl_trans (bl_alloc (bl_refl w) (.cells #[.string nm] 9)) hV⟩
set_option maxHeartbeats 1000000 in
theorem ixOf_any (xs : List Incident) (nm : ByteArray) (A : Option Addr) (n c : Nat) (w : World) (hn : (n : Int) ≤ 9223372036854775807) (hs : Sl w A n xs) :
    Calls Tryz.prog 52 #[.slice A n c, .string nm] w fun e w' => e = .returned (.int .i64 (atB xs nm)) ∧ Below w.heap.size w w' := by
  have HL := Lib.hid hs.1
  go_enter Tryz.func52, Tryz.ntmps52
  go_wp2
  go_loopw [9] (fun i wr => ∃ k : Nat, k ≤ n ∧ i = .int .i64 k ∧ Below w.heap.size w wr ∧ Hid (∀ j, j < k → hasS (nth xs j).Names nm = false)) (fun i _ => n - (intOf i).toNat)
  case atStart => exact ⟨0, Nat.zero_le _, rfl, bl_refl _, fun j hj => absurd hj (by omega)⟩
  case round =>
    obtain ⟨k, hk, rfl, hb, hg⟩ := hrel
    by_cases hlt : k < n
    · obtain ⟨b, o, A', c', rfl, _, c0, c1, c2, c3, hi, hil⟩ := (hs.below hb).incident hlt
      have hil2 : ((nth xs k).Names.length : Int) ≤ 9223372036854775807 := by unfold maxLen at hil; omega
      clear hs hil
      go_wp2_with fail
      refine (dsHas_any (nth xs k).Names nm _ _ _ _ hil2 (hi.below (bl_alloc (bl_refl _) _))).mono ?_
      rintro e V ⟨rfl, rfl⟩
      cases hp : hasS (nth xs k).Names nm
      · have hp' := Lib.hid hp
        clear hp
        go_wp2
        go_roundw
        case rel => exact ⟨k + 1, by omega, by go_num, bl_alloc hb _, upto_succ hg hp'.out⟩
        case measure => simp [intOf]; omega
      · have hp' := Lib.hid hp
        clear hp
        go_wp2
        go_ret
        exact ⟨ret_i64 (indexF_hit (p := fun y : Incident => hasS y.Names nm) (by rw [HL.out]; exact hlt) hp'.out hg.out).symm, bl_alloc hb _⟩
    · obtain rfl : k = n := by omega
      go_wp2
      go_ret
      exact ⟨ret_i64 (indexF_none (p := fun y : Incident => hasS y.Names nm) (by rw [HL.out]; exact hg.out)).symm, hb⟩

end Go.Proofs.YtpdblmcflniomaaGreatDoor
