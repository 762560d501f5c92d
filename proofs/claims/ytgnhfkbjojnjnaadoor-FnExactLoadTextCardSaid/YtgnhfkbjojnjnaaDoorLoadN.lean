/-
  Lists of loads: their reading, and the helpers of the laws over them. No conditions.
-/
import Derived.Test.YtgnhfkbjojnjnaaDoorLoadZ
import Derived.Test.YtgnhfkbjojnjnaaDoorNest
namespace Go.Proofs.YtgnhfkbjojnjnaaDoor
open Go.RowKit

/-- What a size function answers where the elements are counted in. -/
def SzPostN (w : World) (left : Int) (n : Nat) (e : Ending) (w' : World) : Prop :=
  ∃ r : Int, e = .returned (.int .i64 r) ∧ (r = -1 ∨ (0 ≤ r ∧ r + n ≤ left)) ∧ Below w.heap.size w w'
instance : Deep Load where
  sz := 2
  pos := by omega
  rep := fun w cs x => ∃ A c, cs = [.string (x.Appliance), .slice A x.Things.length c] ∧ Sl w A x.Things.length x.Things ∧ x.Things.length ≤ maxLen
  len := fun {_ _ _} h => by obtain ⟨A, c, rfl, _⟩ := h; rfl
  keep := fun {_ _ _ _} k h => by obtain ⟨A, c, e, hs, hl⟩ := h; exact ⟨A, c, e, hs.keep k, hl⟩
structure LoadR where
  Appliance : ByteArray
  A : Option Addr
  n : Nat
  c : Nat
instance : Inhabited LoadR := ⟨⟨ByteArray.empty, none, 0, 0⟩⟩
instance : Flat LoadR where
  sz := 2
  pos := by omega
  enc := fun x => [.string (x.Appliance), .slice x.A x.n x.c]
  len := fun _ => rfl
  one := fun _ u h => by simp at h; rcases h with rfl | rfl <;> rfl
def loadN : Nest LoadR Thing Load where
  hdr := fun r => .slice r.A r.n r.c
  of := fun r l => ⟨r.Appliance, l⟩
  szs := rfl
  rep := fun {w base E r l} h => by
    have hl := h.sl.1
    have hc := h.cap
    refine ⟨r.A, r.c, ?_, ?_, ?_⟩
    · show ([.string (r.Appliance), .slice r.A r.n r.c] : List Value) = [.string (r.Appliance), .slice r.A l.length r.c]
      rw [hl]
    · show Sl w r.A l.length l
      rw [hl]; exact h.sl
    · show l.length ≤ maxLen
      omega
theorem Sl.load {w : World} {A : Option Addr} {n : Nat} {xs : List Load} (h : Sl w A n xs) {k : Nat} (hk : k < n) :
    ∃ b o A' c', A = some ⟨b, o, none⟩ ∧ b < w.heap.size ∧ w.cell? ⟨b, o + k * 2, none⟩ = some (.string ((nth xs k).Appliance)) ∧ w.cell? ⟨b, o + k * 2 + 1, none⟩ = some (.slice A' (nth xs k).Things.length c') ∧ Sl w A' (nth xs k).Things.length (nth xs k).Things ∧ (nth xs k).Things.length ≤ maxLen := by
  obtain ⟨b, o, cs, rfl, ⟨A', c', rfl, hs, hl⟩, hc⟩ := h.at hk
  have h0 := hc 0 _ rfl
  exact ⟨b, o, A', c', rfl, World.block_lt_of_cell? w _ h0, hc 0 _ rfl, hc 1 _ rfl, hs, hl⟩
/-- how many there are inside, all told -/
def sumLoad (xs : List Load) : Nat := (xs.map fun x => x.Things.length).sum
theorem sumLoad_succ {xs : List Load} {k : Nat} (hk : k < xs.length) : sumLoad (xs.take (k + 1)) = sumLoad (xs.take k) + (nth xs k).Things.length := by
  unfold sumLoad; rw [take_succ hk, List.map_append, List.sum_append]; simp
theorem sumLoad_at {xs : List Load} {x : Load} (h : x ∈ xs) : x.Things.length ≤ sumLoad xs := by
  unfold sumLoad
  induction xs with
  | nil => cases h
  | cons y ys ih =>
    simp only [List.map_cons, List.sum_cons]
    rcases List.mem_cons.1 h with rfl | h
    · omega
    · have := ih h; omega
set_option maxHeartbeats 1000000 in
theorem szThingS_sum (A : Option Addr) (n c : Nat) (xs : List Thing) (left : Int) (w : World) (hn : (n : Int) ≤ 9223372036854775807) (hs : Sl w A n xs) (hv : ∀ x, x ∈ xs → x.Name.size ≤ maxLen) (h0 : 0 ≤ left) (h1 : left ≤ 1048576) :
    Calls Tryd.prog 9 #[.slice A n c, .int .i64 left] w (SzPostN w left n) := by
  have HL := Lib.hid hs.1
  have HV := Lib.hid hv
  clear hv
  by_cases hlt : left < n
  · go_enter Tryd.func9, Tryd.ntmps9
    go_wp2
    go_ret
    exact ⟨-1, rfl, .inl rfl, bl_refl _⟩
  go_enter Tryd.func9, Tryd.ntmps9
  go_wp2
  go_loopw [1, 5] (fun u v wr => ∃ (k : Nat) (r : Int), k ≤ n ∧ v = .int .i64 k ∧ u = .int .i64 r ∧ 0 ≤ r ∧ r + n ≤ left ∧ Below w.heap.size w wr) (fun _ v _ => n - (intOf v).toNat)
  case atStart => exact ⟨0, left - n, Nat.zero_le _, rfl, rfl, by omega, by omega, bl_refl _⟩
  case round =>
    obtain ⟨k, r, hk, rfl, rfl, hr0, hr1, hb⟩ := hrel
    by_cases hkn : k < n
    · have hkx : Hid (k < xs.length) := by rw [Hid, HL.out]; exact hkn
      obtain ⟨b, o, rfl, hbz, c0, c1, c2⟩ := (hs.below hb).thing hkn
      clear hs
      have hm2 := Lib.hid (nth_mem hkx.out)
      go_wp2_with fail
      refine (szThing_any (nth xs k) r _ (HV.out _ hm2.out) hr0 (by omega)).mono ?_
      rintro e V ⟨q, rfl, hq, hV⟩
      clear c0 c1 c2
      rcases hq with rfl | ⟨q0, q1, q2⟩
      · go_wp2
        go_ret
        exact ⟨-1, rfl, .inl rfl, bl_trans hb hV⟩
      · go_wp2
        go_roundw
        case rel => exact ⟨k + 1, q, by omega, by go_num, rfl, q0, by omega, bl_trans hb hV⟩
        case measure => simp [intOf]; omega
    · obtain rfl : k = n := by omega
      go_wp2
      go_ret
      exact ⟨r, rfl, .inr ⟨hr0, hr1⟩, hb⟩
set_option maxHeartbeats 1000000 in
theorem szLoad_sum (appliance : ByteArray) (A : Option Addr) (n c : Nat) (xs : List Thing) (left : Int) (w : World) (hzappliance : appliance.size ≤ maxLen) (hn : (n : Int) ≤ 9223372036854775807) (hs : Sl w A n xs) (hv : ∀ x, x ∈ xs → x.Name.size ≤ maxLen) (h0 : 0 ≤ left) (h1 : left ≤ 1048576) :
    Calls Tryd.prog 4 #[.agg #[.string (appliance), .slice A n c], .int .i64 left] w (SzPostN w left n) := by
  unfold maxLen at hzappliance
  by_cases hlt : left < appliance.size
  · go_enter Tryd.func4, Tryd.ntmps4
    go_wp2
    go_ret
    exact ⟨-1, rfl, .inl rfl, bl_alloc (bl_refl _) _⟩
  have HV := Lib.hid hv
  clear hv
  go_enter Tryd.func4, Tryd.ntmps4
  go_wp2_with fail
  refine (szThingS_sum A n c xs (left - appliance.size) _ hn (hs.below (bl_alloc (bl_refl _) _)) HV.out (by omega) (by omega)).mono ?_
  rintro e V ⟨q, rfl, hq, hV⟩
  have hb := bl_trans (bl_alloc (bl_refl w) (.cells #[.string (appliance), .slice A n c] 24)) hV
  rcases hq with rfl | ⟨q0, q1⟩
  · go_wp2
    go_ret
    exact ⟨-1, rfl, .inl rfl, hb⟩
  · go_wp2
    go_ret
    exact ⟨q, rfl, .inr ⟨q0, by omega⟩, hb⟩
theorem load_info : (Tryd.prog.info? 30).map (fun i => (i.zero, i.size, i.bytes)) = some (some (.agg #[.string (ByteArray.empty), .slice none 0 0]), 2, 40) := by kernel_rfl
end Go.Proofs.YtgnhfkbjojnjnaaDoor
