/-
  Skills: both tests of a list answer skillsB. No conditions.
-/
import Derived.Test.YtgjnjfaohpmhkaaSkillA
namespace Go.Proofs.Ytgjnjfaohpmhkaa
open Go.RowKit

def okSkill (xs : List Skill) (k : Nat) : Bool := skillB (nth xs k) && !(decide (0 < k) && !skLess (nth xs (k - 1)) (nth xs k))
def skillsB (xs : List Skill) : Bool := allB xs.length (okSkill xs) && decide (xs.length ≤ 24)
theorem okSkill_0 {xs : List Skill} {k : Nat} (h : skillB (nth xs k) = false) : okSkill xs k = false := by simp only [okSkill, h]; rfl
theorem okSkill_1 {xs : List Skill} {k : Nat} (h : 0 < k) (h' : skLess (nth xs (k - 1)) (nth xs k) = false) : okSkill xs k = false := by simp only [okSkill, decide_eq_true h, h']; simp
theorem okSkill_y {xs : List Skill} {k : Nat} (h : skillB (nth xs k) = true) (h' : ¬ 0 < k ∨ skLess (nth xs (k - 1)) (nth xs k) = true) : okSkill xs k = true := by
  rcases h' with h' | h'
  · simp only [okSkill, h, decide_eq_false h']; rfl
  · simp only [okSkill, h, h']; simp
theorem skillsB_no {xs : List Skill} {k : Nat} (hk : k < xs.length) (h : okSkill xs k = false) : skillsB xs = false := by simp only [skillsB, allB_false hk h]; rfl
theorem skillsB_all {xs : List Skill} (h : ∀ j, j < xs.length → okSkill xs j = true) : skillsB xs = decide (xs.length ≤ 24) := by simp only [skillsB, allB_true h]; rfl
theorem skillsB_len {xs : List Skill} (h : skillsB xs = true) : xs.length ≤ 24 := by simp [skillsB] at h; exact h.2
theorem skillsB_at {xs : List Skill} (h : skillsB xs = true) {k : Nat} (hk : k < xs.length) : okSkill xs k = true := by simp only [skillsB, Bool.and_eq_true] at h; exact allB_iff.1 h.1 k hk
theorem skill_at {xs : List Skill} (h : skillsB xs = true) {k : Nat} (hk : k < xs.length) : skillB (nth xs k) = true := by
  have h1 := skillsB_at h hk
  simp only [okSkill, Bool.and_eq_true] at h1
  exact h1.1
theorem kind_at {xs : List Skill} (h : skillsB xs = true) {k : Nat} (hk : k < xs.length) : (0 ≤ (nth xs k).Kind ∧ (nth xs k).Kind ≤ 5) ∧ 0 ≤ (nth xs k).Until ∧ (nth xs k).Until ≤ 20000 := by
  have h1 := skill_at h hk
  simp only [skillB, Bool.and_eq_true] at h1
  exact ⟨inB_iff.1 h1.1.2, inB_iff.1 h1.2⟩
set_option maxHeartbeats 2000000 in
theorem drGood_any (xs : List Skill) (A : Option Addr) (n c : Nat) (w : World) (hn : (n : Int) ≤ 9223372036854775807) (hs : Sl w A n xs) (hv : ∀ x, x ∈ xs → x.Person.size ≤ maxLen) :
    Calls Try.prog 61 #[.slice A n c] w fun e w' => e = .returned (.bool (skillsB xs)) ∧ Below w.heap.size w w' := by
  have HV := Lib.hid hv
  clear hv
  have HL := Lib.hid hs.1
  go_enter Try.func61, Try.ntmps61
  go_wp2
  go_loopw [7] (fun i wr => ∃ k : Nat, k ≤ n ∧ i = .int .i64 k ∧ Below w.heap.size w wr ∧ Hid (∀ j, j < k → okSkill xs j = true)) (fun i _ => n - (intOf i).toNat)
  case atStart => exact ⟨0, Nat.zero_le _, rfl, Below.refl _ _, fun j hj => absurd hj (by omega)⟩
  case round =>
    obtain ⟨k, hk, rfl, hb, hg⟩ := hrel
    by_cases hlt : k < n
    · have hs' := hs.below hb
      obtain ⟨b, o, rfl, hbz, c0, c1, c2⟩ := hs'.skill hlt
      clear hs
      have hkx : Hid (k < xs.length) := by rw [Hid, HL.out]; exact hlt
      have hszh := Lib.hid (HV.out _ (nth_mem hkx.out))
      cases g0 : skillB (nth xs k)
      · have G0 := Lib.hid g0
        clear hs'
        go_wp2_with fail
        refine wp_region_grow (by kernel_rfl) (by kernel_rfl) (fun X hX => ?_)
        have hbX : Below wr.heap.size wr X := by rw [hX]; exact bl_alloc (bl_refl _) _
        have r0 : X.cell? ⟨wr.heap.size, 0, none⟩ = some (.string (nth xs k).Person) := by rw [hX]; go_simp
        have r1 : X.cell? ⟨wr.heap.size, 1, none⟩ = some (.int .i64 (nth xs k).Kind) := by rw [hX]; go_simp
        have r2 : X.cell? ⟨wr.heap.size, 2, none⟩ = some (.int .i64 (nth xs k).Until) := by rw [hX]; go_simp
        have q0 := Gw.cell r0
        have q1 := Gw.cell r1
        have q2 := Gw.cell r2
        have HX := Lib.hid hX
        clear hX c0 c1 c2
        repeat (go_big_quiet_step (first | (go_at_call 83; exact Calls.grow_of (drOne_any (nth xs k) _ hszh.out)) | (go_at_call 84; exact Calls.grow_of (drBefore_any (nth xs (k - 1)) (nth xs k) _))))
        refine wpGrow_nil (fun V hV => ?_)
        have hbV := bl_trans hb (bl_trans hbX hV)
        clear hV hbX r0 q0 r1 q1 r2 q2
        go_wp2
        go_ret
        exact ⟨ret_bool (skillsB_no hkx.out (okSkill_0 G0.out)).symm, hbV⟩
      have G0 := Lib.hid g0
      by_cases hk0 : 0 < k
      · have h2 := hs'.flat2 (k := k - 1) (by omega)
        have d0 : wr.cell? ⟨b, o + (k - 1) * 3, none⟩ = some (.string (nth xs (k - 1)).Person) := h2 0 _ rfl
        have d1 : wr.cell? ⟨b, o + (k - 1) * 3 + 1, none⟩ = some (.int .i64 (nth xs (k - 1)).Kind) := h2 1 _ rfl
        have d2 : wr.cell? ⟨b, o + (k - 1) * 3 + 2, none⟩ = some (.int .i64 (nth xs (k - 1)).Until) := h2 2 _ rfl
        clear h2 hs'
        have hkd : decide ((k : Int) > 0) = true := by simpa using hk0
        have i2 : 0 ≤ (k : Int) - 1 := by omega
        have i4 : (k : Int) - 1 < n := by omega
        have i1 : IntKind.i64.wrap ((k : Int) - 1) = (k : Int) - 1 := IntWalk.i64_in _ (by omega)
        have i3 : ((k : Int) - 1).toNat = k - 1 := by omega
        cases g1 : skLess (nth xs (k - 1)) (nth xs k)
        · have G1 := Lib.hid g1
          go_wp2_with fail
          refine wp_region_grow (by kernel_rfl) (by kernel_rfl) (fun X hX => ?_)
          have hbX : Below wr.heap.size wr X := by rw [hX]; exact bl_alloc (bl_refl _) _
          have r0 : X.cell? ⟨wr.heap.size, 0, none⟩ = some (.string (nth xs k).Person) := by rw [hX]; go_simp
          have r1 : X.cell? ⟨wr.heap.size, 1, none⟩ = some (.int .i64 (nth xs k).Kind) := by rw [hX]; go_simp
          have r2 : X.cell? ⟨wr.heap.size, 2, none⟩ = some (.int .i64 (nth xs k).Until) := by rw [hX]; go_simp
          have p0 := cell_later hbX (d0 : wr.cell? _ = some (.string (nth xs (k - 1)).Person))
          have p1 := cell_later hbX (d1 : wr.cell? _ = some (.int .i64 (nth xs (k - 1)).Kind))
          have p2 := cell_later hbX (d2 : wr.cell? _ = some (.int .i64 (nth xs (k - 1)).Until))
          have q0 := Gw.cell r0
          have q1 := Gw.cell r1
          have q2 := Gw.cell r2
          have s0 := Gw.cell p0
          have s1 := Gw.cell p1
          have s2 := Gw.cell p2
          have HX := Lib.hid hX
          clear hX c0 c1 c2
          repeat (go_big_quiet_step (first | (go_at_call 83; exact Calls.grow_of (drOne_any (nth xs k) _ hszh.out)) | (go_at_call 84; exact Calls.grow_of (drBefore_any (nth xs (k - 1)) (nth xs k) _))))
          refine wpGrow_nil (fun V hV => ?_)
          have hbV := bl_trans hb (bl_trans hbX hV)
          clear hV hbX r0 q0 r1 q1 r2 q2 p0 s0 d0 p1 s1 d1 p2 s2 d2
          clear i1 i3
          go_wp2
          go_ret
          exact ⟨ret_bool (skillsB_no hkx.out (okSkill_1 hk0 G1.out)).symm, hbV⟩
        · have G1 := Lib.hid g1
          go_wp2_with fail
          refine wp_region_grow (by kernel_rfl) (by kernel_rfl) (fun X hX => ?_)
          have hbX : Below wr.heap.size wr X := by rw [hX]; exact bl_alloc (bl_refl _) _
          have r0 : X.cell? ⟨wr.heap.size, 0, none⟩ = some (.string (nth xs k).Person) := by rw [hX]; go_simp
          have r1 : X.cell? ⟨wr.heap.size, 1, none⟩ = some (.int .i64 (nth xs k).Kind) := by rw [hX]; go_simp
          have r2 : X.cell? ⟨wr.heap.size, 2, none⟩ = some (.int .i64 (nth xs k).Until) := by rw [hX]; go_simp
          have p0 := cell_later hbX (d0 : wr.cell? _ = some (.string (nth xs (k - 1)).Person))
          have p1 := cell_later hbX (d1 : wr.cell? _ = some (.int .i64 (nth xs (k - 1)).Kind))
          have p2 := cell_later hbX (d2 : wr.cell? _ = some (.int .i64 (nth xs (k - 1)).Until))
          have q0 := Gw.cell r0
          have q1 := Gw.cell r1
          have q2 := Gw.cell r2
          have s0 := Gw.cell p0
          have s1 := Gw.cell p1
          have s2 := Gw.cell p2
          have HX := Lib.hid hX
          clear hX c0 c1 c2
          repeat (go_big_quiet_step (first | (go_at_call 83; exact Calls.grow_of (drOne_any (nth xs k) _ hszh.out)) | (go_at_call 84; exact Calls.grow_of (drBefore_any (nth xs (k - 1)) (nth xs k) _))))
          refine wpGrow_nil (fun V hV => ?_)
          have hbV := bl_trans hb (bl_trans hbX hV)
          clear hV hbX r0 q0 r1 q1 r2 q2 p0 s0 d0 p1 s1 d1 p2 s2 d2
          clear i1 i3
          go_wp2
          go_roundw
          case rel => exact ⟨k + 1, by omega, by go_num, hbV, upto_succ hg (okSkill_y G0.out (.inr G1.out))⟩
          case measure => simp [intOf]; omega
      · have hkd : decide ((k : Int) > 0) = false := by simp; omega
        clear hs'
        go_wp2_with fail
        refine wp_region_grow (by kernel_rfl) (by kernel_rfl) (fun X hX => ?_)
        have hbX : Below wr.heap.size wr X := by rw [hX]; exact bl_alloc (bl_refl _) _
        have r0 : X.cell? ⟨wr.heap.size, 0, none⟩ = some (.string (nth xs k).Person) := by rw [hX]; go_simp
        have r1 : X.cell? ⟨wr.heap.size, 1, none⟩ = some (.int .i64 (nth xs k).Kind) := by rw [hX]; go_simp
        have r2 : X.cell? ⟨wr.heap.size, 2, none⟩ = some (.int .i64 (nth xs k).Until) := by rw [hX]; go_simp
        have q0 := Gw.cell r0
        have q1 := Gw.cell r1
        have q2 := Gw.cell r2
        have HX := Lib.hid hX
        clear hX c0 c1 c2
        repeat (go_big_quiet_step (first | (go_at_call 83; exact Calls.grow_of (drOne_any (nth xs k) _ hszh.out)) | (go_at_call 84; exact Calls.grow_of (drBefore_any (nth xs (k - 1)) (nth xs k) _))))
        refine wpGrow_nil (fun V hV => ?_)
        have hbV := bl_trans hb (bl_trans hbX hV)
        clear hV hbX r0 q0 r1 q1 r2 q2
        go_wp2
        go_roundw
        case rel => exact ⟨k + 1, by omega, by go_num, hbV, upto_succ hg (okSkill_y G0.out (.inl hk0))⟩
        case measure => simp [intOf]; omega
    · obtain rfl : k = n := by omega
      go_wp2
      go_ret
      refine ⟨ret_bool ?_, hb⟩
      rw [skillsB_all (by rw [HL.out]; exact hg), HL.out]
      simp
      try omega

set_option maxHeartbeats 2000000 in
theorem areSkills_any (xs : List Skill) (A : Option Addr) (n c : Nat) (w : World) (hn : (n : Int) ≤ 9223372036854775807) (hs : Sl w A n xs) (hv : ∀ x, x ∈ xs → x.Person.size ≤ maxLen) :
    Calls Try.prog 39 #[.slice A n c] w fun e w' => e = .returned (.bool (skillsB xs)) ∧ Below w.heap.size w w' := by
  have HV := Lib.hid hv
  clear hv
  have HL := Lib.hid hs.1
  go_enter Try.func39, Try.ntmps39
  go_wp2
  go_loopw [7] (fun i wr => ∃ k : Nat, k ≤ n ∧ i = .int .i64 k ∧ Below w.heap.size w wr ∧ Hid (∀ j, j < k → okSkill xs j = true)) (fun i _ => n - (intOf i).toNat)
  case atStart => exact ⟨0, Nat.zero_le _, rfl, Below.refl _ _, fun j hj => absurd hj (by omega)⟩
  case round =>
    obtain ⟨k, hk, rfl, hb, hg⟩ := hrel
    by_cases hlt : k < n
    · have hs' := hs.below hb
      obtain ⟨b, o, rfl, hbz, c0, c1, c2⟩ := hs'.skill hlt
      clear hs
      have hkx : Hid (k < xs.length) := by rw [Hid, HL.out]; exact hlt
      have hszh := Lib.hid (HV.out _ (nth_mem hkx.out))
      cases g0 : skillB (nth xs k)
      · have G0 := Lib.hid g0
        clear hs'
        go_wp2_with fail
        refine wp_region_grow (by kernel_rfl) (by kernel_rfl) (fun X hX => ?_)
        have hbX : Below wr.heap.size wr X := by rw [hX]; exact bl_alloc (bl_refl _) _
        have r0 : X.cell? ⟨wr.heap.size, 0, none⟩ = some (.string (nth xs k).Person) := by rw [hX]; go_simp
        have r1 : X.cell? ⟨wr.heap.size, 1, none⟩ = some (.int .i64 (nth xs k).Kind) := by rw [hX]; go_simp
        have r2 : X.cell? ⟨wr.heap.size, 2, none⟩ = some (.int .i64 (nth xs k).Until) := by rw [hX]; go_simp
        have q0 := Gw.cell r0
        have q1 := Gw.cell r1
        have q2 := Gw.cell r2
        have HX := Lib.hid hX
        clear hX c0 c1 c2
        repeat (go_big_quiet_step (first | (go_at_call 73; exact Calls.grow_of (isSkill_any (nth xs k) _ hszh.out)) | (go_at_call 74; exact Calls.grow_of (compareSkills_any (nth xs (k - 1)) (nth xs k) _))))
        refine wpGrow_nil (fun V hV => ?_)
        have hbV := bl_trans hb (bl_trans hbX hV)
        clear hV hbX r0 q0 r1 q1 r2 q2
        go_wp2
        go_ret
        exact ⟨ret_bool (skillsB_no hkx.out (okSkill_0 G0.out)).symm, hbV⟩
      have G0 := Lib.hid g0
      by_cases hk0 : 0 < k
      · have h2 := hs'.flat2 (k := k - 1) (by omega)
        have d0 : wr.cell? ⟨b, o + (k - 1) * 3, none⟩ = some (.string (nth xs (k - 1)).Person) := h2 0 _ rfl
        have d1 : wr.cell? ⟨b, o + (k - 1) * 3 + 1, none⟩ = some (.int .i64 (nth xs (k - 1)).Kind) := h2 1 _ rfl
        have d2 : wr.cell? ⟨b, o + (k - 1) * 3 + 2, none⟩ = some (.int .i64 (nth xs (k - 1)).Until) := h2 2 _ rfl
        clear h2 hs'
        have hkd : decide ((k : Int) > 0) = true := by simpa using hk0
        have i2 : 0 ≤ (k : Int) - 1 := by omega
        have i4 : (k : Int) - 1 < n := by omega
        have i1 : IntKind.i64.wrap ((k : Int) - 1) = (k : Int) - 1 := IntWalk.i64_in _ (by omega)
        have i3 : ((k : Int) - 1).toNat = k - 1 := by omega
        cases g1 : skLess (nth xs (k - 1)) (nth xs k)
        · have G1 := Lib.hid g1
          have gc : decide (cmpSk (nth xs (k - 1)) (nth xs k) ≥ 0) = true := by rw [cmpSk_less, g1]; rfl
          clear g1
          go_wp2_with fail
          refine wp_region_grow (by kernel_rfl) (by kernel_rfl) (fun X hX => ?_)
          have hbX : Below wr.heap.size wr X := by rw [hX]; exact bl_alloc (bl_refl _) _
          have r0 : X.cell? ⟨wr.heap.size, 0, none⟩ = some (.string (nth xs k).Person) := by rw [hX]; go_simp
          have r1 : X.cell? ⟨wr.heap.size, 1, none⟩ = some (.int .i64 (nth xs k).Kind) := by rw [hX]; go_simp
          have r2 : X.cell? ⟨wr.heap.size, 2, none⟩ = some (.int .i64 (nth xs k).Until) := by rw [hX]; go_simp
          have p0 := cell_later hbX (d0 : wr.cell? _ = some (.string (nth xs (k - 1)).Person))
          have p1 := cell_later hbX (d1 : wr.cell? _ = some (.int .i64 (nth xs (k - 1)).Kind))
          have p2 := cell_later hbX (d2 : wr.cell? _ = some (.int .i64 (nth xs (k - 1)).Until))
          have q0 := Gw.cell r0
          have q1 := Gw.cell r1
          have q2 := Gw.cell r2
          have s0 := Gw.cell p0
          have s1 := Gw.cell p1
          have s2 := Gw.cell p2
          have HX := Lib.hid hX
          clear hX c0 c1 c2
          repeat (go_big_quiet_step (first | (go_at_call 73; exact Calls.grow_of (isSkill_any (nth xs k) _ hszh.out)) | (go_at_call 74; exact Calls.grow_of (compareSkills_any (nth xs (k - 1)) (nth xs k) _))))
          refine wpGrow_nil (fun V hV => ?_)
          have hbV := bl_trans hb (bl_trans hbX hV)
          clear hV hbX r0 q0 r1 q1 r2 q2 p0 s0 d0 p1 s1 d1 p2 s2 d2
          clear i1 i3
          go_wp2
          go_ret
          exact ⟨ret_bool (skillsB_no hkx.out (okSkill_1 hk0 G1.out)).symm, hbV⟩
        · have G1 := Lib.hid g1
          have gc : decide (cmpSk (nth xs (k - 1)) (nth xs k) ≥ 0) = false := by rw [cmpSk_less, g1]; rfl
          clear g1
          go_wp2_with fail
          refine wp_region_grow (by kernel_rfl) (by kernel_rfl) (fun X hX => ?_)
          have hbX : Below wr.heap.size wr X := by rw [hX]; exact bl_alloc (bl_refl _) _
          have r0 : X.cell? ⟨wr.heap.size, 0, none⟩ = some (.string (nth xs k).Person) := by rw [hX]; go_simp
          have r1 : X.cell? ⟨wr.heap.size, 1, none⟩ = some (.int .i64 (nth xs k).Kind) := by rw [hX]; go_simp
          have r2 : X.cell? ⟨wr.heap.size, 2, none⟩ = some (.int .i64 (nth xs k).Until) := by rw [hX]; go_simp
          have p0 := cell_later hbX (d0 : wr.cell? _ = some (.string (nth xs (k - 1)).Person))
          have p1 := cell_later hbX (d1 : wr.cell? _ = some (.int .i64 (nth xs (k - 1)).Kind))
          have p2 := cell_later hbX (d2 : wr.cell? _ = some (.int .i64 (nth xs (k - 1)).Until))
          have q0 := Gw.cell r0
          have q1 := Gw.cell r1
          have q2 := Gw.cell r2
          have s0 := Gw.cell p0
          have s1 := Gw.cell p1
          have s2 := Gw.cell p2
          have HX := Lib.hid hX
          clear hX c0 c1 c2
          repeat (go_big_quiet_step (first | (go_at_call 73; exact Calls.grow_of (isSkill_any (nth xs k) _ hszh.out)) | (go_at_call 74; exact Calls.grow_of (compareSkills_any (nth xs (k - 1)) (nth xs k) _))))
          refine wpGrow_nil (fun V hV => ?_)
          have hbV := bl_trans hb (bl_trans hbX hV)
          clear hV hbX r0 q0 r1 q1 r2 q2 p0 s0 d0 p1 s1 d1 p2 s2 d2
          clear i1 i3
          go_wp2
          go_roundw
          case rel => exact ⟨k + 1, by omega, by go_num, hbV, upto_succ hg (okSkill_y G0.out (.inr G1.out))⟩
          case measure => simp [intOf]; omega
      · have hkd : decide ((k : Int) > 0) = false := by simp; omega
        clear hs'
        go_wp2_with fail
        refine wp_region_grow (by kernel_rfl) (by kernel_rfl) (fun X hX => ?_)
        have hbX : Below wr.heap.size wr X := by rw [hX]; exact bl_alloc (bl_refl _) _
        have r0 : X.cell? ⟨wr.heap.size, 0, none⟩ = some (.string (nth xs k).Person) := by rw [hX]; go_simp
        have r1 : X.cell? ⟨wr.heap.size, 1, none⟩ = some (.int .i64 (nth xs k).Kind) := by rw [hX]; go_simp
        have r2 : X.cell? ⟨wr.heap.size, 2, none⟩ = some (.int .i64 (nth xs k).Until) := by rw [hX]; go_simp
        have q0 := Gw.cell r0
        have q1 := Gw.cell r1
        have q2 := Gw.cell r2
        have HX := Lib.hid hX
        clear hX c0 c1 c2
        repeat (go_big_quiet_step (first | (go_at_call 73; exact Calls.grow_of (isSkill_any (nth xs k) _ hszh.out)) | (go_at_call 74; exact Calls.grow_of (compareSkills_any (nth xs (k - 1)) (nth xs k) _))))
        refine wpGrow_nil (fun V hV => ?_)
        have hbV := bl_trans hb (bl_trans hbX hV)
        clear hV hbX r0 q0 r1 q1 r2 q2
        go_wp2
        go_roundw
        case rel => exact ⟨k + 1, by omega, by go_num, hbV, upto_succ hg (okSkill_y G0.out (.inl hk0))⟩
        case measure => simp [intOf]; omega
    · obtain rfl : k = n := by omega
      go_wp2
      go_ret
      refine ⟨ret_bool ?_, hb⟩
      rw [skillsB_all (by rw [HL.out]; exact hg), HL.out]
      simp
      try omega

end Go.Proofs.Ytgjnjfaohpmhkaa
