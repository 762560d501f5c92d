/-
  Lists of lists of ints: the helpers of the laws over them. No conditions.
-/
import Derived.Test.YtgjnjfaohpmhkaaNestB
import Derived.Test.YtgjnjfaohpmhkaaInts
import Derived.Test.YtgjnjfaohpmhkaaMarkT
namespace Go.Proofs.Ytgjnjfaohpmhkaa
open Go.RowKit

/-- a list of ints as one cell: its slice's header -/
instance : Deep (List Int) where
  sz := 1
  pos := by omega
  rep := fun w cs x => ∃ A c, cs = [.slice A x.length c] ∧ Sl w A x.length x ∧ x.length ≤ maxLen
  len := fun {_ _ _} h => by obtain ⟨A, c, rfl, _⟩ := h; rfl
  keep := fun {_ _ _ _} k h => by obtain ⟨A, c, e, hs, hl⟩ := h; exact ⟨A, c, e, hs.keep k, hl⟩
structure IntsR where
  A : Option Addr
  n : Nat
  c : Nat
instance : Inhabited IntsR := ⟨⟨none, 0, 0⟩⟩
instance : Flat IntsR where
  sz := 1
  pos := by omega
  enc := fun x => [.slice x.A x.n x.c]
  len := fun _ => rfl
  one := fun _ u h => by simp at h; subst h; rfl
def intsN : Nest IntsR Int (List Int) where
  hdr := fun r => .slice r.A r.n r.c
  of := fun _ l => l
  szs := rfl
  rep := fun {w base E r l} h => by
    have hl := h.sl.1
    have hc := h.cap
    refine ⟨r.A, r.c, ?_, ?_, ?_⟩
    · show ([.slice r.A r.n r.c] : List Value) = [.slice r.A l.length r.c]
      rw [hl]
    · show Sl w r.A l.length l
      rw [hl]; exact h.sl
    · show l.length ≤ maxLen
      omega
theorem Sl.ints {w : World} {A : Option Addr} {n : Nat} {xs : List (List Int)} (h : Sl w A n xs) {k : Nat} (hk : k < n) :
    ∃ b o A' c', A = some ⟨b, o, none⟩ ∧ b < w.heap.size ∧ w.cell? ⟨b, o + k, none⟩ = some (.slice A' (nth xs k).length c') ∧ Sl w A' (nth xs k).length (nth xs k) ∧ (nth xs k).length ≤ maxLen := by
  obtain ⟨b, o, cs, rfl, ⟨A', c', rfl, hs, hl⟩, hc⟩ := h.at hk
  have h0 := hc 0 _ rfl
  have e : Deep.sz (List Int) = 1 := rfl
  rw [e, Nat.mul_one, Nat.add_zero] at h0
  exact ⟨b, o, A', c', rfl, World.block_lt_of_cell? w _ h0, h0, hs, hl⟩
def sumInts (xs : List (List Int)) : Nat := (xs.map fun x => x.length).sum
theorem sum_take_leI (ls : List Nat) (k : Nat) : (ls.take k).sum ≤ ls.sum := by
  have h := congrArg List.sum (List.take_append_drop k ls)
  rw [List.sum_append] at h
  omega
theorem set_mixI {α : Type} {L a b : List α} {i : Nat} (hL : L = a.take i ++ b.drop i) (hl : a.length = b.length) (hi : i < a.length) {x : α} (hx : a[i]? = some x) : L.set i x = a.take (i + 1) ++ b.drop (i + 1) := by
  subst hL
  rw [List.set_append_right _ _ (by rw [List.length_take]; omega), List.length_take, Nat.min_eq_left (by omega), Nat.sub_self, List.drop_eq_getElem_cons (by omega), List.set_cons_zero, List.take_add_one, hx]
  simp
set_option maxHeartbeats 1000000 in
theorem eqIntSS_any (A B : Option Addr) (n m c d : Nat) (xs ys : List (List Int)) (w : World) (hn : (n : Int) ≤ 9223372036854775807) (hx : Sl w A n xs) (hy : Sl w B m ys) :
    Calls Try.prog 9 #[.slice A n c, .slice B m d] w fun e w' => e = .returned (.bool (sameB xs ys)) ∧ Below w.heap.size w w' := by
  have Hx := Lib.hid hx.1
  have Hy := Lib.hid hy.1
  by_cases hnm : n = m
  · subst hnm
    have hd : ((n : Int) != (n : Int)) = false := by simp
    go_enter Try.func9, Try.ntmps9
    go_wp2
    go_loopw [5] (fun i wr => ∃ k : Nat, k ≤ n ∧ i = .int .i64 k ∧ Below w.heap.size w wr ∧ Hid (xs.take k = ys.take k)) (fun i _ => n - (intOf i).toNat)
    case atStart => exact ⟨0, Nat.zero_le _, rfl, bl_refl _, rfl⟩
    case round =>
      obtain ⟨k, hk, rfl, hb, hg⟩ := hrel
      by_cases hlt : k < n
      · obtain ⟨b, o, A', c', rfl, _, c0, hi, hil⟩ := (hx.below hb).ints hlt
        obtain ⟨b', o', B', c'', rfl, _, d0, hj, _⟩ := (hy.below hb).ints hlt
        have hil2 : ((nth xs k).length : Int) ≤ 9223372036854775807 := by unfold maxLen at hil; omega
        clear hx hy hil
        by_cases he : sameB (nth xs k) (nth ys k) = true
        · go_wp2_with fail
          refine wp_region_grow (by kernel_rfl) (by kernel_rfl) (fun W hW => ?_)
          have e0 := Gw.cell (by rw [hW]; exact c0 : W.cell? _ = _)
          have g0 := Gw.cell (by rw [hW]; exact d0 : W.cell? _ = _)
          have SX := Lib.hid (show Sl W A' _ (nth xs k) by rw [hW]; exact hi)
          have SY := Lib.hid (show Sl W B' _ (nth ys k) by rw [hW]; exact hj)
          have HW := Lib.hid hW
          clear hW hi hj
          repeat (go_big_quiet_step ((go_at_call 46; exact Calls.grow_of (eqIntS_any _ _ _ _ _ _ _ _ _ hil2 (SX.out.below (Subtype.property _)) (SY.out.below (Subtype.property _))))))
          refine wpGrow_nil (fun V hV => ?_)
          have hbV : Below w.heap.size w V := bl_trans hb (by rw [← HW.out]; exact hV)
          clear hV e0 g0
          go_wp2
          go_roundw
          case rel => exact ⟨k + 1, by omega, by go_num, hbV, sameB_take (by rw [Hx.out]; exact hlt) (by rw [Hy.out]; exact hlt) hg he⟩
          case measure => simp [intOf]; omega
        · have he : sameB (nth xs k) (nth ys k) = false := by simpa using he
          go_wp2_with fail
          refine wp_region_grow (by kernel_rfl) (by kernel_rfl) (fun W hW => ?_)
          have e0 := Gw.cell (by rw [hW]; exact c0 : W.cell? _ = _)
          have g0 := Gw.cell (by rw [hW]; exact d0 : W.cell? _ = _)
          have SX := Lib.hid (show Sl W A' _ (nth xs k) by rw [hW]; exact hi)
          have SY := Lib.hid (show Sl W B' _ (nth ys k) by rw [hW]; exact hj)
          have HW := Lib.hid hW
          clear hW hi hj
          repeat (go_big_quiet_step ((go_at_call 46; exact Calls.grow_of (eqIntS_any _ _ _ _ _ _ _ _ _ hil2 (SX.out.below (Subtype.property _)) (SY.out.below (Subtype.property _))))))
          refine wpGrow_nil (fun V hV => ?_)
          have hbV : Below w.heap.size w V := bl_trans hb (by rw [← HW.out]; exact hV)
          clear hV e0 g0
          go_wp2
          go_ret
          exact ⟨ret_bool (sameB_nth (k := k) he).symm, hbV⟩
      · obtain rfl : k = n := by omega
        go_wp2
        go_ret
        exact ⟨ret_bool (sameB_all Hx.out Hy.out hg).symm, hb⟩
  · have hd : ((n : Int) != (m : Int)) = true := by simp; omega
    go_enter Try.func9, Try.ntmps9
    go_wp2
    go_ret
    exact ⟨ret_bool (sameB_len (by rw [Hx.out, Hy.out]; exact hnm)).symm, bl_refl _⟩
/-- what a mark leaves at one -/
def marksIntSS (k : Int) (ls : List Nat) : List (List Int) := (List.range ls.length).map fun j : Nat => marks (fun m : Int => m) 1 (k + 1 * ((ls.take j).sum : Nat)) (nth ls j)
theorem marksIntSS_len (k : Int) (ls : List Nat) : (marksIntSS k ls).length = ls.length := by simp [marksIntSS]
theorem marksIntSS_get (k : Int) (ls : List Nat) {j : Nat} (h : j < ls.length) : (marksIntSS k ls)[j]? = some (marks (fun m : Int => m) 1 (k + 1 * ((ls.take j).sum : Nat)) (nth ls j)) := by simp [marksIntSS, h]
set_option maxHeartbeats 4000000 in
theorem markIntSS_any (A : Option Addr) (n c base : Nat) (k : Int) (xs : List (List Int)) (F : List Nat) (w : World) (hk0 : 0 ≤ k) (hk1 : k ≤ 4194304) (hsum : (n : Int) + sumInts xs ≤ 1048576) (ho : OwnX intsN w base 38 3 (.slice A n c) xs F) :
    Calls Try.prog 12 #[.slice A n c, .int .i64 k] w fun e w' => e = .returned (.int .i64 (k + 1 * (sumInts xs : Nat))) ∧ OwnX intsN w' base 38 3 (.slice A n c) (marksIntSS k (xs.map fun x => x.length)) F ∧ OnlyF F w w' := by
  obtain ⟨ps, hp, hF, h⟩ := ho
  have HP0 := Lib.hid hp
  have hps : (ps.map fun p => p.2.length).sum = sumInts xs := by
    rw [← hp]; unfold sumInts Nest.plain; rw [List.map_map]; rfl
  obtain ⟨ls, hls⟩ : ∃ ls, ls = ps.map fun p => p.2.length := ⟨_, rfl⟩
  rw [← hls] at hps
  have HLX : Hid (xs.map (fun x => x.length) = ls) := by rw [Hid, hls, ← hp]; unfold Nest.plain; rw [List.map_map]; rfl
  have HPS := Lib.hid hps
  have HSUM := Lib.hid hsum
  have HFF := Lib.hid hF
  have hn : n ≤ 1048576 := by omega
  have HLS := Lib.hid hls.symm
  clear hps hsum hls hp hF
  go_enter Try.func12, Try.ntmps12
  go_wp2
  go_loopw [1, 5] (fun u v wr => ∃ (i : Nat) (m : Int) (qs : List (IntsR × List Int)), i ≤ n ∧ v = .int .i64 i ∧ u = .int .i64 m ∧ 0 ≤ m ∧ m ≤ 12582912 ∧ Hid (m = k + 1 * ((ls.take i).sum : Nat)) ∧ OwnP intsN wr base 38 3 (.slice A n c) qs ∧ Hid (qs.map (fun p => p.2.length) = ls) ∧ Hid (intsN.foot (.slice A n c) qs = F) ∧ OnlyF F w wr ∧ Hid (intsN.plain qs = (marksIntSS k ls).take i ++ xs.drop i)) (fun _ v _ => n - (intOf v).toNat)
  case atStart => exact ⟨0, k, ps, Nat.zero_le _, rfl, rfl, hk0, by omega, by rw [Hid]; simp, h, HLS, HFF, OnlyF.refl _ _, by rw [Hid, HP0.out]; simp⟩
  case round =>
    obtain ⟨i, m, qs, hi, rfl, rfl, hm0, hm1, hm, hq, hlq, hfq, hof, hpl⟩ := hrel
    by_cases hlt : i < n
    · obtain ⟨g, rfl⟩ := hq.out.form (by omega)
      have hql : i < qs.length := by rw [hq.len]; exact hlt
      obtain ⟨p, hpq⟩ : ∃ p, qs[i]? = some p := ⟨_, List.getElem?_eq_getElem hql⟩
      have e : nth (qs.map Prod.fst) i = p.1 := nth_get (by rw [List.getElem?_map, hpq]; rfl)
      have hin := hq.inn i p hpq
      have hpn : p.2.length = p.1.n := hin.sl.1
      have hsl : ls[i]? = some p.2.length := by rw [← hlq.out, List.getElem?_map, hpq]; rfl
      have hstep : (ls.take (i + 1)).sum = (ls.take i).sum + p.1.n := by rw [List.take_add_one, hsl, List.sum_append, hpn]; simp
      have hle := sum_take_leI ls (i + 1)
      have hbnd : (i : Int) + (ls.take (i + 1)).sum ≤ 1048576 := by have := HSUM.out; have := HPS.out; omega
      have hm2 : m + p.1.n ≤ 12582912 := by have := hm.out; omega
      have hpnn : p.1.n ≤ 1048576 := by omega
      have Hstep := Lib.hid hstep
      have hsep : ∀ y, (.slice p.1.A p.1.n p.1.c : Value).ownBlock = some y → y ≠ g := fun y hy hyg => hq.sep (k := g) rfl hpq (by rw [← hyg]; exact hy)
      have Hsep := Lib.hid hsep
      have d0 : wr.cell? ⟨g, i, none⟩ = some (.slice p.1.A p.1.n p.1.c) := by
        have h0 := hq.out.cellAt hlt 0 (.slice p.1.A p.1.n p.1.c) (by rw [e]; rfl)
        have e1 : Flat.sz IntsR = 1 := rfl
        rwa [e1, Nat.mul_one] at h0
      have hmk := Lib.hid (markIntS_any p.1.A p.1.n p.1.c base m p.2 wr hpnn hm0 (by omega) hin)
      have HQ := Lib.hid hq
      have Hpq := Lib.hid hpq
      have He := Lib.hid e
      have Hlq2 := Lib.hid hpn
      clear hq hin hpq e hsep hstep hle hbnd hsl hpn
      go_wp2_with fail
      refine hmk.out.mono ?_
      rintro e V ⟨rfl, ho2, hg2⟩
      have HO2 := Lib.hid ho2
      have hf2 := Lib.hid (OnlyF.of_gb hg2)
      clear ho2 hg2 d0
      go_wp2
      go_roundw
      case rel =>
        have hn3 : ∀ y, (.slice p.1.A p.1.n p.1.c : Value).ownBlock = some y → y ∈ F := fun y hy => by rw [← hfq.out]; exact Nest.mem_foot _ |>.2 (.inr ⟨i, p, Hpq.out, hy⟩)
        have hn2 : g ∈ F := by rw [← hfq.out]; exact Nest.mem_foot _ |>.2 (.inl rfl)
        have hF2 : OnlyF (g :: (.slice p.1.A p.1.n p.1.c : Value).ownBlock.toList) wr V := hf2.out.mono (fun y hy => List.mem_cons_of_mem _ hy)
        have hset : (qs.map Prod.fst).set i p.1 = qs.map Prod.fst := by
          apply List.ext_getElem?
          intro j
          rw [List.getElem?_set]
          by_cases hj : i = j
          · subst hj; rw [if_pos rfl, if_pos (by rw [List.length_map]; exact hql), List.getElem?_map, Hpq.out]; rfl
          · rw [if_neg hj]
        have hown : Own V base 38 (.slice (some ⟨g, 0, none⟩) n c) ((qs.map Prod.fst).set i p.1) := by
          rw [hset]
          refine Own.only HQ.out.out hf2.out (fun y hy hm => ?_)
          have hy' : y = g := by simpa [Value.ownBlock] using hy
          exact Hsep.out y (by simpa using hm) hy'
        have hup := HQ.out.upd (p' := (p.1, marks (fun m : Int => m) 1 m p.1.n)) Hpq.out hown HO2.out (fun y hy => .inl hy) hF2
        refine ⟨i + 1, m + p.1.n, qs.set i (p.1, marks (fun m : Int => m) 1 m p.1.n), by omega, by go_num, by simp, by omega, by omega, ?_, hup, ?_, ?_, hof.trans (hF2.mono (fun y hy => ?_)), ?_⟩
        · have h1 := hm.out
          have h2 := Hstep.out
          rw [Hid, h2]; omega
        · rw [Hid, List.map_set, marks_len, ← hlq.out]
          apply List.ext_getElem?
          intro j
          rw [List.getElem?_set]
          by_cases hj : i = j
          · subst hj; rw [if_pos rfl, if_pos (by rw [List.length_map]; exact hql), List.getElem?_map, Hpq.out, ← Hlq2.out]; rfl
          · rw [if_neg hj]
        · rw [Hid, ← hfq.out]; unfold Nest.foot; congr 1
          rw [List.flatMap_def, List.flatMap_def, List.map_set]
          congr 1
          apply List.ext_getElem?
          intro j
          rw [List.getElem?_set]
          by_cases hj : i = j
          · subst hj; rw [if_pos rfl, if_pos (by rw [List.length_map]; exact hql), List.getElem?_map, Hpq.out]; rfl
          · rw [if_neg hj]
        · rcases List.mem_cons.1 hy with rfl | hy
          · exact hn2
          · exact hn3 y (by simpa using hy)
        · have hll : ls.length = n := by rw [← hlq.out, List.length_map, HQ.out.len]
          have hnl : nth ls i = p.1.n := by rw [← Hlq2.out]; exact nth_get (by rw [← hlq.out, List.getElem?_map, Hpq.out]; rfl)
          have hxl : xs.length = n := by rw [← hll, ← HLX.out, List.length_map]
          rw [Hid]; unfold Nest.plain at hpl ⊢
          rw [List.map_set]
          refine set_mixI hpl.out (by rw [marksIntSS_len, hll, hxl]) (by rw [marksIntSS_len, hll]; exact hlt) ?_
          rw [marksIntSS_get _ _ (by rw [hll]; exact hlt), hnl, ← hm.out]
          rfl
      case measure => simp [intOf]; omega
    · obtain rfl : i = n := by omega
      go_wp2
      go_ret
      have hll : ls.length = i := by rw [← hlq.out, List.length_map, hq.len]
      have hxl : xs.length = i := by rw [← hll, ← HLX.out, List.length_map]
      have e1 : m = k + 1 * (sumInts xs : Nat) := by
        have h1 := hm.out
        rw [List.take_of_length_le (by omega), HPS.out] at h1
        exact h1
      have e2 : intsN.plain qs = marksIntSS k (xs.map fun x => x.length) := by
        rw [HLX.out, hpl.out, List.take_of_length_le (by rw [marksIntSS_len]; omega), List.drop_of_length_le (by omega), List.append_nil]
      exact ⟨ret_i64 e1, ⟨qs, e2, hfq.out, hq⟩, hof⟩
set_option maxRecDepth 100000 in
set_option maxHeartbeats 4000000 in
theorem heldIntSS_any (A : Option Addr) (n c : Nat) (k : Int) (ls : List Nat) (w : World) (hk0 : 0 ≤ k) (hk1 : k ≤ 4194304) (hln : ls.length = n) (hsum : (n : Int) + (ls.sum : Nat) ≤ 1048576) (hs : Sl w A n (marksIntSS k ls)) :
    Calls Try.prog 13 #[.slice A n c, .int .i64 k] w fun e w' => e = .returned (.int .i64 (k + 1 * (ls.sum : Nat))) ∧ Below w.heap.size w w' := by
  have HLN := Lib.hid hln
  have HSUM := Lib.hid hsum
  have hn : n ≤ 1048576 := by omega
  clear hln hsum
  go_enter Try.func13, Try.ntmps13
  go_wp2
  go_loopw [1, 5] (fun u v wr => ∃ (i : Nat) (m : Int), i ≤ n ∧ v = .int .i64 i ∧ u = .int .i64 m ∧ 0 ≤ m ∧ m ≤ 12582912 ∧ Hid (m = k + 1 * ((ls.take i).sum : Nat)) ∧ Below w.heap.size w wr) (fun _ v _ => n - (intOf v).toNat)
  case atStart => exact ⟨0, k, Nat.zero_le _, rfl, rfl, hk0, by omega, by rw [Hid]; simp, bl_refl _⟩
  case round =>
    obtain ⟨i, m, hi, rfl, rfl, hm0, hm1, hm, hb⟩ := hrel
    by_cases hlt : i < n
    · obtain ⟨b, o, A', c', rfl, hbz, c0, hin, _⟩ := (hs.below hb).ints hlt
      have hlx : i < ls.length := by rw [HLN.out]; exact hlt
      have e : nth (marksIntSS k ls) i = marks (fun m : Int => m) 1 m (nth ls i) := nth_get (by rw [marksIntSS_get _ _ hlx, ← hm.out])
      obtain ⟨q, hq⟩ : ∃ q, nth ls i = q := ⟨_, rfl⟩
      rw [hq] at e
      have he2 : (marks (fun m : Int => m) 1 m q).length = q := marks_len _ _ _ _
      have d3 : wr.cell? ⟨b, o + i, none⟩ = some (.slice A' q c') := by rw [e, he2] at c0; exact c0
      have hi2 : Hid (Sl wr A' q (marks (fun m : Int => m) 1 m q)) := by rw [Hid]; rw [e, he2] at hin; exact hin
      have hstep : (ls.take (i + 1)).sum = (ls.take i).sum + q := by rw [List.take_add_one, get_nth hlx, List.sum_append, hq]; simp
      have hle := sum_take_leI ls (i + 1)
      have hm2 : m + (q : Nat) ≤ 12582912 := by have := hm.out; have := HSUM.out; omega
      have hml : q ≤ 1048576 := by have := HSUM.out; omega
      have Hstep := Lib.hid hstep
      have hhd := Lib.hid (heldIntS_any A' q c' m wr hml hm0 (by omega) hi2.out)
      have hneg : decide (m + 1 * (q : Int) < 0) = false := decide_eq_false (by omega)
      have hneg2 : decide (m + (q : Int) < 0) = false := decide_eq_false (by omega)
      clear hs hin e he2 c0 hstep hle hlx hq
      go_wp2_with fail
      refine hhd.out.mono ?_
      rintro e V ⟨rfl, hV⟩
      have hbV := bl_trans hb hV
      clear hV hi2 d3
      go_wp2
      go_roundw
      case rel => exact ⟨i + 1, m + (q : Nat), by omega, by go_num, by simp, by omega, by omega, by have h1 := hm.out; have h2 := Hstep.out; rw [Hid, h2]; omega, hbV⟩
      case measure => simp [intOf]; omega
    · obtain rfl : i = n := by omega
      have e1 : Hid (m = k + 1 * (ls.sum : Nat)) := by
        have h1 := hm.out
        rw [List.take_of_length_le (by rw [HLN.out]; exact Nat.le_refl _)] at h1
        exact h1
      clear hs
      go_wp2
      go_ret
      exact ⟨ret_i64 e1.out, hb⟩
theorem heldIntSS_x (A : Option Addr) (n c : Nat) (k : Int) (xs : List (List Int)) (w : World) (hk0 : 0 ≤ k) (hk1 : k ≤ 4194304) (hln : xs.length = n) (hsum : (n : Int) + sumInts xs ≤ 1048576) (hs : Sl w A n (marksIntSS k (xs.map fun x => x.length))) :
    Calls Try.prog 13 #[.slice A n c, .int .i64 k] w fun e w' => e = .returned (.int .i64 (k + 1 * (sumInts xs : Nat))) ∧ Below w.heap.size w w' :=
  heldIntSS_any A n c k _ w hk0 hk1 (by rw [List.length_map]; exact hln) hsum hs
end Go.Proofs.Ytgjnjfaohpmhkaa
