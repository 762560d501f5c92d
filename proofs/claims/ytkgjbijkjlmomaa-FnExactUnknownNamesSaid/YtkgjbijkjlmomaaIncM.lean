/-
  Lists of incidents: the mark of one that was handed in. No conditions.
-/
import Derived.Test.YtkgjbijkjlmomaaIncL
namespace Go.Proofs.Ytkgjbijkjlmomaa
open Go.RowKit

/-- What a mark of a list handed in leaves. -/
def MarkPost (w : World) (F : List Nat) (bound : Int) (e : Ending) (w' : World) : Prop := ∃ r : Int, e = .returned (.int .i64 r) ∧ 0 ≤ r ∧ r ≤ bound ∧ OnlyF F w w'
theorem nth_set_self {α : Type} [Inhabited α] {L : List α} {i : Nat} {y : α} (h : i < L.length) : nth (L.set i y) i = y := nth_get (by rw [List.getElem?_set_self h])
theorem sum_take_le (L : List Nat) (i : Nat) : (L.take i).sum ≤ L.sum := by
  conv => rhs; rw [← List.take_append_drop i L, List.sum_append]
  omega
set_option maxHeartbeats 4000000 in
theorem markIncidentS_args (A : Option Addr) (n c base : Nat) (k : Int) (xs : List Incident) (F : List Nat) (w : World) (hk0 : 0 ≤ k) (hk1 : k ≤ 4194304) (hsum : (n : Int) + sumIncident xs ≤ 1048576) (ho : OwnX incidentN w base 56 9 (.slice A n c) xs F) :
    Calls Try.prog 15 #[.slice A n c, .int .i64 k] w (MarkPost w F 12582912) := by
  obtain ⟨ps, hp, hF, h⟩ := ho
  have hps : (ps.map fun p => p.2.length).sum = sumIncident xs := by
    rw [← hp]; unfold sumIncident Nest.plain; rw [List.map_map]; rfl
  obtain ⟨ls, hls⟩ : ∃ ls, ls = ps.map fun p => p.2.length := ⟨_, rfl⟩
  rw [← hls] at hps
  have HPS := Lib.hid hps
  have HSUM := Lib.hid hsum
  have HFF := Lib.hid hF
  have hn : n ≤ 1048576 := by omega
  have HLS := Lib.hid hls.symm
  clear hps hsum hls hp hF
  go_enter Try.func15, Try.ntmps15
  go_wp2
  go_loopw [1, 5] (fun u v wr => ∃ (i : Nat) (m : Int) (qs : List (IncidentR × List ByteArray)), i ≤ n ∧ v = .int .i64 i ∧ u = .int .i64 m ∧ 0 ≤ m ∧ m ≤ 12582912 ∧ Hid (m = k + 3 * (i : Int) + ((ls.take i).sum : Nat)) ∧ OwnP incidentN wr base 56 9 (.slice A n c) qs ∧ Hid (qs.map (fun p => p.2.length) = ls) ∧ Hid (incidentN.foot (.slice A n c) qs = F) ∧ OnlyF F w wr) (fun _ v _ => n - (intOf v).toNat)
  case atStart => exact ⟨0, k, ps, Nat.zero_le _, rfl, rfl, hk0, by omega, by rw [Hid]; simp, h, HLS, HFF, OnlyF.refl _ _⟩
  case round =>
    obtain ⟨i, m, qs, hi, rfl, rfl, hm0, hm1, hm, hq, hlq, hfq, hof⟩ := hrel
    by_cases hlt : i < n
    · obtain ⟨g, rfl⟩ := hq.out.form (by omega)
      have hql : i < qs.length := by rw [hq.len]; exact hlt
      obtain ⟨p, hpq⟩ : ∃ p, qs[i]? = some p := ⟨_, List.getElem?_eq_getElem hql⟩
      have e : nth (qs.map Prod.fst) i = p.1 := nth_get (by rw [List.getElem?_map, hpq]; rfl)
      have hin := hq.inn i p hpq
      have hpn : p.2.length = p.1.n := hin.sl.1
      have hsl : ls[i]? = some p.2.length := by rw [← hlq.out, List.getElem?_map, hpq]; rfl
      have hstep : (ls.take (i + 1)).sum = (ls.take i).sum + p.1.n := by rw [List.take_add_one, hsl, List.sum_append, hpn]; simp
      have hle := sum_take_le ls (i + 1)
      have hbnd : (i : Int) + (ls.take (i + 1)).sum ≤ 1048576 := by have := HSUM.out; have := HPS.out; omega
      have hm2 : m + 3 + p.1.n ≤ 12582912 := by have := hm.out; omega
      have hpnn : p.1.n ≤ 1048576 := by omega
      have Hstep := Lib.hid hstep
      have hsep : ∀ y, (.slice p.1.A p.1.n p.1.c : Value).ownBlock = some y → y ≠ g := fun y hy hyg => hq.sep (k := g) rfl hpq (by rw [← hyg]; exact hy)
      have Hsep := Lib.hid hsep
      have hgz : g < wr.heap.size := (hq.out.lt g rfl).2
      have d0 : wr.cell? ⟨g, i * 4, none⟩ = some (.int .i64 (p.1.Number)) := by have h0 := hq.out.cellAt hlt 0 _ rfl; rw [e] at h0; exact h0
      have f0 := hq.out.frozenAt (i * 4)
      have d1 : wr.cell? ⟨g, i * 4 + 1, none⟩ = some (.int .i64 (p.1.Node)) := by have h0 := hq.out.cellAt hlt 1 _ rfl; rw [e] at h0; exact h0
      have f1 := hq.out.frozenAt (i * 4 + 1)
      have d2 : wr.cell? ⟨g, i * 4 + 2, none⟩ = some (.bool (p.1.Closed)) := by have h0 := hq.out.cellAt hlt 2 _ rfl; rw [e] at h0; exact h0
      have f2 := hq.out.frozenAt (i * 4 + 2)
      have d3 : wr.cell? ⟨g, i * 4 + 3, none⟩ = some (.slice p.1.A p.1.n p.1.c) := by have h0 := hq.out.cellAt hlt 3 _ rfl; rw [e] at h0; exact h0
      have f3 := hq.out.frozenAt (i * 4 + 3)
      have HQ := Lib.hid hq
      have Hin := Lib.hid hin
      have Hpq := Lib.hid hpq
      have He := Lib.hid e
      have Hlq2 := Lib.hid hpn
      clear hq hin hpq e hsep hstep hle hbnd hsl hpn
      go_wp2_with fail
      have hf1 : OnlyF [g] wr (((wr.setCell ⟨g, i * 4, none⟩ (.int .i64 (m))).setCell ⟨g, i * 4 + 1, none⟩ (.int .i64 (m + 1))).setCell ⟨g, i * 4 + 2, none⟩ (.bool (((m + 1 + 1) % 3 == 0)))) := by repeat' (first | with_reducible exact OnlyF.refl _ _ | with_reducible refine OnlyF.set ?_ (List.mem_singleton.2 rfl) _)
      refine (markStringS_any p.1.A p.1.n p.1.c base (m + 1 + 1 + 1) p.2 _ hpnn (by omega) (by omega) (Own.only Hin.out hf1 (fun y hy hm => Hsep.out y (by simpa using hy) (List.mem_singleton.1 hm)))).mono ?_
      rintro e V ⟨rfl, ho2, hg2⟩
      have hf2 := OnlyF.of_gb hg2
      go_wp2
      go_roundw
      case rel =>
        have hlen : (qs.map Prod.fst).length = n := by rw [List.length_map, HQ.out.len]
        have h1 : Own (wr.setCell ⟨g, i * 4, none⟩ (.int .i64 (m))) base 56 (.slice (some ⟨g, 0, none⟩) n c) ((qs.map Prod.fst).set i (⟨m, p.1.Node, p.1.Closed, p.1.A, p.1.n, p.1.c⟩ : IncidentR)) := by
          have hh := (HQ.out.out).put1 hlt 0 (by decide) (y := (⟨m, p.1.Node, p.1.Closed, p.1.A, p.1.n, p.1.c⟩ : IncidentR)) (v := .int .i64 (m)) (by rw [He.out]; rfl)
          exact hh
        have h2 : Own ((wr.setCell ⟨g, i * 4, none⟩ (.int .i64 (m))).setCell ⟨g, i * 4 + 1, none⟩ (.int .i64 (m + 1))) base 56 (.slice (some ⟨g, 0, none⟩) n c) ((qs.map Prod.fst).set i (⟨m, m + 1, p.1.Closed, p.1.A, p.1.n, p.1.c⟩ : IncidentR)) := by
          have hh := (h1).put1 hlt 1 (by decide) (y := (⟨m, m + 1, p.1.Closed, p.1.A, p.1.n, p.1.c⟩ : IncidentR)) (v := .int .i64 (m + 1)) (by rw [nth_set_self (by rw [hlen]; exact hlt)]; rfl)
          rw [List.set_set] at hh; exact hh
        have h3 : Own (((wr.setCell ⟨g, i * 4, none⟩ (.int .i64 (m))).setCell ⟨g, i * 4 + 1, none⟩ (.int .i64 (m + 1))).setCell ⟨g, i * 4 + 2, none⟩ (.bool (((m + 1 + 1) % 3 == 0)))) base 56 (.slice (some ⟨g, 0, none⟩) n c) ((qs.map Prod.fst).set i (⟨m, m + 1, ((m + 1 + 1) % 3 == 0), p.1.A, p.1.n, p.1.c⟩ : IncidentR)) := by
          have hh := (h2).put1 hlt 2 (by decide) (y := (⟨m, m + 1, ((m + 1 + 1) % 3 == 0), p.1.A, p.1.n, p.1.c⟩ : IncidentR)) (v := .bool (((m + 1 + 1) % 3 == 0))) (by rw [nth_set_self (by rw [hlen]; exact hlt)]; rfl)
          rw [List.set_set] at hh; exact hh
        have hn2 : g ∈ F := by rw [← hfq.out]; exact Nest.mem_foot _ |>.2 (.inl rfl)
        have hn3 : ∀ y, (.slice p.1.A p.1.n p.1.c : Value).ownBlock = some y → y ∈ F := fun y hy => by rw [← hfq.out]; exact Nest.mem_foot _ |>.2 (.inr ⟨i, p, Hpq.out, hy⟩)
        have hF2 : OnlyF (g :: (.slice p.1.A p.1.n p.1.c : Value).ownBlock.toList) wr V := (hf1.mono (fun y hy => by rw [List.mem_singleton.1 hy]; exact List.mem_cons_self)).trans (hf2.mono (fun y hy => List.mem_cons_of_mem _ hy))
        have hown : Own V base 56 (.slice (some ⟨g, 0, none⟩) n c) ((qs.map Prod.fst).set i (⟨m, m + 1, ((m + 1 + 1) % 3 == 0), p.1.A, p.1.n, p.1.c⟩ : IncidentR)) := by
          refine Own.only h3 hf2 (fun y hy hm => ?_)
          have hy' : y = g := by simpa [Value.ownBlock] using hy
          exact Hsep.out y (by simpa using hm) hy'
        have hup := HQ.out.upd (p' := ((⟨m, m + 1, ((m + 1 + 1) % 3 == 0), p.1.A, p.1.n, p.1.c⟩ : IncidentR), marks mkT 1 (m + 1 + 1 + 1) p.1.n)) Hpq.out hown ho2 (fun y hy => .inl hy) hF2
        refine ⟨i + 1, m + 1 + 1 + 1 + p.1.n, qs.set i ((⟨m, m + 1, ((m + 1 + 1) % 3 == 0), p.1.A, p.1.n, p.1.c⟩ : IncidentR), marks mkT 1 (m + 1 + 1 + 1) p.1.n), by omega, by go_num, rfl, by omega, by omega, ?_, hup, ?_, ?_, hof.trans (hF2.mono (fun y hy => ?_))⟩
        · have h1 := hm.out
          have h2 := Hstep.out
          rw [Hid, h2]; omega
        · rw [Hid, List.map_set, marks_len, ← hlq.out]
          apply List.ext_getElem?
          intro j
          rw [List.getElem?_set]
          by_cases hj : i = j
          · subst hj; rw [if_pos rfl, if_pos (by rw [List.length_map]; exact hql), List.getElem?_map, Hpq.out, ← Hlq2.out]; rfl
          · rw [if_neg hj]
        · rw [Hid, ← hfq.out]; unfold Nest.foot; congr 1
          rw [List.flatMap_def, List.flatMap_def, List.map_set]
          congr 1
          apply List.ext_getElem?
          intro j
          rw [List.getElem?_set]
          by_cases hj : i = j
          · subst hj; rw [if_pos rfl, if_pos (by rw [List.length_map]; exact hql), List.getElem?_map, Hpq.out]; rfl
          · rw [if_neg hj]
        · rcases List.mem_cons.1 hy with rfl | hy
          · exact hn2
          · exact hn3 y (by simpa using hy)
      case measure => simp [intOf]; omega
    · obtain rfl : i = n := by omega
      go_wp2
      go_ret
      exact ⟨m, rfl, hm0, hm1, hof⟩

end Go.Proofs.Ytkgjbijkjlmomaa
