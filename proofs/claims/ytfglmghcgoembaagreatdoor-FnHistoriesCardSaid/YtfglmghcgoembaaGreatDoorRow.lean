/-
  From a law's walk to its row: how plain arguments open, and how the row closes. No conditions; plain theorems over any program.
-/
import Derived.Test.YtfglmghcgoembaaGreatDoorHx0
import Derived.ProofKit
import Derived.OpenShut
import Derived.Deep.Slices
import Derived.Deep.Fields
import Derived.ChangeSame
import Derived.Lib.SmallJoins
namespace Go.Proofs.YtfglmghcgoembaaGreatDoor
open Go.RowKit Go.WideShapes Go.ChangeShapes Go.ChangeAt Go.Deep

/-- A list in memory is plain data, too: the slice value of one cell. -/
instance {α : Type} [Deep α] : Deep (List α) where
  sz := 1
  pos := by omega
  rep := fun w cs xs => ∃ A c, cs = [.slice A xs.length c] ∧ Sl w A xs.length xs ∧ xs.length ≤ maxLen
  len := fun {_ _ _} h => by obtain ⟨A, c, rfl, _⟩ := h; rfl
  keep := fun {_ _ _ _} k h => by obtain ⟨A, c, e, hs, hl⟩ := h; exact ⟨A, c, e, hs.keep k, hl⟩

/-- What every datum that can be read keeps to. -/
class Ok (α : Type) where
  ok : α → Prop
instance : Ok Int := ⟨fun x => -9223372036854775808 ≤ x ∧ x ≤ 9223372036854775807⟩
instance : Ok Bool := ⟨fun _ => True⟩
instance : Ok ByteArray := ⟨fun s => s.size ≤ maxLen⟩
instance {α : Type} [Ok α] : Ok (List α) := ⟨fun xs => ∀ x, x ∈ xs → Ok.ok x⟩
/-- Whatever reads at type t reads as an α. -/
def Opens (P : Program) (t : TypeId) (α : Type) [Deep α] [Ok α] : Prop :=
  ∀ {H : Type} {enc : TypeId × Value → H} {w : World} {base : Nat} {sp : Nat → Bool} {held : Bool} {fuel : Nat} {cs : List Value} {x : DataW H × List MemPlace},
    DataW.trod enc P w base sp held fuel t cs = some x → ∃ y : α, Deep.rep w cs y ∧ Ok.ok y

theorem opens_int {P : Program} {t : TypeId} (ht : P.underlying t = some (.int .i64)) : Opens P t Int := fun h => by
  obtain ⟨n, rfl, _, hw⟩ := DataW.trod_int ht h
  exact ⟨n, rfl, by simpa [Ok.ok, Lit.wf, IntKind.min, IntKind.max, IntKind.signed, IntKind.bits] using hw⟩
theorem opens_string {P : Program} {t : TypeId} (ht : P.underlying t = some .string) : Opens P t ByteArray := fun h => by
  obtain ⟨n, rfl, _, hw⟩ := DataW.trod_string ht h
  exact ⟨n, rfl, hw⟩

theorem opens_bool {P : Program} {t : TypeId} (ht : P.underlying t = some .bool) : Opens P t Bool := fun h => by
  obtain ⟨n, rfl, _⟩ := DataW.trod_bool ht h
  exact ⟨n, rfl, trivial⟩
/-- A field of one cell, at its place in the struct's cells. -/
theorem opens_field {P : Program} {t : TypeId} {α : Type} [Deep α] [Ok α] (ho : Opens P t α) (hc : P.cellsOf t = 1) {H : Type} {enc : TypeId × Value → H} {w : World} {base : Nat} {sp : Nat → Bool} {held : Bool} {fuel off : Nat} {cs : List Value}
    {xs : List (DataW H × List MemPlace)} {i : Nat} (h : DataW.trod enc P w base sp held fuel t ((cs.drop off).take (P.cellsOf t)) = xs[i]?) (hi : i < xs.length) (hl : off < cs.length) :
    ∃ (c : Value) (y : α), cs[off]? = some c ∧ Deep.rep w [c] y ∧ Ok.ok y := by
  rw [List.getElem?_eq_getElem hi, hc] at h
  obtain ⟨y, hy, hk⟩ := ho h
  refine ⟨cs[off], y, List.getElem?_eq_getElem hl, ?_, hk⟩
  have e : (cs.drop off).take 1 = [cs[off]] := by rw [List.drop_eq_getElem_cons hl]; rfl
  rwa [e] at hy
theorem list2 {cs : List Value} {a b : Value} (h : cs.length = 2) (h0 : cs[0]? = some a) (h1 : cs[1]? = some b) : cs = [a, b] := by
  match cs, h with
  | [x, y], _ => simp at h0 h1; subst h0; subst h1; rfl
theorem list3 {cs : List Value} {a b c : Value} (h : cs.length = 3) (h0 : cs[0]? = some a) (h1 : cs[1]? = some b) (h2 : cs[2]? = some c) : cs = [a, b, c] := by
  match cs, h with
  | [x, y, z], _ => simp at h0 h1 h2; subst h0; subst h1; subst h2; rfl
theorem list4 {cs : List Value} {a b c d : Value} (h : cs.length = 4) (h0 : cs[0]? = some a) (h1 : cs[1]? = some b) (h2 : cs[2]? = some c) (h3 : cs[3]? = some d) : cs = [a, b, c, d] := by
  match cs, h with
  | [x, y, z, t], _ => simp at h0 h1 h2 h3; subst h0; subst h1; subst h2; subst h3; rfl
theorem list5 {cs : List Value} {a b c d e : Value} (h : cs.length = 5) (h0 : cs[0]? = some a) (h1 : cs[1]? = some b) (h2 : cs[2]? = some c) (h3 : cs[3]? = some d) (h4 : cs[4]? = some e) : cs = [a, b, c, d, e] := by
  match cs, h with
  | [x, y, z, t, u], _ => simp at h0 h1 h2 h3 h4; subst h0; subst h1; subst h2; subst h3; subst h4; rfl
theorem sl_choose {α : Type} [Deep α] [Ok α] {w : World} {b o n : Nat} (h : ∀ i, i < n → ∃ (x : α) (cs : List Value), (Deep.rep w cs x ∧ Ok.ok x) ∧ ∀ j v, cs[j]? = some v → w.cell? ⟨b, o + i * Deep.sz α + j, none⟩ = some v) :
    ∃ xs : List α, Sl w (some ⟨b, o, none⟩) n xs ∧ Ok.ok xs := by
  induction n with
  | zero => exact ⟨[], Sl.nil _ _, fun _ h => by cases h⟩
  | succ n ih =>
    obtain ⟨xs, ⟨hl, hx⟩, hok⟩ := ih (fun i hi => h i (by omega))
    obtain ⟨x, cs, ⟨hr, hkx⟩, hc⟩ := h n (by omega)
    refine ⟨xs ++ [x], ⟨by simp [hl], fun k y hy => ?_⟩, fun y hy => by
      rcases List.mem_append.1 hy with hy | hy
      · exact hok y hy
      · simp at hy; subst hy; exact hkx⟩
    rcases Nat.lt_or_ge k n with hk | hk
    · rw [List.getElem?_append_left (by omega)] at hy
      exact hx k y hy
    · have hk2 : k < (xs ++ [x]).length := (List.getElem?_eq_some_iff.1 hy).1
      obtain rfl : k = n := by simp [hl] at hk2; omega
      rw [List.getElem?_append_right (by omega)] at hy
      simp [hl] at hy
      subst hy
      exact ⟨b, o, cs, rfl, hr, hc⟩

theorem opens_slice {P : Program} {t e : TypeId} {α : Type} [Deep α] [Ok α] (ht : P.underlying t = some (.slice e)) (hsz : P.cellsOf e = Deep.sz α) (he : Opens P e α) : Opens P t (List α) := fun {_ _ w _ _ _ _ _ _} h => by
  rcases open_slice ht h with ⟨rfl, _⟩ | ⟨a, len, cap, m, n, D, Pl, rfl, hb, hl, hm, hmm, _, hx⟩
  · exact ⟨[], ⟨none, 0, rfl, Sl.nil _ _, by simp [maxLen]⟩, fun _ h => by cases h⟩
  · have hlm : len ≤ m := by rw [hmm]; split <;> omega
    by_cases h0 : len = 0
    · subst h0
      exact ⟨[], ⟨some a, cap, rfl, Sl.nil _ _, by simp [maxLen]⟩, fun _ h => by cases h⟩
    · have hp := Deep.pos (α := α)
      have hspot : a = ⟨a.block, a.off, none⟩ := by
        obtain ⟨cs', hc, ht'⟩ := hx 0 (by omega)
        obtain ⟨_, hlen, hat⟩ := World.cells?_some hc
        have h1 := hat 0 (by omega)
        rw [List.getElem?_eq_getElem (by omega)] at h1
        have e : (a.add (0 * P.cellsOf e)).add 0 = a := by simp [Addr.add]
        rw [e] at h1
        rcases a with ⟨b, o, s⟩
        cases s with
        | none => rfl
        | some s => simp [World.cell?] at h1; split at h1 <;> cases h1
      obtain ⟨xs, hs, hok⟩ := sl_choose (α := α) (w := w) (b := a.block) (o := a.off) (n := len) (fun i hi => by
        obtain ⟨cs', hc, ht'⟩ := hx i (by omega)
        obtain ⟨_, hlen, hat⟩ := World.cells?_some hc
        obtain ⟨y, hy⟩ := he ht'
        refine ⟨y, cs', hy, fun j v hv => ?_⟩
        have hj : j < P.cellsOf e := by rw [← hlen]; exact (List.getElem?_eq_some_iff.1 hv).1
        have h1 := hat j hj
        rw [hspot, addr_add, addr_add, hv, hsz] at h1
        exact h1)
      have hl2 := hs.1
      refine ⟨xs, ⟨some a, cap, by rw [hl2], ?_, by omega⟩, hok⟩
      rw [hl2, hspot]
      exact hs

section
variable {H : Type} {enc : TypeId × Value → H} {P : Program}
theorem trodAll_stays (hl : laidOutB P = true) {W W' : World} {sp : Nat → Bool} (hsame : ∀ p : MemPlace, p.block < W.heap.size → W.sameAt W' p) : ∀ (ts : List TypeId) (vs : List Value) (ds : List (DataW H)) (ps : List MemPlace),
    (∀ t ∈ ts, P.readableRec t = true ∧ t < P.types.size) → DataW.TrodAll enc P W 0 (fun _ => true) true ts vs ds ps → (∀ p ∈ ps, p.block < W.heap.size) → (∀ p ∈ ps, sp p.block = true) → DataW.TrodAll enc P W' 0 sp true ts vs ds ps
  | [], _, _, _, _, h, _, _ => by obtain ⟨rfl, rfl, rfl⟩ := trodAll_nil h; exact trodAll_mk0
  | t :: ts, vs, ds, ps, hr, h, hlt, hsp => by
    obtain ⟨v, vs', d, ds', p, q, rfl, rfl, rfl, h0, h1⟩ := trodAll_cons h
    have hr0 := hr t (List.mem_cons_self)
    exact trodAll_cons_mk (WideElems.Trod_stays hl hr0.1 hr0.2 h0 (fun x hx => hsame x (hlt x (List.mem_append_left _ hx))) (fun x hx => hsp x (List.mem_append_left _ hx)))
      (trodAll_stays hl hsame ts vs' ds' q (fun t' ht' => hr t' (List.mem_cons_of_mem _ ht')) h1 (fun x hx => hlt x (List.mem_append_right _ hx)) (fun x hx => hsp x (List.mem_append_right _ hx)))

/-- The row's last step: the call answered true, and nothing that was there has turned. -/
theorem post_law {f : Func} {s : ChangeSpec} {tb : TypeId} {W W' : World} {args : Array Value} {ds gs : List (DataW H)} {before : List MemPlace}
    (hl : laidOutB P = true) (hb : P.underlying tb = some .bool) (hrt : f.resultTypes = #[tb]) (hv0 : s.vars = []) (hr : f.params.toList.all (fun t => P.readableRec t && decide (t < P.types.size)) = true)
    (hs : (s.fn H (ds ++ gs)).results = [.lit (.bool true)] ∧ (s.fn H (ds ++ gs)).args = ds ∧ (s.fn H (ds ++ gs)).vars = [])
    (hW : DataW.Whole enc P f.params.toList s.vars false W args.toList ds gs before) (hbe : Below W.heap.size W W') :
    s.post enc P f false true false false W args (.bool true) W' := by
  have hlt : ∀ p ∈ before, p.block < W.heap.size := fun p hp => hW.lt p hp
  obtain ⟨p, q, hA, hV, rfl, hz, hn⟩ := id hW
  rw [hv0] at hV
  obtain ⟨rfl, rfl⟩ := trodVars_none hV
  rw [List.append_nil] at hs
  have hr' : ∀ t ∈ f.params.toList, P.readableRec t = true ∧ t < P.types.size := fun t ht => by
    have := List.all_eq_true.1 hr t ht
    simpa using this
  have hargs : ∀ sp : Nat → Bool, (∀ x ∈ p, sp x.block = true) → DataW.TrodAll enc P W' 0 sp true f.params.toList args.toList ds p := fun sp hsp =>
    trodAll_stays hl (fun x hx => hbe.same hx) _ _ _ _ hr' hA (fun x hx => hlt x (by simpa using hx)) hsp
  have hres : ∀ (b : Nat) (sp : Nat → Bool) (hd : Bool), DataW.TrodAll enc P W' b sp hd f.resultTypes.toList (Value.resultList f.resultTypes.size (.bool true)) [.lit (.bool true)] [] := fun b sp hd => by
    rw [hrt]
    exact trodAll_mk1 (shut_bool hb true)
  have hold : ∀ x ∈ p, (fun b => decide (b < W.heap.size)) x.block = true := fun x hx => by simpa using hlt x (by simpa using hx)
  refine ⟨ds, [], p ++ [], [], p, [], hW, ?_, ?_, ?_, World.keptBut_mono (fun _ hx => hx.elim) (hbe.frame (fun _ => False)), fun h => by cases h⟩
  · rw [List.append_nil, hs.1]; exact hres _ _ _
  · rw [List.append_nil, hs.2.1]; exact hargs _ hold
  · rw [List.append_nil, hs.2.2, hv0]; exact rfl
end
end Go.Proofs.YtfglmghcgoembaaGreatDoor
