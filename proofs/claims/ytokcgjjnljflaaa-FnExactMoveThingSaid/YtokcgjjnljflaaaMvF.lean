/-
  Where a thing stands; the smaller of two numbers. No conditions.
-/
import Derived.Test.YtokcgjjnljflaaaMvP
import Derived.Test.YtokcgjjnljflaaaMem12
import Derived.Test.YtokcgjjnljflaaaMem8
namespace Go.Proofs.Ytokcgjjnljflaaa
open Go.RowKit

/-- where a name stands, or would stand -/
def FindAt (w : World) (xs : List Thing) (nm : ByteArray) (e : Ending) (w' : World) : Prop :=
  ∃ k : Nat, e = .returned (.tuple #[.int .i64 k, .bool (hitT xs nm k)]) ∧ leT xs nm k ∧ Below w.heap.size w w'
theorem find_mk {w w' : World} {xs : List Thing} {nm : ByteArray} {k : Nat} {b : Bool} (hb : b = hitT xs nm k) (h : leT xs nm k) (h2 : Below w.heap.size w w') : FindAt w xs nm (.returned (.tuple #[.int .i64 k, .bool b])) w' := ⟨k, by rw [hb], h, h2⟩
set_option maxHeartbeats 1000000 in
theorem eqFind_at (xs : List Thing) (A : Option Addr) (n c : Nat) (nm : ByteArray) (w : World) (hn : (n : Int) ≤ 9223372036854775807) (hs : Sl w A n xs) :
    Calls Try.prog 50 #[.slice A n c, .string nm] w (FindAt w xs nm) := by
  have HL := Lib.hid hs.1
  go_enter Try.func50, Try.ntmps50
  go_wp2
  go_loopw [6] (fun i wr => ∃ k : Nat, k ≤ n ∧ i = .int .i64 k ∧ Below w.heap.size w wr ∧ Hid (∀ j, j < k → Op.bytesLess (nth xs j).Name.toList nm.toList = true)) (fun i _ => n - (intOf i).toNat)
  case atStart => exact ⟨0, Nat.zero_le _, rfl, bl_refl _, fun j hj => absurd hj (by omega)⟩
  case round =>
    obtain ⟨k, hk, rfl, hb, hg⟩ := hrel
    by_cases hlt : k < n
    · obtain ⟨b, o, rfl, hbz, c0, c1, c2⟩ := (hs.below hb).thing hlt
      clear hs c1 c2
      cases hl : Op.bytesLess (nth xs k).Name.toList nm.toList
      · have HLE : Hid (leT xs nm k) := ⟨by rw [HL.out]; exact hk, hg.out, fun _ => hl⟩
        cases he : (nth xs k).Name.toList == nm.toList
        · have hh : Hid (false = hitT xs nm k) := by unfold hitT; rw [he]; simp [Hid]
          go_wp2_with fail
          go_quiet (fail)
          go_wp2
          go_ret2
          exact find_mk hh.out HLE.out (bl_drewN hb _)
        · have hh : Hid (true = hitT xs nm k) := by unfold hitT; rw [he, HL.out, decide_eq_true hlt]; rfl
          go_wp2_with fail
          go_quiet (fail)
          go_wp2
          go_ret2
          exact find_mk hh.out HLE.out (bl_drewN hb _)
      · have hl' := Lib.hid hl
        go_wp2
        go_roundw
        case rel => exact ⟨k + 1, by omega, by go_num, hb, fun j hj => by
          by_cases e : j = k
          · subst e; exact hl'.out
          · exact hg.out j (by omega)⟩
        case measure => simp [intOf]; omega
    · obtain rfl : k = n := by omega
      clear hs
      have HLE : Hid (leT xs nm k) := ⟨by rw [HL.out]; exact hk, hg.out, fun h => absurd h (by rw [HL.out]; omega)⟩
      have hh : Hid (false = hitT xs nm k) := by unfold hitT; rw [HL.out]; simp [Hid]
      go_wp2_with fail
      go_quiet (fail)
      go_wp2
      go_ret2
      exact find_mk hh.out HLE.out (bl_drewN hb _)
theorem find_index {xs : List Thing} {nm : ByteArray} {k : Nat} (h : leT xs nm k) (hh : hitT xs nm k = true) : indexF (nmT nm) xs = k := by
  unfold hitT at hh
  simp only [Bool.and_eq_true, decide_eq_true_eq] at hh
  exact low_hit h.2.1 hh.1 hh.2
theorem find_none {xs : List Thing} {nm : ByteArray} {k : Nat} (hr : Rises Thing.Name xs) (h : leT xs nm k) (hh : hitT xs nm k = false) : indexF (nmT nm) xs = -1 := by
  refine low_miss hr h.2.1 (fun hk => ⟨h.2.2 hk, ?_⟩)
  unfold hitT at hh
  rw [decide_eq_true hk, Bool.true_and] at hh
  exact hh
theorem l1Least_any (a b : Int) (w : World) : Calls Try.prog 45 #[.int .i64 a, .int .i64 b] w fun e w' => e = .returned (.int .i64 (lessI a b)) ∧ w' = w := by
  unfold lessI
  by_cases h : a < b
  · rw [if_pos h]
    have hd : decide (a < b) = true := decide_eq_true h
    go_enter Try.func45, Try.ntmps45
    go_wp2
    go_ret
    exact ⟨rfl, rfl⟩
  · rw [if_neg h]
    have hd : decide (a < b) = false := decide_eq_false h
    go_enter Try.func45, Try.ntmps45
    go_wp2
    go_ret
    exact ⟨rfl, rfl⟩
/-- As step_appN; all that has turned lies from the first world on. -/
theorem step_appB {α : Type} [Flat α] {P : Program} {ops : Array Oper} {o : Oper} {a : Act} {w : World} {K : Act → World → Prop} {Q : Exit → Act → World → Prop} {E : Prop} (hgd : o.guard = none) (s x : Operand) (t e : TypeId)
    (ho : o.op = .call { callee := .builtin .append, args := #[s, x], argTypes := #[t, t] }) (he : Elem P t e (Flat.sz α)) {w0 : World} {A B : Option Addr} {n c m d : Nat} {xs ys : List α} (hs : a.eval s = .slice A n c) (hx : a.eval x = .slice B m d)
    (hown : Own w w0.heap.size e (.slice A n c) xs) (hb : Below w0.heap.size w0 w) (hy : Sl w B m ys) (hlim : n + m ≤ 274877906944)
    (h : ∀ A' c' w', Own w' w0.heap.size e (.slice A' (n + m) c') (xs ++ ys) → Below w0.heap.size w0 w' → w.grownBy w' (Value.ownBlock (.slice A n c)) → K (a.put o.dst (.slice A' (n + m) c')) w') :
    if Region.wanted o (yielded ops a.tmps) = true then Oper.wp P o a w K Q else E :=
  step_appN hgd s x t e ho he hs hx hown hb.size hy hlim fun A' c' w' h1 h2 => h A' c' w' h1 (bl_grown hb h2 (fun k hk => (hown.lt k hk).1)) h2
theorem sl_thing1 {w : World} {b o : Nat} {s : Thing} (h0 : w.cell? ⟨b, o, none⟩ = some (.string s.Name)) (h1 : w.cell? ⟨b, o + 1, none⟩ = some (.int .i64 s.Count)) (h2 : w.cell? ⟨b, o + 2, none⟩ = some (.int .i64 s.Day)) : Sl w (some ⟨b, o, none⟩) 1 [s] :=
  ⟨rfl, fun k x hx => by
    have hk : k = 0 := by have := (List.getElem?_eq_some_iff.1 hx).1; simpa using this
    subst hk
    have hx' : s = x := by simpa using hx
    subst hx'
    refine ⟨b, o, [.string s.Name, .int .i64 s.Count, .int .i64 s.Day], rfl, rfl, fun j v hv => ?_⟩
    have hj : j < 3 := by have := (List.getElem?_eq_some_iff.1 hv).1; simpa using this
    match j, hj, hv with
    | 0, _, hv => have hv' : Value.string s.Name = v := by simpa using hv
                  subst hv'; simpa using h0
    | 1, _, hv => have hv' : Value.int .i64 s.Count = v := by simpa using hv
                  subst hv'; simpa using h1
    | 2, _, hv => have hv' : Value.int .i64 s.Day = v := by simpa using hv
                  subst hv'; simpa using h2⟩
theorem Own.capK {α : Type} [Flat α] {w : World} {base : Nat} {E : TypeId} {A : Option Addr} {n c : Nat} {xs : List α} (h : Own w base E (.slice A n c) xs) : n ≤ c ∧ c ≤ maxLen ∧ ((A = none ∧ c = 0) ∨ ∃ g, A = some ⟨g, 0, none⟩) := by
  refine ⟨h.cap.1, h.cap.2, ?_⟩
  rcases h.2 with ⟨hv, _⟩ | ⟨g, cap, cur, hv, _⟩
  · injection hv with e1 e2 e3
    exact .inl ⟨e1, e3⟩
  · injection hv with e1 e2 e3
    exact .inr ⟨g, e1⟩

end Go.Proofs.Ytokcgjjnljflaaa
