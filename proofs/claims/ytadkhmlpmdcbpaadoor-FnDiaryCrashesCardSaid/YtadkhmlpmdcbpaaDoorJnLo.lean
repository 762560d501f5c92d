/-
  LostStates: what it answers. No conditions.
-/
import Derived.Test.YtadkhmlpmdcbpaaDoorJnCr
import Derived.Test.YtadkhmlpmdcbpaaDoorMem6
namespace Go.Proofs.YtadkhmlpmdcbpaaDoor
open Go.RowKit

theorem ez_state : ElemZ Tryd.prog 29 40 (default : State) := elemZ_mk Tryd.underlying29 (by kernel_rfl)
theorem el_state : Elem Tryd.prog 29 40 (Flat.sz State) := ez_state.elem
set_option maxHeartbeats 1000000 in
theorem clone_state (xs : List State) (A : Option Addr) (n c : Nat) (w : World) (hn : n ≤ 1048576) (hs : Sl w A n xs) :
    Calls Tryd.prog 26 #[.slice A n c] w (RetOwn w 40 xs) := by
  have HL := Lib.hid hs.1
  cases A with
  | none =>
    obtain ⟨rfl, rfl⟩ := hs.none_len
    have he := fun W => Lib.run_eql_slice_nil (P := Tryd.prog) W 29 40 none 0 c 0 0 Tryd.underlying29
    go_enter Tryd.func26, Tryd.ntmps26
    go_wp2
    go_ret
    exact retOwn_mk rfl (Own.nil _ _ _) (bl_refl _)
  | some ad =>
    have he := fun W => Lib.run_eql_slice_nil (P := Tryd.prog) W 29 40 (some ad) n c 0 0 Tryd.underlying29
    go_enter Tryd.func26, Tryd.ntmps26
    go_wp2_with ((at_builtin; refine wpList_appN rfl (.tmp 5) (.tmp 6) _ _ rfl el_state rfl (Own.built w _ (Nat.le_refl _)) (bl_alloc (bl_refl _) _) rfl (hs.below (bl_alloc (bl_refl _) _)) (by omega) ?_; intro A2 c2 w2 ho2 hb2 hg2))
    go_ret
    exact retOwn_mk HL.out (by simpa using ho2) hb2

noncomputable def keptN (d : Diary) (k : Int) : Nat := (rd 40 0 (d.Safe ++ d.Open.extract 0 k.toNat).data.toList).1.length
theorem kept_le {d : Diary} {k : Int} : keptN d k ≤ (statesB d.Safe d.Open).length := by
  have h := rd_take 40 0 (d.Safe ++ d.Open).data.toList (d.Safe.size + k.toNat)
  have e : (d.Safe ++ d.Open.extract 0 k.toNat).data.toList = (d.Safe ++ d.Open).data.toList.take (d.Safe.size + k.toNat) := by
    rw [ba_app, ba_app, ba_ex, ← ba_len d.Safe, List.take_append]
    simp
    rw [List.take_of_length_le (by rw [ba_len]; omega)]
  rw [← e] at h
  exact h.length_le
noncomputable def loF (d : Diary) (k : Int) : List State × Bool := if openB d.Safe d.Open && inB k 0 d.Open.size then ((statesB d.Safe d.Open).drop (keptN d k), true) else ([], false)
theorem loF_yes {d : Diary} {k : Int} (h : openB d.Safe d.Open = true) (h2 : inB k 0 d.Open.size = true) : loF d k = ((statesB d.Safe d.Open).drop (keptN d k), true) := by unfold loF; rw [if_pos (by rw [h, h2]; rfl)]
theorem loF_no {d : Diary} {k : Int} (h : openB d.Safe d.Open = false) : loF d k = ([], false) := by unfold loF; rw [if_neg (by rw [h]; exact Bool.false_ne_true)]
theorem loF_out {d : Diary} {k : Int} (h : inB k 0 d.Open.size = false) : loF d k = ([], false) := by unfold loF; rw [if_neg (by rw [h, Bool.and_false]; exact Bool.false_ne_true)]
theorem loF_len (d : Diary) (k : Int) : (loF d k).1.length ≤ 40 := by
  unfold loF; split
  · have := states_len d.Safe d.Open; simp; omega
  · simp
theorem Own.kind {α : Type} [Flat α] {w : World} {base : Nat} {E : TypeId} {A : Option Addr} {n c : Nat} {xs : List α} (h : Own w base E (.slice A n c) xs) :
    (A = none ∧ n = 0 ∧ c = 0 ∧ xs = []) ∨ ∃ g, A = some ⟨g, 0, none⟩ ∧ n ≤ c ∧ c ≤ 9223372036854775807 := by
  have hl := h.sl.1
  rcases h.2 with ⟨hv, h0⟩ | ⟨g, cap, cur, hv, _, _, h1, h2, _⟩
  · injection hv with e1 e2 e3
    exact .inl ⟨e1, e2, e3, List.eq_nil_of_length_eq_zero (by omega)⟩
  · injection hv with e1 e2 e3
    unfold maxLen at h2
    exact .inr ⟨g, e1, by omega, by omega⟩
theorem Sl.drop {α : Type} [Deep α] {w : World} {b o n m : Nat} {xs : List α} (h : Sl w (some ⟨b, o, none⟩) n xs) : Sl w (some ⟨b, o + m * Deep.sz α, none⟩) (n - m) (xs.drop m) :=
  ⟨by rw [List.length_drop, h.1], fun k x hx => by
    rw [List.getElem?_drop] at hx
    obtain ⟨b', o', cs, hA, hr, hc⟩ := h.2 _ _ hx
    injection hA with hA; injection hA with h1 h2; subst h1; subst h2
    refine ⟨b, _, cs, rfl, hr, fun j v hv => ?_⟩
    have := hc j v hv
    rw [Nat.add_mul] at this
    rw [show o + m * Deep.sz α + k * Deep.sz α + j = o + (m * Deep.sz α + k * Deep.sz α) + j by omega]
    exact this⟩

end Go.Proofs.YtadkhmlpmdcbpaaDoor
