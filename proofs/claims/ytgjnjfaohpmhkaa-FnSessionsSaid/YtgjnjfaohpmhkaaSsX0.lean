/-
  Where the search of a merge ends. No conditions.
-/
import Derived.Test.YtgjnjfaohpmhkaaSsV
namespace Go.Proofs.Ytgjnjfaohpmhkaa
open Go.RowKit

/-- the merge at runs of together at most N -/
def SymOk (base g n c : Nat) (fg : FuncId) (caps : Array Value) (key : Int → Int) (D : Int → Prop) (w0 : World) (N : Nat) : Prop :=
  ∀ (P A B Q L0 : List Int) (a m b : Nat) (w : World), A.length + B.length ≤ N → P.length = a → a + A.length = m → m + B.length = b → 0 < A.length → 0 < B.length → L0 = P ++ (A ++ (B ++ Q)) → (∀ x, x ∈ A ++ B → D x) → SrtK key A → SrtK key B → Cross key A B → OnlyF [g] w0 w → Own w base 3 (.slice (some ⟨g, 0, none⟩) n c) L0 →
    Calls Try.prog 90 #[.slice (some ⟨g, 0, none⟩) n c, .int .i64 (a : Int), .int .i64 (m : Int), .int .i64 (b : Int), .func (.func fg) #[] caps] w (RetMerge w base g n c key P (A ++ B) Q)
/-- where the search of a merge ends -/
theorem sym_cut0 {a m b mid nn lo hi s e1 : Nat} (hmb : m < b) (ham : a < m) (hmid : (a + b) / 2 = mid) (hnn : mid + m = nn) (hLH : (mid < m ∧ lo = nn - b ∧ hi = mid) ∨ (m ≤ mid ∧ lo = a ∧ hi = m)) (h1 : lo ≤ s) (h2 : s ≤ hi) (he : nn - s = e1) :
    a ≤ s ∧ s ≤ m ∧ s ≤ mid ∧ m ≤ e1 ∧ e1 ≤ b ∧ nn = e1 + s ∧ (s = lo → s = a ∨ e1 = b) ∧ (s = hi → s = m ∨ e1 = m) := by
  rcases hLH with ⟨q1, q2, q3⟩ | ⟨q1, q2, q3⟩
  · have r1 : a + b < nn + 1 := by omega
    have r2 : nn = m + hi := by omega
    clear hmid hnn
    subst q3 q2
    refine ⟨?_, ?_, ?_, ?_, ?_, ?_, ?_, ?_⟩ <;> omega
  · have r1 : nn ≤ a + b := by omega
    have r2 : nn = mid + m := by omega
    have r3 : a ≤ mid := by omega
    clear hmid hnn
    subst q3 q2
    refine ⟨?_, ?_, ?_, ?_, ?_, ?_, ?_, ?_⟩ <;> omega
set_option maxHeartbeats 1000000 in
theorem sym_cut {key : Int → Int} {A B P Q L0 : List Int} {a m b mid nn lo hi s e1 : Nat} (hmb : m < b) (ham : a < m) (ha : P.length = a) (hm : a + A.length = m) (hb : m + B.length = b) (hL : L0 = P ++ (A ++ (B ++ Q))) (hs1 : SrtK key A) (hs2 : SrtK key B)
    (hmid : (a + b) / 2 = mid) (hnn : mid + m = nn) (hLH : (mid < m ∧ lo = nn - b ∧ hi = mid) ∨ (m ≤ mid ∧ lo = a ∧ hi = m)) (h1 : lo ≤ s) (h2 : s ≤ hi) (he : nn - s = e1)
    (q1 : s = lo ∨ key (nth L0 (s - 1)) ≤ key (nth L0 (nn - s))) (q2 : s = hi ∨ key (nth L0 (nn - 1 - s)) < key (nth L0 s)) :
    ∃ A1 A2 B1 B2, A = A1 ++ A2 ∧ B = B1 ++ B2 ∧ a + A1.length = s ∧ s + A2.length = m ∧ m + B1.length = e1 ∧ e1 + B2.length = b ∧ s + B1.length = mid ∧ (∀ x, x ∈ A1 → ∀ y, y ∈ B2 → key x ≤ key y) ∧ (∀ x, x ∈ A2 → ∀ y, y ∈ B1 → key y < key x) := by
  have gA : ∀ i, a ≤ i → i < m → nth L0 i = nth A (i - a) := fun i i1 i2 => by rw [hL, nth_right (by omega), nth_left (by omega), ha]
  have gB : ∀ i, m ≤ i → i < b → nth L0 i = nth B (i - m) := fun i i1 i2 => by rw [hL, nth_right (by omega), nth_right (by omega), nth_left (by omega), show i - P.length - A.length = i - m by omega]
  obtain ⟨z1, z2, z3, z4, z5, z6, z7, z8⟩ := sym_cut0 hmb ham hmid hnn hLH h1 h2 he
  have z9 : mid + m = e1 + s := by omega
  clear hLH hmid hnn he
  have k1 : s - a = 0 ∨ e1 - m = B.length ∨ key (nth A (s - a - 1)) ≤ key (nth B (e1 - m)) := by
    by_cases y1 : s = a
    · left; omega
    · by_cases y2 : e1 = b
      · right; left; omega
      · right; right
        rcases q1 with q1 | q1
        · rcases z7 q1 with h | h <;> contradiction
        · clear q2 z7 z8
          rw [gA (s - 1) (by omega) (by omega), gB (nn - s) (by omega) (by omega), show s - 1 - a = s - a - 1 by omega, show nn - s - m = e1 - m by omega] at q1; exact q1
  have k2 : s - a = A.length ∨ e1 - m = 0 ∨ key (nth B (e1 - m - 1)) < key (nth A (s - a)) := by
    by_cases y1 : s = m
    · left; omega
    · by_cases y2 : e1 = m
      · right; left; omega
      · right; right
        rcases q2 with q2 | q2
        · rcases z8 q2 with h | h <;> contradiction
        · clear q1 z7 z8 k1
          rw [gA s (by omega) (by omega), gB (nn - 1 - s) (by omega) (by omega), show nn - 1 - s - m = e1 - m - 1 by omega] at q2; exact q2
  clear q1 q2 z7 z8 gA gB
  obtain ⟨c1, c2⟩ := cut_facts (s := s - a) (e := e1 - m) hs1 hs2 (by omega) (by omega) k1 k2
  clear k1 k2
  refine ⟨A.take (s - a), A.drop (s - a), B.take (e1 - m), B.drop (e1 - m), (List.take_append_drop _ _).symm, (List.take_append_drop _ _).symm, ?_, ?_, ?_, ?_, ?_, c1, c2⟩ <;> simp only [List.length_take, List.length_drop] <;> omega
end Go.Proofs.Ytgjnjfaohpmhkaa
