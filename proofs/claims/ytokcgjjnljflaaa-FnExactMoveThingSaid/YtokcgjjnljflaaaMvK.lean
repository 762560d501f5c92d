/-
  MoveThing: what it answers. No conditions.
-/
import Derived.Test.YtokcgjjnljflaaaMvB
namespace Go.Proofs.Ytokcgjjnljflaaa
open Go.RowKit

def okMv (x y : Load) (nm : ByteArray) (q : Int) : Bool := loadB x.Appliance x.Things && loadB y.Appliance y.Things && wordB 8 nm && inB q 1 99 && !(x.Appliance.toList == y.Appliance.toList)
noncomputable def moveF (x y : Load) (nm : ByteArray) (q : Int) : Load × Load × Bool := if okMv x y nm q then mvF x y nm q else no3
theorem moveF_no {x y : Load} {nm : ByteArray} {q : Int} (h : okMv x y nm q = false) : moveF x y nm q = no3 := by unfold moveF; rw [h]; rfl
theorem moveF_yes {x y : Load} {nm : ByteArray} {q : Int} (h : okMv x y nm q = true) : moveF x y nm q = mvF x y nm q := by unfold moveF; rw [h]; rfl
theorem okMv1 {x y : Load} {nm : ByteArray} {q : Int} (h : loadB x.Appliance x.Things = false) : okMv x y nm q = false := by unfold okMv; rw [h]; rfl
theorem okMv2 {x y : Load} {nm : ByteArray} {q : Int} (h : loadB y.Appliance y.Things = false) : okMv x y nm q = false := by unfold okMv; rw [h]; simp
theorem okMv3 {x y : Load} {nm : ByteArray} {q : Int} (h : wordB 8 nm = false) : okMv x y nm q = false := by unfold okMv; rw [h]; simp
theorem okMv4 {x y : Load} {nm : ByteArray} {q : Int} (h : inB q 1 99 = false) : okMv x y nm q = false := by unfold okMv; rw [h]; simp
theorem okMv5 {x y : Load} {nm : ByteArray} {q : Int} (h : (x.Appliance.toList == y.Appliance.toList) = true) : okMv x y nm q = false := by unfold okMv; rw [h]; simp
theorem okMv6 {x y : Load} {nm : ByteArray} {q : Int} (h1 : loadB x.Appliance x.Things = true) (h2 : loadB y.Appliance y.Things = true) (h3 : wordB 8 nm = true) (h4 : inB q 1 99 = true) (h5 : (x.Appliance.toList == y.Appliance.toList) = false) : okMv x y nm q = true := by unfold okMv; rw [h1, h2, h3, h4, h5]; rfl
theorem moveF_len (x y : Load) (nm : ByteArray) (q : Int) (hx : x.Things.length ≤ 1048576) : (moveF x y nm q).1.Things.length ≤ 1048576 ∧ (moveF x y nm q).2.1.Things.length ≤ 1048576 := by
  unfold moveF
  split
  · exact mvF_len x y nm q hx
  · exact ⟨Nat.zero_le _, Nat.zero_le _⟩
theorem ex_hideK {Q : Exit → Act → World → Prop} {e : Exit} {a : Act} {w : World} {R : World → Prop} (hR : R w) (h : ∀ V, R V → Q e a V) : Q e a w := h w hR

end Go.Proofs.Ytokcgjjnljflaaa
