/-
  The library's functions at this program: tables of numbers, and that the bodies are the library's. No conditions.
-/
import Derived.Shelf.Lays2
import Derived.Shelf.Spec.SearchS
import Derived.Ground.Names2Prog
import Derived.Ground.NamesProg
import Derived.Test.YtnaadihbkiakeaaProg
namespace Go.Proofs
open Go.Shelf
def Try.laysSearchS_ren : Go.Shelf.Ren := ⟨fun | 26 => 131 | 33 => 145 | 34 => 146 | 38 => 151 | n => n, fun | 24 => 47 | 9 => 9 | 3 => 3 | 4 => 4 | 40 => 142 | 0 => 0 | n => n, fun | n => n⟩
theorem Try.laysSearchS : Go.Proofs.Lays2.n26 Try.prog Try.laysSearchS_ren := {
  mixed := by kernel_rfl
  f26 := Try.func131.trans (congrArg some (by kernel_rfl))
  f33 := Try.func145.trans (congrArg some (by kernel_rfl))
  f34 := Try.func146.trans (congrArg some (by kernel_rfl))
  f38 := Try.func151.trans (congrArg some (by kernel_rfl))
  t0 := Try.underlying0
  a0 := Try.isAgg0
  z0 := Try.sizeOf0
  v0 := Try.zeroValue0
  t3 := Try.underlying3
  a3 := Try.isAgg3
  z3 := Try.sizeOf3
  v3 := Try.zeroValue3
  t4 := Try.underlying4
  a4 := Try.isAgg4
  z4 := Try.sizeOf4
  v4 := Try.zeroValue4
  t9 := Try.underlying9
  a9 := Try.isAgg9
  z9 := Try.sizeOf9
  v9 := Try.zeroValue9
  t24 := Try.underlying47
  a24 := Try.isAgg47
  z24 := Try.sizeOf47
  v24 := Try.zeroValue47
  t40 := Try.underlying142
  a40 := Try.isAgg142
  z40 := Try.sizeOf142
  v40 := Try.zeroValue142 }
end Go.Proofs
