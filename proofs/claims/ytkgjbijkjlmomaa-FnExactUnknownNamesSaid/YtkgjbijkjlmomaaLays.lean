/-
  The library's functions at this program: tables of numbers, and that the bodies are the library's. No conditions.
-/
import Derived.Shelf.Lays2
import Derived.Shelf.Spec.SearchS
import Derived.Ground.Names2Prog
import Derived.Shelf.Sort.Plain
import Derived.Ground.NamesProg
import Derived.Test.YtkgjbijkjlmomaaProg
namespace Go.Proofs
open Go.Shelf
def Try.laysSearchS_ren : Go.Shelf.Ren := ⟨fun | 26 => 82 | 33 => 93 | 34 => 94 | 38 => 109 | n => n, fun | 24 => 41 | 9 => 9 | 3 => 3 | 4 => 4 | 40 => 92 | 0 => 0 | n => n, fun | n => n⟩
theorem Try.laysSearchS : Go.Proofs.Lays2.n26 Try.prog Try.laysSearchS_ren := {
  mixed := by kernel_rfl
  f26 := Try.func82.trans (congrArg some (by kernel_rfl))
  f33 := Try.func93.trans (congrArg some (by kernel_rfl))
  f34 := Try.func94.trans (congrArg some (by kernel_rfl))
  f38 := Try.func109.trans (congrArg some (by kernel_rfl))
  t0 := Try.underlying0
  a0 := Try.isAgg0
  z0 := Try.sizeOf0
  v0 := Try.zeroValue0
  t3 := Try.underlying3
  a3 := Try.isAgg3
  z3 := Try.sizeOf3
  v3 := Try.zeroValue3
  t4 := Try.underlying4
  a4 := Try.isAgg4
  z4 := Try.sizeOf4
  v4 := Try.zeroValue4
  t9 := Try.underlying9
  a9 := Try.isAgg9
  z9 := Try.sizeOf9
  v9 := Try.zeroValue9
  t24 := Try.underlying41
  a24 := Try.isAgg41
  z24 := Try.sizeOf41
  v24 := Try.zeroValue41
  t40 := Try.underlying92
  a40 := Try.isAgg92
  z40 := Try.sizeOf92
  v40 := Try.zeroValue92 }
def Try.laysSortS_ren : Go.Shelf.Ren := ⟨fun | 190 => 65 | 125 => 89 | 258 => 88 | 128 => 107 | 129 => 108 | 302 => 99 | 303 => 100 | 304 => 101 | 305 => 102 | 306 => 103 | 307 => 104 | 308 => 93 | 309 => 105 | 310 => 106 | 333 => 111 | 329 => 112 | 330 => 113 | 334 => 114 | 335 => 115 | 336 => 109 | 344 => 117 | n => n, fun | 31 => 41 | 9 => 9 | 3 => 3 | 46 => 92 | 0 => 0 | 51 => 107 | 53 => 109 | 4 => 4 | 183 => 101 | 182 => 100 | 131 => 85 | 5 => 5 | 218 => 110 | 222 => 114 | 228 => 116 | 229 => 117 | n => n, fun | n => n⟩
theorem Try.laysSortS : Go.Proofs.Lays.n190 Try.prog Try.laysSortS_ren := {
  mixed := by kernel_rfl
  f125 := Try.func89.trans (congrArg some (by kernel_rfl))
  f128 := Try.func107.trans (congrArg some (by kernel_rfl))
  f129 := Try.func108.trans (congrArg some (by kernel_rfl))
  f190 := Try.func65.trans (congrArg some (by kernel_rfl))
  f258 := Try.func88.trans (congrArg some (by kernel_rfl))
  f302 := Try.func99.trans (congrArg some (by kernel_rfl))
  f303 := Try.func100.trans (congrArg some (by kernel_rfl))
  f304 := Try.func101.trans (congrArg some (by kernel_rfl))
  f305 := Try.func102.trans (congrArg some (by kernel_rfl))
  f306 := Try.func103.trans (congrArg some (by kernel_rfl))
  f307 := Try.func104.trans (congrArg some (by kernel_rfl))
  f308 := Try.func93.trans (congrArg some (by kernel_rfl))
  f309 := Try.func105.trans (congrArg some (by kernel_rfl))
  f310 := Try.func106.trans (congrArg some (by kernel_rfl))
  f329 := Try.func112.trans (congrArg some (by kernel_rfl))
  f330 := Try.func113.trans (congrArg some (by kernel_rfl))
  f333 := Try.func111.trans (congrArg some (by kernel_rfl))
  f334 := Try.func114.trans (congrArg some (by kernel_rfl))
  f335 := Try.func115.trans (congrArg some (by kernel_rfl))
  f336 := Try.func109.trans (congrArg some (by kernel_rfl))
  f344 := Try.func117.trans (congrArg some (by kernel_rfl))
  t0 := Try.underlying0
  a0 := Try.isAgg0
  z0 := Try.sizeOf0
  v0 := Try.zeroValue0
  t3 := Try.underlying3
  a3 := Try.isAgg3
  z3 := Try.sizeOf3
  v3 := Try.zeroValue3
  t4 := Try.underlying4
  a4 := Try.isAgg4
  z4 := Try.sizeOf4
  v4 := Try.zeroValue4
  t5 := Try.underlying5
  a5 := Try.isAgg5
  z5 := Try.sizeOf5
  v5 := Try.zeroValue5
  t9 := Try.underlying9
  a9 := Try.isAgg9
  z9 := Try.sizeOf9
  v9 := Try.zeroValue9
  t31 := Try.underlying41
  a31 := Try.isAgg41
  z31 := Try.sizeOf41
  v31 := Try.zeroValue41
  t46 := Try.underlying92
  a46 := Try.isAgg92
  z46 := Try.sizeOf92
  v46 := Try.zeroValue92
  t51 := Try.underlying107
  a51 := Try.isAgg107
  z51 := Try.sizeOf107
  v51 := Try.zeroValue107
  t53 := Try.underlying109
  a53 := Try.isAgg109
  z53 := Try.sizeOf109
  v53 := Try.zeroValue109
  t131 := Try.underlying85
  a131 := Try.isAgg85
  z131 := Try.sizeOf85
  v131 := Try.zeroValue85
  t182 := Try.underlying100
  a182 := Try.isAgg100
  z182 := Try.sizeOf100
  v182 := Try.zeroValue100
  t183 := Try.underlying101
  a183 := Try.isAgg101
  z183 := Try.sizeOf101
  v183 := Try.zeroValue101
  t218 := Try.underlying110
  a218 := Try.isAgg110
  z218 := Try.sizeOf110
  v218 := Try.zeroValue110
  t222 := Try.underlying114
  a222 := Try.isAgg114
  z222 := Try.sizeOf114
  v222 := Try.zeroValue114
  t228 := Try.underlying116
  a228 := Try.isAgg116
  z228 := Try.sizeOf116
  v228 := Try.zeroValue116
  t229 := Try.underlying117
  a229 := Try.isAgg117
  z229 := Try.sizeOf117
  v229 := Try.zeroValue117 }
end Go.Proofs
