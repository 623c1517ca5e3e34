/-
  DERIVED: THE SHELF's CONTRACTS AT THIS DUMP, IN PLAIN WORDS (tools/lay-plain.mjs out of 'YtnimmkfkijcbbaaDoorSortL.lean', which tools/lay-shelf.mjs wrote): THE SAME DECLARATIONS UNDER THE SAME NAMES: 'import', 'namespace', 'open', 'def', 'theorem' AND NOTHING ELSE: no command of the shelf's: FOR A HAND-IN. Each laying: the table of numbers ('.._ren') and one theorem, a field a fact of the dump's own or the kernel's comparison; each contract: ONE APPLICATION.
-/
import Derived.Shelf.SlGeneric
import Derived.Ground.SlgnProg
import Derived.Shelf.SortG.Plain
import Derived.Shelf.SortG.SortNone
import Derived.Test.YtnimmkfkijcbbaaDoorProg
namespace Go.Proofs
open Go.Shelf
def Tryd.sortL_ren : Go.Shelf.Ren := ⟨fun | 53 => 63 | 64 => 74 | 63 => 73 | 78 => 93 | 79 => 94 | 70 => 84 | 71 => 85 | 72 => 86 | 73 => 87 | 74 => 88 | 75 => 89 | 59 => 90 | 76 => 91 | 77 => 92 | 88 => 101 | 89 => 102 | 90 => 103 | 91 => 104 | 92 => 105 | 68 => 106 | 96 => 109 | n => n, fun | 22 => 32 | 23 => 2 | 3 => 3 | 51 => 78 | 0 => 0 | 67 => 102 | 69 => 87 | 4 => 4 | 61 => 94 | 60 => 93 | 44 => 99 | 5 => 5 | 9 => 9 | 75 => 109 | 79 => 113 | 83 => 116 | 84 => 117 | n => n, fun | n => n⟩
theorem Tryd.sortL : Go.Proofs.SlLaysN.n53 Tryd.prog Tryd.sortL_ren := {
  mixed := by kernel_rfl
  f53 := ⟨Tryd.f63.name, by decide, Tryd.func63.trans (congrArg some (by kernel_rfl))⟩
  f59 := ⟨Tryd.f90.name, by decide, Tryd.func90.trans (congrArg some (by kernel_rfl))⟩
  f63 := ⟨Tryd.f73.name, by decide, Tryd.func73.trans (congrArg some (by kernel_rfl))⟩
  f64 := Tryd.func74.trans (congrArg some (by kernel_rfl))
  f68 := ⟨Tryd.f106.name, by decide, Tryd.func106.trans (congrArg some (by kernel_rfl))⟩
  f70 := ⟨Tryd.f84.name, by decide, Tryd.func84.trans (congrArg some (by kernel_rfl))⟩
  f71 := ⟨Tryd.f85.name, by decide, Tryd.func85.trans (congrArg some (by kernel_rfl))⟩
  f72 := ⟨Tryd.f86.name, by decide, Tryd.func86.trans (congrArg some (by kernel_rfl))⟩
  f73 := ⟨Tryd.f87.name, by decide, Tryd.func87.trans (congrArg some (by kernel_rfl))⟩
  f74 := ⟨Tryd.f88.name, by decide, Tryd.func88.trans (congrArg some (by kernel_rfl))⟩
  f75 := ⟨Tryd.f89.name, by decide, Tryd.func89.trans (congrArg some (by kernel_rfl))⟩
  f76 := ⟨Tryd.f91.name, by decide, Tryd.func91.trans (congrArg some (by kernel_rfl))⟩
  f77 := ⟨Tryd.f92.name, by decide, Tryd.func92.trans (congrArg some (by kernel_rfl))⟩
  f78 := Tryd.func93.trans (congrArg some (by kernel_rfl))
  f79 := Tryd.func94.trans (congrArg some (by kernel_rfl))
  f88 := ⟨Tryd.f101.name, by decide, Tryd.func101.trans (congrArg some (by kernel_rfl))⟩
  f89 := Tryd.func102.trans (congrArg some (by kernel_rfl))
  f90 := Tryd.func103.trans (congrArg some (by kernel_rfl))
  f91 := ⟨Tryd.f104.name, by decide, Tryd.func104.trans (congrArg some (by kernel_rfl))⟩
  f92 := ⟨Tryd.f105.name, by decide, Tryd.func105.trans (congrArg some (by kernel_rfl))⟩
  f96 := ⟨Tryd.f109.name, by decide, Tryd.func109.trans (congrArg some (by kernel_rfl))⟩
  t0 := Tryd.underlying0
  a0 := Tryd.isAgg0
  z0 := Tryd.sizeOf0
  v0 := Tryd.zeroValue0
  t3 := Tryd.underlying3
  a3 := Tryd.isAgg3
  z3 := Tryd.sizeOf3
  v3 := Tryd.zeroValue3
  t4 := Tryd.underlying4
  a4 := Tryd.isAgg4
  z4 := Tryd.sizeOf4
  v4 := Tryd.zeroValue4
  t5 := Tryd.underlying5
  a5 := Tryd.isAgg5
  z5 := Tryd.sizeOf5
  v5 := Tryd.zeroValue5
  t9 := Tryd.underlying9
  a9 := Tryd.isAgg9
  z9 := Tryd.sizeOf9
  v9 := Tryd.zeroValue9
  t22 := Tryd.underlying32
  a22 := Tryd.isAgg32
  z22 := Tryd.sizeOf32
  v22 := Tryd.zeroValue32
  t23 := Tryd.underlying2
  a23 := Tryd.isAgg2
  z23 := Tryd.sizeOf2
  v23 := Tryd.zeroValue2
  t44 := Tryd.underlying99
  a44 := Tryd.isAgg99
  z44 := Tryd.sizeOf99
  v44 := Tryd.zeroValue99
  t51 := Tryd.underlying78
  a51 := Tryd.isAgg78
  z51 := Tryd.sizeOf78
  v51 := Tryd.zeroValue78
  t60 := Tryd.underlying93
  a60 := Tryd.isAgg93
  z60 := Tryd.sizeOf93
  v60 := Tryd.zeroValue93
  t61 := Tryd.underlying94
  a61 := Tryd.isAgg94
  z61 := Tryd.sizeOf94
  v61 := Tryd.zeroValue94
  t67 := Tryd.underlying102
  a67 := Tryd.isAgg102
  z67 := Tryd.sizeOf102
  v67 := Tryd.zeroValue102
  t69 := Tryd.underlying87
  a69 := Tryd.isAgg87
  z69 := Tryd.sizeOf87
  v69 := Tryd.zeroValue87
  t75 := Tryd.underlying109
  a75 := Tryd.isAgg109
  z75 := Tryd.sizeOf109
  v75 := Tryd.zeroValue109
  t79 := Tryd.underlying113
  a79 := Tryd.isAgg113
  z79 := Tryd.sizeOf113
  v79 := Tryd.zeroValue113
  t83 := Tryd.underlying116
  a83 := Tryd.isAgg116
  z83 := Tryd.sizeOf116
  v83 := Tryd.zeroValue116
  t84 := Tryd.underlying117
  a84 := Tryd.isAgg117
  z84 := Tryd.sizeOf117
  v84 := Tryd.zeroValue117 }
end Go.Proofs
