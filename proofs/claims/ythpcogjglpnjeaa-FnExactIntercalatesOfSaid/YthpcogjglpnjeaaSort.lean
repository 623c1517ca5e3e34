/-
  DERIVED: THE SHELF's CONTRACTS AT THIS DUMP, IN PLAIN WORDS (tools/lay-plain.mjs out of 'YthpcogjglpnjeaaSortL.lean', which tools/lay-shelf.mjs wrote): THE SAME DECLARATIONS UNDER THE SAME NAMES: 'import', 'namespace', 'open', 'def', 'theorem' AND NOTHING ELSE: no command of the shelf's: FOR A HAND-IN. Each laying: the table of numbers ('.._ren') and one theorem, a field a fact of the dump's own or the kernel's comparison; each contract: ONE APPLICATION.
-/
import Derived.Shelf.SlGeneric
import Derived.Ground.SlgnProg
import Derived.Shelf.SortG.Plain
import Derived.Shelf.SortG.SortNone
import Derived.Test.YthpcogjglpnjeaaProg
namespace Go.Proofs
open Go.Shelf
def Try.sortL_ren : Go.Shelf.Ren := ⟨fun | 53 => 84 | 64 => 98 | 63 => 97 | 78 => 109 | 79 => 110 | 70 => 100 | 71 => 101 | 72 => 102 | 73 => 103 | 74 => 104 | 75 => 105 | 59 => 106 | 76 => 107 | 77 => 108 | 88 => 111 | 89 => 112 | 90 => 113 | 91 => 114 | 92 => 115 | 68 => 116 | 96 => 117 | n => n, fun | 22 => 27 | 23 => 2 | 3 => 3 | 51 => 73 | 0 => 0 | 67 => 84 | 69 => 86 | 4 => 4 | 61 => 76 | 60 => 75 | 44 => 81 | 5 => 5 | 9 => 9 | 75 => 87 | 79 => 91 | 83 => 93 | 84 => 94 | n => n, fun | n => n⟩
theorem Try.sortL : Go.Proofs.SlLaysN.n53 Try.prog Try.sortL_ren := {
  mixed := by kernel_rfl
  f53 := ⟨Try.f84.name, by decide, Try.func84.trans (congrArg some (by kernel_rfl))⟩
  f59 := ⟨Try.f106.name, by decide, Try.func106.trans (congrArg some (by kernel_rfl))⟩
  f63 := ⟨Try.f97.name, by decide, Try.func97.trans (congrArg some (by kernel_rfl))⟩
  f64 := Try.func98.trans (congrArg some (by kernel_rfl))
  f68 := ⟨Try.f116.name, by decide, Try.func116.trans (congrArg some (by kernel_rfl))⟩
  f70 := ⟨Try.f100.name, by decide, Try.func100.trans (congrArg some (by kernel_rfl))⟩
  f71 := ⟨Try.f101.name, by decide, Try.func101.trans (congrArg some (by kernel_rfl))⟩
  f72 := ⟨Try.f102.name, by decide, Try.func102.trans (congrArg some (by kernel_rfl))⟩
  f73 := ⟨Try.f103.name, by decide, Try.func103.trans (congrArg some (by kernel_rfl))⟩
  f74 := ⟨Try.f104.name, by decide, Try.func104.trans (congrArg some (by kernel_rfl))⟩
  f75 := ⟨Try.f105.name, by decide, Try.func105.trans (congrArg some (by kernel_rfl))⟩
  f76 := ⟨Try.f107.name, by decide, Try.func107.trans (congrArg some (by kernel_rfl))⟩
  f77 := ⟨Try.f108.name, by decide, Try.func108.trans (congrArg some (by kernel_rfl))⟩
  f78 := Try.func109.trans (congrArg some (by kernel_rfl))
  f79 := Try.func110.trans (congrArg some (by kernel_rfl))
  f88 := ⟨Try.f111.name, by decide, Try.func111.trans (congrArg some (by kernel_rfl))⟩
  f89 := Try.func112.trans (congrArg some (by kernel_rfl))
  f90 := Try.func113.trans (congrArg some (by kernel_rfl))
  f91 := ⟨Try.f114.name, by decide, Try.func114.trans (congrArg some (by kernel_rfl))⟩
  f92 := ⟨Try.f115.name, by decide, Try.func115.trans (congrArg some (by kernel_rfl))⟩
  f96 := ⟨Try.f117.name, by decide, Try.func117.trans (congrArg some (by kernel_rfl))⟩
  t0 := Try.underlying0
  a0 := Try.isAgg0
  z0 := Try.sizeOf0
  v0 := Try.zeroValue0
  t3 := Try.underlying3
  a3 := Try.isAgg3
  z3 := Try.sizeOf3
  v3 := Try.zeroValue3
  t4 := Try.underlying4
  a4 := Try.isAgg4
  z4 := Try.sizeOf4
  v4 := Try.zeroValue4
  t5 := Try.underlying5
  a5 := Try.isAgg5
  z5 := Try.sizeOf5
  v5 := Try.zeroValue5
  t9 := Try.underlying9
  a9 := Try.isAgg9
  z9 := Try.sizeOf9
  v9 := Try.zeroValue9
  t22 := Try.underlying27
  a22 := Try.isAgg27
  z22 := Try.sizeOf27
  v22 := Try.zeroValue27
  t23 := Try.underlying2
  a23 := Try.isAgg2
  z23 := Try.sizeOf2
  v23 := Try.zeroValue2
  t44 := Try.underlying81
  a44 := Try.isAgg81
  z44 := Try.sizeOf81
  v44 := Try.zeroValue81
  t51 := Try.underlying73
  a51 := Try.isAgg73
  z51 := Try.sizeOf73
  v51 := Try.zeroValue73
  t60 := Try.underlying75
  a60 := Try.isAgg75
  z60 := Try.sizeOf75
  v60 := Try.zeroValue75
  t61 := Try.underlying76
  a61 := Try.isAgg76
  z61 := Try.sizeOf76
  v61 := Try.zeroValue76
  t67 := Try.underlying84
  a67 := Try.isAgg84
  z67 := Try.sizeOf84
  v67 := Try.zeroValue84
  t69 := Try.underlying86
  a69 := Try.isAgg86
  z69 := Try.sizeOf86
  v69 := Try.zeroValue86
  t75 := Try.underlying87
  a75 := Try.isAgg87
  z75 := Try.sizeOf87
  v75 := Try.zeroValue87
  t79 := Try.underlying91
  a79 := Try.isAgg91
  z79 := Try.sizeOf91
  v79 := Try.zeroValue91
  t83 := Try.underlying93
  a83 := Try.isAgg93
  z83 := Try.sizeOf93
  v83 := Try.zeroValue93
  t84 := Try.underlying94
  a84 := Try.isAgg94
  z84 := Try.sizeOf94
  v84 := Try.zeroValue94 }
end Go.Proofs
