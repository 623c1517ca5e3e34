/-
  DERIVED: THE SHELF's CONTRACTS AT THIS DUMP, IN PLAIN WORDS (tools/lay-plain.mjs out of 'YtkapkieeafhaoaaSortL.lean', which tools/lay-shelf.mjs wrote): THE SAME DECLARATIONS UNDER THE SAME NAMES: 'import', 'namespace', 'open', 'def', 'theorem' AND NOTHING ELSE: no command of the shelf's: FOR A HAND-IN. Each laying: the table of numbers ('.._ren') and one theorem, a field a fact of the dump's own or the kernel's comparison; each contract: ONE APPLICATION.
-/
import Derived.Shelf.SlGeneric
import Derived.Ground.SlgnProg
import Derived.Shelf.SortG.Plain
import Derived.Shelf.SortG.SortNone
import Derived.Test.YtkapkieeafhaoaaProg
namespace Go.Proofs
open Go.Shelf
def Try.sortL_ren : Go.Shelf.Ren := ⟨fun | 53 => 73 | 64 => 109 | 63 => 108 | 78 => 143 | 79 => 144 | 70 => 134 | 71 => 135 | 72 => 136 | 73 => 137 | 74 => 138 | 75 => 139 | 59 => 140 | 76 => 141 | 77 => 142 | 88 => 153 | 89 => 154 | 90 => 155 | 91 => 156 | 92 => 157 | 68 => 158 | 96 => 159 | n => n, fun | 22 => 29 | 23 => 2 | 3 => 3 | 51 => 76 | 0 => 0 | 67 => 93 | 69 => 95 | 4 => 4 | 61 => 86 | 60 => 85 | 44 => 90 | 5 => 5 | 9 => 9 | 75 => 99 | 79 => 103 | 83 => 105 | 84 => 106 | n => n, fun | n => n⟩
theorem Try.sortL : Go.Proofs.SlLaysN.n53 Try.prog Try.sortL_ren := {
  mixed := by kernel_rfl
  f53 := ⟨Try.f73.name, by decide, Try.func73.trans (congrArg some (by kernel_rfl))⟩
  f59 := ⟨Try.f140.name, by decide, Try.func140.trans (congrArg some (by kernel_rfl))⟩
  f63 := ⟨Try.f108.name, by decide, Try.func108.trans (congrArg some (by kernel_rfl))⟩
  f64 := Try.func109.trans (congrArg some (by kernel_rfl))
  f68 := ⟨Try.f158.name, by decide, Try.func158.trans (congrArg some (by kernel_rfl))⟩
  f70 := ⟨Try.f134.name, by decide, Try.func134.trans (congrArg some (by kernel_rfl))⟩
  f71 := ⟨Try.f135.name, by decide, Try.func135.trans (congrArg some (by kernel_rfl))⟩
  f72 := ⟨Try.f136.name, by decide, Try.func136.trans (congrArg some (by kernel_rfl))⟩
  f73 := ⟨Try.f137.name, by decide, Try.func137.trans (congrArg some (by kernel_rfl))⟩
  f74 := ⟨Try.f138.name, by decide, Try.func138.trans (congrArg some (by kernel_rfl))⟩
  f75 := ⟨Try.f139.name, by decide, Try.func139.trans (congrArg some (by kernel_rfl))⟩
  f76 := ⟨Try.f141.name, by decide, Try.func141.trans (congrArg some (by kernel_rfl))⟩
  f77 := ⟨Try.f142.name, by decide, Try.func142.trans (congrArg some (by kernel_rfl))⟩
  f78 := Try.func143.trans (congrArg some (by kernel_rfl))
  f79 := Try.func144.trans (congrArg some (by kernel_rfl))
  f88 := ⟨Try.f153.name, by decide, Try.func153.trans (congrArg some (by kernel_rfl))⟩
  f89 := Try.func154.trans (congrArg some (by kernel_rfl))
  f90 := Try.func155.trans (congrArg some (by kernel_rfl))
  f91 := ⟨Try.f156.name, by decide, Try.func156.trans (congrArg some (by kernel_rfl))⟩
  f92 := ⟨Try.f157.name, by decide, Try.func157.trans (congrArg some (by kernel_rfl))⟩
  f96 := ⟨Try.f159.name, by decide, Try.func159.trans (congrArg some (by kernel_rfl))⟩
  t0 := Try.underlying0
  a0 := Try.isAgg0
  z0 := Try.sizeOf0
  v0 := Try.zeroValue0
  t3 := Try.underlying3
  a3 := Try.isAgg3
  z3 := Try.sizeOf3
  v3 := Try.zeroValue3
  t4 := Try.underlying4
  a4 := Try.isAgg4
  z4 := Try.sizeOf4
  v4 := Try.zeroValue4
  t5 := Try.underlying5
  a5 := Try.isAgg5
  z5 := Try.sizeOf5
  v5 := Try.zeroValue5
  t9 := Try.underlying9
  a9 := Try.isAgg9
  z9 := Try.sizeOf9
  v9 := Try.zeroValue9
  t22 := Try.underlying29
  a22 := Try.isAgg29
  z22 := Try.sizeOf29
  v22 := Try.zeroValue29
  t23 := Try.underlying2
  a23 := Try.isAgg2
  z23 := Try.sizeOf2
  v23 := Try.zeroValue2
  t44 := Try.underlying90
  a44 := Try.isAgg90
  z44 := Try.sizeOf90
  v44 := Try.zeroValue90
  t51 := Try.underlying76
  a51 := Try.isAgg76
  z51 := Try.sizeOf76
  v51 := Try.zeroValue76
  t60 := Try.underlying85
  a60 := Try.isAgg85
  z60 := Try.sizeOf85
  v60 := Try.zeroValue85
  t61 := Try.underlying86
  a61 := Try.isAgg86
  z61 := Try.sizeOf86
  v61 := Try.zeroValue86
  t67 := Try.underlying93
  a67 := Try.isAgg93
  z67 := Try.sizeOf93
  v67 := Try.zeroValue93
  t69 := Try.underlying95
  a69 := Try.isAgg95
  z69 := Try.sizeOf95
  v69 := Try.zeroValue95
  t75 := Try.underlying99
  a75 := Try.isAgg99
  z75 := Try.sizeOf99
  v75 := Try.zeroValue99
  t79 := Try.underlying103
  a79 := Try.isAgg103
  z79 := Try.sizeOf103
  v79 := Try.zeroValue103
  t83 := Try.underlying105
  a83 := Try.isAgg105
  z83 := Try.sizeOf105
  v83 := Try.zeroValue105
  t84 := Try.underlying106
  a84 := Try.isAgg106
  z84 := Try.sizeOf106
  v84 := Try.zeroValue106 }
end Go.Proofs
