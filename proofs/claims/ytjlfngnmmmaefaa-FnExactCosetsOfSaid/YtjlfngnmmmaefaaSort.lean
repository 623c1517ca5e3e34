/-
  DERIVED: THE SHELF's CONTRACTS AT THIS DUMP, IN PLAIN WORDS (tools/lay-plain.mjs out of 'YtjlfngnmmmaefaaSortL.lean', which tools/lay-shelf.mjs wrote): THE SAME DECLARATIONS UNDER THE SAME NAMES: 'import', 'namespace', 'open', 'def', 'theorem' AND NOTHING ELSE: no command of the shelf's: FOR A HAND-IN. Each laying: the table of numbers ('.._ren') and one theorem, a field a fact of the dump's own or the kernel's comparison; each contract: ONE APPLICATION.
-/
import Derived.Shelf.SlGeneric
import Derived.Ground.SlgnProg
import Derived.Shelf.SortG.Plain
import Derived.Shelf.SortG.SortNone
import Derived.Test.YtjlfngnmmmaefaaProg
namespace Go.Proofs
open Go.Shelf
def Try.sortL_ren : Go.Shelf.Ren := ⟨fun | 53 => 87 | 64 => 102 | 63 => 101 | 78 => 114 | 79 => 115 | 70 => 105 | 71 => 106 | 72 => 107 | 73 => 108 | 74 => 109 | 75 => 110 | 59 => 111 | 76 => 112 | 77 => 113 | 88 => 124 | 89 => 125 | 90 => 126 | 91 => 127 | 92 => 128 | 68 => 104 | 96 => 132 | n => n, fun | 22 => 26 | 23 => 2 | 3 => 3 | 51 => 94 | 0 => 0 | 67 => 106 | 69 => 108 | 4 => 4 | 61 => 99 | 60 => 98 | 44 => 71 | 5 => 5 | 9 => 9 | 75 => 114 | 79 => 118 | 83 => 122 | 84 => 123 | n => n, fun | n => n⟩
theorem Try.sortL : Go.Proofs.SlLaysN.n53 Try.prog Try.sortL_ren := {
  mixed := by kernel_rfl
  f53 := ⟨Try.f87.name, by decide, Try.func87.trans (congrArg some (by kernel_rfl))⟩
  f59 := ⟨Try.f111.name, by decide, Try.func111.trans (congrArg some (by kernel_rfl))⟩
  f63 := ⟨Try.f101.name, by decide, Try.func101.trans (congrArg some (by kernel_rfl))⟩
  f64 := Try.func102.trans (congrArg some (by kernel_rfl))
  f68 := ⟨Try.f104.name, by decide, Try.func104.trans (congrArg some (by kernel_rfl))⟩
  f70 := ⟨Try.f105.name, by decide, Try.func105.trans (congrArg some (by kernel_rfl))⟩
  f71 := ⟨Try.f106.name, by decide, Try.func106.trans (congrArg some (by kernel_rfl))⟩
  f72 := ⟨Try.f107.name, by decide, Try.func107.trans (congrArg some (by kernel_rfl))⟩
  f73 := ⟨Try.f108.name, by decide, Try.func108.trans (congrArg some (by kernel_rfl))⟩
  f74 := ⟨Try.f109.name, by decide, Try.func109.trans (congrArg some (by kernel_rfl))⟩
  f75 := ⟨Try.f110.name, by decide, Try.func110.trans (congrArg some (by kernel_rfl))⟩
  f76 := ⟨Try.f112.name, by decide, Try.func112.trans (congrArg some (by kernel_rfl))⟩
  f77 := ⟨Try.f113.name, by decide, Try.func113.trans (congrArg some (by kernel_rfl))⟩
  f78 := Try.func114.trans (congrArg some (by kernel_rfl))
  f79 := Try.func115.trans (congrArg some (by kernel_rfl))
  f88 := ⟨Try.f124.name, by decide, Try.func124.trans (congrArg some (by kernel_rfl))⟩
  f89 := Try.func125.trans (congrArg some (by kernel_rfl))
  f90 := Try.func126.trans (congrArg some (by kernel_rfl))
  f91 := ⟨Try.f127.name, by decide, Try.func127.trans (congrArg some (by kernel_rfl))⟩
  f92 := ⟨Try.f128.name, by decide, Try.func128.trans (congrArg some (by kernel_rfl))⟩
  f96 := ⟨Try.f132.name, by decide, Try.func132.trans (congrArg some (by kernel_rfl))⟩
  t0 := Try.underlying0
  a0 := Try.isAgg0
  z0 := Try.sizeOf0
  v0 := Try.zeroValue0
  t3 := Try.underlying3
  a3 := Try.isAgg3
  z3 := Try.sizeOf3
  v3 := Try.zeroValue3
  t4 := Try.underlying4
  a4 := Try.isAgg4
  z4 := Try.sizeOf4
  v4 := Try.zeroValue4
  t5 := Try.underlying5
  a5 := Try.isAgg5
  z5 := Try.sizeOf5
  v5 := Try.zeroValue5
  t9 := Try.underlying9
  a9 := Try.isAgg9
  z9 := Try.sizeOf9
  v9 := Try.zeroValue9
  t22 := Try.underlying26
  a22 := Try.isAgg26
  z22 := Try.sizeOf26
  v22 := Try.zeroValue26
  t23 := Try.underlying2
  a23 := Try.isAgg2
  z23 := Try.sizeOf2
  v23 := Try.zeroValue2
  t44 := Try.underlying71
  a44 := Try.isAgg71
  z44 := Try.sizeOf71
  v44 := Try.zeroValue71
  t51 := Try.underlying94
  a51 := Try.isAgg94
  z51 := Try.sizeOf94
  v51 := Try.zeroValue94
  t60 := Try.underlying98
  a60 := Try.isAgg98
  z60 := Try.sizeOf98
  v60 := Try.zeroValue98
  t61 := Try.underlying99
  a61 := Try.isAgg99
  z61 := Try.sizeOf99
  v61 := Try.zeroValue99
  t67 := Try.underlying106
  a67 := Try.isAgg106
  z67 := Try.sizeOf106
  v67 := Try.zeroValue106
  t69 := Try.underlying108
  a69 := Try.isAgg108
  z69 := Try.sizeOf108
  v69 := Try.zeroValue108
  t75 := Try.underlying114
  a75 := Try.isAgg114
  z75 := Try.sizeOf114
  v75 := Try.zeroValue114
  t79 := Try.underlying118
  a79 := Try.isAgg118
  z79 := Try.sizeOf118
  v79 := Try.zeroValue118
  t83 := Try.underlying122
  a83 := Try.isAgg122
  z83 := Try.sizeOf122
  v83 := Try.zeroValue122
  t84 := Try.underlying123
  a84 := Try.isAgg123
  z84 := Try.sizeOf123
  v84 := Try.zeroValue123 }
end Go.Proofs
