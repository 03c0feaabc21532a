/-
  DERIVED: THE SHELF's CONTRACTS AT THIS DUMP, IN PLAIN WORDS (tools/lay-plain.mjs out of 'YtjjjbkehmnfgbaaDoorShl5.lean', which tools/lay-shelf.mjs wrote): THE SAME DECLARATIONS UNDER THE SAME NAMES: 'import', 'namespace', 'open', 'def', 'theorem' AND NOTHING ELSE: no command of the shelf's: FOR A HAND-IN. Each laying: the table of numbers ('.._ren') and one theorem, a field a fact of the dump's own or the kernel's comparison; each contract: ONE APPLICATION.
-/
import Derived.Test.YtjjjbkehmnfgbaaDoorSen
import Derived.Shelf.SlSortCmp.NoneTotal
import Derived.Shelf.SlSortCmp.Small
import Derived.Shelf.Small.Strs
namespace Go.Proofs
open Go.Shelf
def YtjjjbkehmnfgbaaDoor.laysSortN_ren : Go.Shelf.Ren := ⟨fun | 6 => 68 | 15 => 79 | 14 => 82 | 28 => 99 | 29 => 100 | 20 => 101 | 21 => 102 | 22 => 103 | 23 => 104 | 24 => 105 | 25 => 106 | 26 => 107 | 27 => 108 | 46 => 118 | 47 => 113 | 48 => 114 | 49 => 119 | 50 => 120 | 57 => 122 | n => n, fun | 22 => 63 | 24 => 9 | 25 => 152 | 3 => 3 | 39 => 177 | 0 => 0 | 53 => 211 | 55 => 213 | 4 => 4 | 46 => 204 | 45 => 203 | 50 => 39 | 5 => 5 | 9 => 9 | 66 => 234 | 70 => 238 | 76 => 243 | 77 => 107 | n => n, fun | n => n⟩
theorem YtjjjbkehmnfgbaaDoor.laysSortN : Go.Proofs.SlLaysF.n6 Tryd.prog YtjjjbkehmnfgbaaDoor.laysSortN_ren := {
  mixed := by kernel_rfl
  f6 := ⟨Tryd.f68.name, by decide, Tryd.func68.trans (congrArg some (by kernel_rfl))⟩
  f14 := ⟨Tryd.f82.name, by decide, Tryd.func82.trans (congrArg some (by kernel_rfl))⟩
  f15 := Tryd.func79.trans (congrArg some (by kernel_rfl))
  f20 := ⟨Tryd.f101.name, by decide, Tryd.func101.trans (congrArg some (by kernel_rfl))⟩
  f21 := ⟨Tryd.f102.name, by decide, Tryd.func102.trans (congrArg some (by kernel_rfl))⟩
  f22 := ⟨Tryd.f103.name, by decide, Tryd.func103.trans (congrArg some (by kernel_rfl))⟩
  f23 := ⟨Tryd.f104.name, by decide, Tryd.func104.trans (congrArg some (by kernel_rfl))⟩
  f24 := ⟨Tryd.f105.name, by decide, Tryd.func105.trans (congrArg some (by kernel_rfl))⟩
  f25 := ⟨Tryd.f106.name, by decide, Tryd.func106.trans (congrArg some (by kernel_rfl))⟩
  f26 := ⟨Tryd.f107.name, by decide, Tryd.func107.trans (congrArg some (by kernel_rfl))⟩
  f27 := ⟨Tryd.f108.name, by decide, Tryd.func108.trans (congrArg some (by kernel_rfl))⟩
  f28 := Tryd.func99.trans (congrArg some (by kernel_rfl))
  f29 := Tryd.func100.trans (congrArg some (by kernel_rfl))
  f46 := ⟨Tryd.f118.name, by decide, Tryd.func118.trans (congrArg some (by kernel_rfl))⟩
  f47 := Tryd.func113.trans (congrArg some (by kernel_rfl))
  f48 := Tryd.func114.trans (congrArg some (by kernel_rfl))
  f49 := ⟨Tryd.f119.name, by decide, Tryd.func119.trans (congrArg some (by kernel_rfl))⟩
  f50 := ⟨Tryd.f120.name, by decide, Tryd.func120.trans (congrArg some (by kernel_rfl))⟩
  f57 := ⟨Tryd.f122.name, by decide, Tryd.func122.trans (congrArg some (by kernel_rfl))⟩
  t0 := Tryd.underlying0
  a0 := Tryd.isAgg0
  z0 := Tryd.sizeOf0
  v0 := Tryd.zeroValue0
  t3 := Tryd.underlying3
  a3 := Tryd.isAgg3
  z3 := Tryd.sizeOf3
  v3 := Tryd.zeroValue3
  t4 := Tryd.underlying4
  a4 := Tryd.isAgg4
  z4 := Tryd.sizeOf4
  v4 := Tryd.zeroValue4
  t5 := Tryd.underlying5
  a5 := Tryd.isAgg5
  z5 := Tryd.sizeOf5
  v5 := Tryd.zeroValue5
  t9 := Tryd.underlying9
  a9 := Tryd.isAgg9
  z9 := Tryd.sizeOf9
  v9 := Tryd.zeroValue9
  t22 := Tryd.underlying63
  a22 := Tryd.isAgg63
  z22 := Tryd.sizeOf63
  v22 := Tryd.zeroValue63
  a24 := Tryd.isAgg9
  z24 := Tryd.sizeOf9
  t25 := Tryd.underlying152
  a25 := Tryd.isAgg152
  z25 := Tryd.sizeOf152
  v25 := Tryd.zeroValue152
  t39 := Tryd.underlying177
  a39 := Tryd.isAgg177
  z39 := Tryd.sizeOf177
  v39 := Tryd.zeroValue177
  t45 := Tryd.underlying203
  a45 := Tryd.isAgg203
  z45 := Tryd.sizeOf203
  v45 := Tryd.zeroValue203
  t46 := Tryd.underlying204
  a46 := Tryd.isAgg204
  z46 := Tryd.sizeOf204
  v46 := Tryd.zeroValue204
  t50 := Tryd.underlying39
  a50 := Tryd.isAgg39
  z50 := Tryd.sizeOf39
  v50 := Tryd.zeroValue39
  t53 := Tryd.underlying211
  a53 := Tryd.isAgg211
  z53 := Tryd.sizeOf211
  v53 := Tryd.zeroValue211
  t55 := Tryd.underlying213
  a55 := Tryd.isAgg213
  z55 := Tryd.sizeOf213
  v55 := Tryd.zeroValue213
  t66 := Tryd.underlying234
  a66 := Tryd.isAgg234
  z66 := Tryd.sizeOf234
  v66 := Tryd.zeroValue234
  t70 := Tryd.underlying238
  a70 := Tryd.isAgg238
  z70 := Tryd.sizeOf238
  v70 := Tryd.zeroValue238
  t76 := Tryd.underlying243
  a76 := Tryd.isAgg243
  z76 := Tryd.sizeOf243
  v76 := Tryd.zeroValue243
  t77 := Tryd.underlying107
  a77 := Tryd.isAgg107
  z77 := Tryd.sizeOf107
  v77 := Tryd.zeroValue107 }
def YtjjjbkehmnfgbaaDoor.laysCmpS_ren : Go.Shelf.Ren := ⟨fun | 106 => 69 | 213 => 83 | 265 => 109 | n => n, fun | 9 => 9 | 3 => 3 | n => n, fun | n => n⟩
theorem YtjjjbkehmnfgbaaDoor.laysCmpS : Go.Proofs.Lays.n106 Tryd.prog YtjjjbkehmnfgbaaDoor.laysCmpS_ren := {
  mixed := by kernel_rfl
  f106 := Tryd.func69.trans (congrArg some (by kernel_rfl))
  f213 := Tryd.func83.trans (congrArg some (by kernel_rfl))
  f265 := Tryd.func109.trans (congrArg some (by kernel_rfl))
  t3 := Tryd.underlying3
  a3 := Tryd.isAgg3
  z3 := Tryd.sizeOf3
  v3 := Tryd.zeroValue3
  t9 := Tryd.underlying9
  a9 := Tryd.isAgg9
  z9 := Tryd.sizeOf9
  v9 := Tryd.zeroValue9 }
end Go.Proofs
