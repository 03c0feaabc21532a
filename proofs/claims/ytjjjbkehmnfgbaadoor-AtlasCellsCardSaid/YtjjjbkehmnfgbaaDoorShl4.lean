/-
  DERIVED: THE SHELF's CONTRACTS AT THIS DUMP, IN PLAIN WORDS (tools/lay-plain.mjs out of 'YtjjjbkehmnfgbaaDoorShl4.lean', which tools/lay-shelf.mjs wrote): THE SAME DECLARATIONS UNDER THE SAME NAMES: 'import', 'namespace', 'open', 'def', 'theorem' AND NOTHING ELSE: no command of the shelf's: FOR A HAND-IN. Each laying: the table of numbers ('.._ren') and one theorem, a field a fact of the dump's own or the kernel's comparison; each contract: ONE APPLICATION.
-/
import Derived.Test.YtjjjbkehmnfgbaaDoorSen
import Derived.Shelf.SortM.Plain
import Derived.Shelf.SortM.SortNone
namespace Go.Proofs
open Go.Shelf
def YtjjjbkehmnfgbaaDoor.laysSortS_ren : Go.Shelf.Ren := ⟨fun | 6 => 62 | 8 => 79 | 9 => 78 | 19 => 99 | 20 => 100 | 21 => 90 | 22 => 91 | 23 => 92 | 24 => 93 | 25 => 94 | 26 => 95 | 27 => 96 | 28 => 97 | 29 => 98 | 36 => 112 | 31 => 113 | 32 => 114 | 37 => 115 | 38 => 116 | 39 => 117 | 41 => 121 | n => n, fun | 27 => 63 | 29 => 9 | 3 => 3 | 32 => 177 | 26 => 63 | 0 => 0 | 44 => 211 | 46 => 213 | 4 => 4 | 36 => 204 | 35 => 203 | 41 => 39 | 5 => 5 | 9 => 9 | 53 => 234 | 57 => 238 | 63 => 243 | 64 => 107 | n => n, fun | n => n⟩
theorem YtjjjbkehmnfgbaaDoor.laysSortS : Go.Proofs.SlLaysM.n6 Tryd.prog YtjjjbkehmnfgbaaDoor.laysSortS_ren := {
  mixed := by kernel_rfl
  f6 := ⟨Tryd.f62.name, by decide, Tryd.func62.trans (congrArg some (by kernel_rfl))⟩
  f8 := Tryd.func79.trans (congrArg some (by kernel_rfl))
  f9 := ⟨Tryd.f78.name, by decide, Tryd.func78.trans (congrArg some (by kernel_rfl))⟩
  f19 := Tryd.func99.trans (congrArg some (by kernel_rfl))
  f20 := Tryd.func100.trans (congrArg some (by kernel_rfl))
  f21 := ⟨Tryd.f90.name, by decide, Tryd.func90.trans (congrArg some (by kernel_rfl))⟩
  f22 := ⟨Tryd.f91.name, by decide, Tryd.func91.trans (congrArg some (by kernel_rfl))⟩
  f23 := ⟨Tryd.f92.name, by decide, Tryd.func92.trans (congrArg some (by kernel_rfl))⟩
  f24 := ⟨Tryd.f93.name, by decide, Tryd.func93.trans (congrArg some (by kernel_rfl))⟩
  f25 := ⟨Tryd.f94.name, by decide, Tryd.func94.trans (congrArg some (by kernel_rfl))⟩
  f26 := ⟨Tryd.f95.name, by decide, Tryd.func95.trans (congrArg some (by kernel_rfl))⟩
  f27 := ⟨Tryd.f96.name, by decide, Tryd.func96.trans (congrArg some (by kernel_rfl))⟩
  f28 := ⟨Tryd.f97.name, by decide, Tryd.func97.trans (congrArg some (by kernel_rfl))⟩
  f29 := ⟨Tryd.f98.name, by decide, Tryd.func98.trans (congrArg some (by kernel_rfl))⟩
  f31 := Tryd.func113.trans (congrArg some (by kernel_rfl))
  f32 := Tryd.func114.trans (congrArg some (by kernel_rfl))
  f36 := ⟨Tryd.f112.name, by decide, Tryd.func112.trans (congrArg some (by kernel_rfl))⟩
  f37 := ⟨Tryd.f115.name, by decide, Tryd.func115.trans (congrArg some (by kernel_rfl))⟩
  f38 := ⟨Tryd.f116.name, by decide, Tryd.func116.trans (congrArg some (by kernel_rfl))⟩
  f39 := ⟨Tryd.f117.name, by decide, Tryd.func117.trans (congrArg some (by kernel_rfl))⟩
  f41 := ⟨Tryd.f121.name, by decide, Tryd.func121.trans (congrArg some (by kernel_rfl))⟩
  t0 := Tryd.underlying0
  a0 := Tryd.isAgg0
  z0 := Tryd.sizeOf0
  v0 := Tryd.zeroValue0
  t3 := Tryd.underlying3
  a3 := Tryd.isAgg3
  z3 := Tryd.sizeOf3
  v3 := Tryd.zeroValue3
  t4 := Tryd.underlying4
  a4 := Tryd.isAgg4
  z4 := Tryd.sizeOf4
  v4 := Tryd.zeroValue4
  t5 := Tryd.underlying5
  a5 := Tryd.isAgg5
  z5 := Tryd.sizeOf5
  v5 := Tryd.zeroValue5
  t9 := Tryd.underlying9
  a9 := Tryd.isAgg9
  z9 := Tryd.sizeOf9
  v9 := Tryd.zeroValue9
  t26 := Tryd.underlying63
  a26 := Tryd.isAgg63
  z26 := Tryd.sizeOf63
  v26 := Tryd.zeroValue63
  t27 := Tryd.underlying63
  a27 := Tryd.isAgg63
  z27 := Tryd.sizeOf63
  v27 := Tryd.zeroValue63
  t29 := Tryd.underlying9
  a29 := Tryd.isAgg9
  z29 := Tryd.sizeOf9
  v29 := Tryd.zeroValue9
  t32 := Tryd.underlying177
  a32 := Tryd.isAgg177
  z32 := Tryd.sizeOf177
  v32 := Tryd.zeroValue177
  t35 := Tryd.underlying203
  a35 := Tryd.isAgg203
  z35 := Tryd.sizeOf203
  v35 := Tryd.zeroValue203
  t36 := Tryd.underlying204
  a36 := Tryd.isAgg204
  z36 := Tryd.sizeOf204
  v36 := Tryd.zeroValue204
  t41 := Tryd.underlying39
  a41 := Tryd.isAgg39
  z41 := Tryd.sizeOf39
  v41 := Tryd.zeroValue39
  t44 := Tryd.underlying211
  a44 := Tryd.isAgg211
  z44 := Tryd.sizeOf211
  v44 := Tryd.zeroValue211
  t46 := Tryd.underlying213
  a46 := Tryd.isAgg213
  z46 := Tryd.sizeOf213
  v46 := Tryd.zeroValue213
  t53 := Tryd.underlying234
  a53 := Tryd.isAgg234
  z53 := Tryd.sizeOf234
  v53 := Tryd.zeroValue234
  t57 := Tryd.underlying238
  a57 := Tryd.isAgg238
  z57 := Tryd.sizeOf238
  v57 := Tryd.zeroValue238
  t63 := Tryd.underlying243
  a63 := Tryd.isAgg243
  z63 := Tryd.sizeOf243
  v63 := Tryd.zeroValue243
  t64 := Tryd.underlying107
  a64 := Tryd.isAgg107
  z64 := Tryd.sizeOf107
  v64 := Tryd.zeroValue107 }
end Go.Proofs
