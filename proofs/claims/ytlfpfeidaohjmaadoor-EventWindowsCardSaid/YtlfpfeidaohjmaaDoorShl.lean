/-
  DERIVED: THE SHELF's CONTRACTS AT THIS DUMP, IN PLAIN WORDS (tools/lay-plain.mjs out of 'YtlfpfeidaohjmaaDoorShl.lean', which tools/lay-shelf.mjs wrote): THE SAME DECLARATIONS UNDER THE SAME NAMES: 'import', 'namespace', 'open', 'def', 'theorem' AND NOTHING ELSE: no command of the shelf's: FOR A HAND-IN. Each laying: the table of numbers ('.._ren') and one theorem, a field a fact of the dump's own or the kernel's comparison; each contract: ONE APPLICATION.
-/
import Derived.Test.YtlfpfeidaohjmaaDoorSen
import Derived.Shelf.Sort.Plain
import Derived.Shelf.Slices.In.CompactI
namespace Go.Proofs
open Go.Shelf
def YtlfpfeidaohjmaaDoor.laysSort_ren : Go.Shelf.Ren := ⟨fun | 189 => 126 | 125 => 132 | 257 => 150 | 128 => 159 | 129 => 160 | 294 => 167 | 295 => 168 | 296 => 169 | 297 => 170 | 298 => 171 | 299 => 172 | 216 => 173 | 300 => 174 | 301 => 175 | 328 => 181 | 329 => 177 | 330 => 178 | 331 => 182 | 332 => 183 | 215 => 133 | 343 => 185 | n => n, fun | 28 => 82 | 3 => 3 | 46 => 195 | 0 => 0 | 51 => 227 | 53 => 197 | 4 => 4 | 183 => 221 | 182 => 220 | 131 => 165 | 5 => 5 | 9 => 9 | 218 => 250 | 222 => 254 | 228 => 258 | 229 => 48 | n => n, fun | n => n⟩
theorem YtlfpfeidaohjmaaDoor.laysSort : Go.Proofs.Lays.n189 Tryd.prog YtlfpfeidaohjmaaDoor.laysSort_ren := {
  mixed := by kernel_rfl
  f125 := Tryd.func132.trans (congrArg some (by kernel_rfl))
  f128 := Tryd.func159.trans (congrArg some (by kernel_rfl))
  f129 := Tryd.func160.trans (congrArg some (by kernel_rfl))
  f189 := Tryd.func126.trans (congrArg some (by kernel_rfl))
  f215 := Tryd.func133.trans (congrArg some (by kernel_rfl))
  f216 := Tryd.func173.trans (congrArg some (by kernel_rfl))
  f257 := Tryd.func150.trans (congrArg some (by kernel_rfl))
  f294 := Tryd.func167.trans (congrArg some (by kernel_rfl))
  f295 := Tryd.func168.trans (congrArg some (by kernel_rfl))
  f296 := Tryd.func169.trans (congrArg some (by kernel_rfl))
  f297 := Tryd.func170.trans (congrArg some (by kernel_rfl))
  f298 := Tryd.func171.trans (congrArg some (by kernel_rfl))
  f299 := Tryd.func172.trans (congrArg some (by kernel_rfl))
  f300 := Tryd.func174.trans (congrArg some (by kernel_rfl))
  f301 := Tryd.func175.trans (congrArg some (by kernel_rfl))
  f328 := Tryd.func181.trans (congrArg some (by kernel_rfl))
  f329 := Tryd.func177.trans (congrArg some (by kernel_rfl))
  f330 := Tryd.func178.trans (congrArg some (by kernel_rfl))
  f331 := Tryd.func182.trans (congrArg some (by kernel_rfl))
  f332 := Tryd.func183.trans (congrArg some (by kernel_rfl))
  f343 := Tryd.func185.trans (congrArg some (by kernel_rfl))
  t0 := Tryd.underlying0
  a0 := Tryd.isAgg0
  z0 := Tryd.sizeOf0
  v0 := Tryd.zeroValue0
  t3 := Tryd.underlying3
  a3 := Tryd.isAgg3
  z3 := Tryd.sizeOf3
  v3 := Tryd.zeroValue3
  t4 := Tryd.underlying4
  a4 := Tryd.isAgg4
  z4 := Tryd.sizeOf4
  v4 := Tryd.zeroValue4
  t5 := Tryd.underlying5
  a5 := Tryd.isAgg5
  z5 := Tryd.sizeOf5
  v5 := Tryd.zeroValue5
  t9 := Tryd.underlying9
  a9 := Tryd.isAgg9
  z9 := Tryd.sizeOf9
  v9 := Tryd.zeroValue9
  t28 := Tryd.underlying82
  a28 := Tryd.isAgg82
  z28 := Tryd.sizeOf82
  v28 := Tryd.zeroValue82
  t46 := Tryd.underlying195
  a46 := Tryd.isAgg195
  z46 := Tryd.sizeOf195
  v46 := Tryd.zeroValue195
  t51 := Tryd.underlying227
  a51 := Tryd.isAgg227
  z51 := Tryd.sizeOf227
  v51 := Tryd.zeroValue227
  t53 := Tryd.underlying197
  a53 := Tryd.isAgg197
  z53 := Tryd.sizeOf197
  v53 := Tryd.zeroValue197
  t131 := Tryd.underlying165
  a131 := Tryd.isAgg165
  z131 := Tryd.sizeOf165
  v131 := Tryd.zeroValue165
  t182 := Tryd.underlying220
  a182 := Tryd.isAgg220
  z182 := Tryd.sizeOf220
  v182 := Tryd.zeroValue220
  t183 := Tryd.underlying221
  a183 := Tryd.isAgg221
  z183 := Tryd.sizeOf221
  v183 := Tryd.zeroValue221
  t218 := Tryd.underlying250
  a218 := Tryd.isAgg250
  z218 := Tryd.sizeOf250
  v218 := Tryd.zeroValue250
  t222 := Tryd.underlying254
  a222 := Tryd.isAgg254
  z222 := Tryd.sizeOf254
  v222 := Tryd.zeroValue254
  t228 := Tryd.underlying258
  a228 := Tryd.isAgg258
  z228 := Tryd.sizeOf258
  v228 := Tryd.zeroValue258
  t229 := Tryd.underlying48
  a229 := Tryd.isAgg48
  z229 := Tryd.sizeOf48
  v229 := Tryd.zeroValue48 }
def YtlfpfeidaohjmaaDoor.laysCompact_ren : Go.Shelf.Ren := ⟨fun | 20 => 130 | n => n, fun | 22 => 82 | 3 => 3 | 4 => 4 | 0 => 0 | n => n, fun | n => n⟩
theorem YtlfpfeidaohjmaaDoor.laysCompact : Go.Proofs.Lays2.n20 Tryd.prog YtlfpfeidaohjmaaDoor.laysCompact_ren := {
  mixed := by kernel_rfl
  f20 := Tryd.func130.trans (congrArg some (by kernel_rfl))
  t0 := Tryd.underlying0
  a0 := Tryd.isAgg0
  z0 := Tryd.sizeOf0
  v0 := Tryd.zeroValue0
  t3 := Tryd.underlying3
  a3 := Tryd.isAgg3
  z3 := Tryd.sizeOf3
  v3 := Tryd.zeroValue3
  t4 := Tryd.underlying4
  a4 := Tryd.isAgg4
  z4 := Tryd.sizeOf4
  v4 := Tryd.zeroValue4
  t22 := Tryd.underlying82
  a22 := Tryd.isAgg82
  z22 := Tryd.sizeOf82
  v22 := Tryd.zeroValue82
  i3 := by kernel_rfl }
end Go.Proofs
