/-
  DERIVED: THE SHELF's CONTRACTS AT THIS DUMP, IN PLAIN WORDS (tools/lay-plain.mjs out of 'YtlfpfeidaohjmaaDoorShl2.lean', which tools/lay-shelf.mjs wrote): THE SAME DECLARATIONS UNDER THE SAME NAMES: 'import', 'namespace', 'open', 'def', 'theorem' AND NOTHING ELSE: no command of the shelf's: FOR A HAND-IN. Each laying: the table of numbers ('.._ren') and one theorem, a field a fact of the dump's own or the kernel's comparison; each contract: ONE APPLICATION.
-/
import Derived.Test.YtlfpfeidaohjmaaDoorSen
import Derived.Shelf.Bits.Mul64
import Derived.Shelf.Small.Bits
import Derived.Shelf.Sort.Plain
import Derived.Shelf.Slices.In.CompactI
import Derived.Shelf.SlSortCmp.WholeK
import Derived.Shelf.SlicesG.Cmp
namespace Go.Proofs
open Go.Shelf
def YtlfpfeidaohjmaaDoor.laysMul64_ren : Go.Shelf.Ren := ⟨fun | 264 => 135 | n => n, fun | 53 => 197 | 46 => 195 | n => n, fun | n => n⟩
theorem YtlfpfeidaohjmaaDoor.laysMul64 : Go.Proofs.Lays.n264 Tryd.prog YtlfpfeidaohjmaaDoor.laysMul64_ren := {
  mixed := by kernel_rfl
  f264 := Tryd.func135.trans (congrArg some (by kernel_rfl))
  t46 := Tryd.underlying195
  a46 := Tryd.isAgg195
  z46 := Tryd.sizeOf195
  v46 := Tryd.zeroValue195
  t53 := Tryd.underlying197
  a53 := Tryd.isAgg197
  z53 := Tryd.sizeOf197
  v53 := Tryd.zeroValue197 }
def YtlfpfeidaohjmaaDoor.laysLz_ren : Go.Shelf.Ren := ⟨fun | 134 => 161 | 129 => 160 | n => n, fun | 53 => 197 | 3 => 3 | 4 => 4 | 46 => 195 | 5 => 5 | 9 => 9 | n => n, fun | n => n⟩
theorem YtlfpfeidaohjmaaDoor.laysLz : Go.Proofs.Lays.n134 Tryd.prog YtlfpfeidaohjmaaDoor.laysLz_ren := {
  mixed := by kernel_rfl
  f129 := Tryd.func160.trans (congrArg some (by kernel_rfl))
  f134 := Tryd.func161.trans (congrArg some (by kernel_rfl))
  t3 := Tryd.underlying3
  a3 := Tryd.isAgg3
  z3 := Tryd.sizeOf3
  v3 := Tryd.zeroValue3
  t4 := Tryd.underlying4
  a4 := Tryd.isAgg4
  z4 := Tryd.sizeOf4
  v4 := Tryd.zeroValue4
  t5 := Tryd.underlying5
  a5 := Tryd.isAgg5
  z5 := Tryd.sizeOf5
  v5 := Tryd.zeroValue5
  t9 := Tryd.underlying9
  a9 := Tryd.isAgg9
  z9 := Tryd.sizeOf9
  v9 := Tryd.zeroValue9
  t46 := Tryd.underlying195
  a46 := Tryd.isAgg195
  z46 := Tryd.sizeOf195
  v46 := Tryd.zeroValue195
  t53 := Tryd.underlying197
  a53 := Tryd.isAgg197
  z53 := Tryd.sizeOf197
  v53 := Tryd.zeroValue197 }
def YtlfpfeidaohjmaaDoor.laysLen_ren : Go.Shelf.Ren := ⟨fun | 125 => 132 | 128 => 159 | 129 => 160 | n => n, fun | 46 => 195 | 3 => 3 | 51 => 227 | 53 => 197 | 4 => 4 | 5 => 5 | 9 => 9 | n => n, fun | n => n⟩
theorem YtlfpfeidaohjmaaDoor.laysLen : Go.Proofs.Lays.n125 Tryd.prog YtlfpfeidaohjmaaDoor.laysLen_ren := {
  mixed := by kernel_rfl
  f125 := Tryd.func132.trans (congrArg some (by kernel_rfl))
  f128 := Tryd.func159.trans (congrArg some (by kernel_rfl))
  f129 := Tryd.func160.trans (congrArg some (by kernel_rfl))
  t3 := Tryd.underlying3
  a3 := Tryd.isAgg3
  z3 := Tryd.sizeOf3
  v3 := Tryd.zeroValue3
  t4 := Tryd.underlying4
  a4 := Tryd.isAgg4
  z4 := Tryd.sizeOf4
  v4 := Tryd.zeroValue4
  t5 := Tryd.underlying5
  a5 := Tryd.isAgg5
  z5 := Tryd.sizeOf5
  v5 := Tryd.zeroValue5
  t9 := Tryd.underlying9
  a9 := Tryd.isAgg9
  z9 := Tryd.sizeOf9
  v9 := Tryd.zeroValue9
  t46 := Tryd.underlying195
  a46 := Tryd.isAgg195
  z46 := Tryd.sizeOf195
  v46 := Tryd.zeroValue195
  t51 := Tryd.underlying227
  a51 := Tryd.isAgg227
  z51 := Tryd.sizeOf227
  v51 := Tryd.zeroValue227
  t53 := Tryd.underlying197
  a53 := Tryd.isAgg197
  z53 := Tryd.sizeOf197
  v53 := Tryd.zeroValue197 }
end Go.Proofs
/-
  DERIVED: THE SHELF's CONTRACTS AT THIS DUMP, IN PLAIN WORDS (tools/lay-plain.mjs out of 'YtlfpfeidaohjmaaDoorShl.lean', which tools/lay-shelf.mjs wrote): THE SAME DECLARATIONS UNDER THE SAME NAMES: 'import', 'namespace', 'open', 'def', 'theorem' AND NOTHING ELSE: no command of the shelf's: FOR A HAND-IN. Each laying: the table of numbers ('.._ren') and one theorem, a field a fact of the dump's own or the kernel's comparison; each contract: ONE APPLICATION.
-/
namespace Go.Proofs
open Go.Shelf
def YtlfpfeidaohjmaaDoor.laysSort_ren : Go.Shelf.Ren := ⟨fun | 189 => 126 | 125 => 132 | 257 => 150 | 128 => 159 | 129 => 160 | 294 => 167 | 295 => 168 | 296 => 169 | 297 => 170 | 298 => 171 | 299 => 172 | 216 => 173 | 300 => 174 | 301 => 175 | 328 => 181 | 329 => 177 | 330 => 178 | 331 => 182 | 332 => 183 | 215 => 133 | 343 => 185 | n => n, fun | 28 => 82 | 3 => 3 | 46 => 195 | 0 => 0 | 51 => 227 | 53 => 197 | 4 => 4 | 183 => 221 | 182 => 220 | 131 => 165 | 5 => 5 | 9 => 9 | 218 => 250 | 222 => 254 | 228 => 258 | 229 => 48 | n => n, fun | n => n⟩
theorem YtlfpfeidaohjmaaDoor.laysSort : Go.Proofs.Lays.n189 Tryd.prog YtlfpfeidaohjmaaDoor.laysSort_ren := {
  mixed := by kernel_rfl
  f125 := Tryd.func132.trans (congrArg some (by kernel_rfl))
  f128 := Tryd.func159.trans (congrArg some (by kernel_rfl))
  f129 := Tryd.func160.trans (congrArg some (by kernel_rfl))
  f189 := Tryd.func126.trans (congrArg some (by kernel_rfl))
  f215 := Tryd.func133.trans (congrArg some (by kernel_rfl))
  f216 := Tryd.func173.trans (congrArg some (by kernel_rfl))
  f257 := Tryd.func150.trans (congrArg some (by kernel_rfl))
  f294 := Tryd.func167.trans (congrArg some (by kernel_rfl))
  f295 := Tryd.func168.trans (congrArg some (by kernel_rfl))
  f296 := Tryd.func169.trans (congrArg some (by kernel_rfl))
  f297 := Tryd.func170.trans (congrArg some (by kernel_rfl))
  f298 := Tryd.func171.trans (congrArg some (by kernel_rfl))
  f299 := Tryd.func172.trans (congrArg some (by kernel_rfl))
  f300 := Tryd.func174.trans (congrArg some (by kernel_rfl))
  f301 := Tryd.func175.trans (congrArg some (by kernel_rfl))
  f328 := Tryd.func181.trans (congrArg some (by kernel_rfl))
  f329 := Tryd.func177.trans (congrArg some (by kernel_rfl))
  f330 := Tryd.func178.trans (congrArg some (by kernel_rfl))
  f331 := Tryd.func182.trans (congrArg some (by kernel_rfl))
  f332 := Tryd.func183.trans (congrArg some (by kernel_rfl))
  f343 := Tryd.func185.trans (congrArg some (by kernel_rfl))
  t0 := Tryd.underlying0
  a0 := Tryd.isAgg0
  z0 := Tryd.sizeOf0
  v0 := Tryd.zeroValue0
  t3 := Tryd.underlying3
  a3 := Tryd.isAgg3
  z3 := Tryd.sizeOf3
  v3 := Tryd.zeroValue3
  t4 := Tryd.underlying4
  a4 := Tryd.isAgg4
  z4 := Tryd.sizeOf4
  v4 := Tryd.zeroValue4
  t5 := Tryd.underlying5
  a5 := Tryd.isAgg5
  z5 := Tryd.sizeOf5
  v5 := Tryd.zeroValue5
  t9 := Tryd.underlying9
  a9 := Tryd.isAgg9
  z9 := Tryd.sizeOf9
  v9 := Tryd.zeroValue9
  t28 := Tryd.underlying82
  a28 := Tryd.isAgg82
  z28 := Tryd.sizeOf82
  v28 := Tryd.zeroValue82
  t46 := Tryd.underlying195
  a46 := Tryd.isAgg195
  z46 := Tryd.sizeOf195
  v46 := Tryd.zeroValue195
  t51 := Tryd.underlying227
  a51 := Tryd.isAgg227
  z51 := Tryd.sizeOf227
  v51 := Tryd.zeroValue227
  t53 := Tryd.underlying197
  a53 := Tryd.isAgg197
  z53 := Tryd.sizeOf197
  v53 := Tryd.zeroValue197
  t131 := Tryd.underlying165
  a131 := Tryd.isAgg165
  z131 := Tryd.sizeOf165
  v131 := Tryd.zeroValue165
  t182 := Tryd.underlying220
  a182 := Tryd.isAgg220
  z182 := Tryd.sizeOf220
  v182 := Tryd.zeroValue220
  t183 := Tryd.underlying221
  a183 := Tryd.isAgg221
  z183 := Tryd.sizeOf221
  v183 := Tryd.zeroValue221
  t218 := Tryd.underlying250
  a218 := Tryd.isAgg250
  z218 := Tryd.sizeOf250
  v218 := Tryd.zeroValue250
  t222 := Tryd.underlying254
  a222 := Tryd.isAgg254
  z222 := Tryd.sizeOf254
  v222 := Tryd.zeroValue254
  t228 := Tryd.underlying258
  a228 := Tryd.isAgg258
  z228 := Tryd.sizeOf258
  v228 := Tryd.zeroValue258
  t229 := Tryd.underlying48
  a229 := Tryd.isAgg48
  z229 := Tryd.sizeOf48
  v229 := Tryd.zeroValue48 }
def YtlfpfeidaohjmaaDoor.laysCompact_ren : Go.Shelf.Ren := ⟨fun | 20 => 130 | n => n, fun | 22 => 82 | 3 => 3 | 4 => 4 | 0 => 0 | n => n, fun | n => n⟩
theorem YtlfpfeidaohjmaaDoor.laysCompact : Go.Proofs.Lays2.n20 Tryd.prog YtlfpfeidaohjmaaDoor.laysCompact_ren := {
  mixed := by kernel_rfl
  f20 := Tryd.func130.trans (congrArg some (by kernel_rfl))
  t0 := Tryd.underlying0
  a0 := Tryd.isAgg0
  z0 := Tryd.sizeOf0
  v0 := Tryd.zeroValue0
  t3 := Tryd.underlying3
  a3 := Tryd.isAgg3
  z3 := Tryd.sizeOf3
  v3 := Tryd.zeroValue3
  t4 := Tryd.underlying4
  a4 := Tryd.isAgg4
  z4 := Tryd.sizeOf4
  v4 := Tryd.zeroValue4
  t22 := Tryd.underlying82
  a22 := Tryd.isAgg82
  z22 := Tryd.sizeOf82
  v22 := Tryd.zeroValue82
  i3 := by kernel_rfl }
end Go.Proofs
/-
  DERIVED: THE SHELF's CONTRACTS AT THIS DUMP, IN PLAIN WORDS (tools/lay-plain.mjs out of 'YtlfpfeidaohjmaaDoorShl3.lean', which tools/lay-shelf.mjs wrote): THE SAME DECLARATIONS UNDER THE SAME NAMES: 'import', 'namespace', 'open', 'def', 'theorem' AND NOTHING ELSE: no command of the shelf's: FOR A HAND-IN. Each laying: the table of numbers ('.._ren') and one theorem, a field a fact of the dump's own or the kernel's comparison; each contract: ONE APPLICATION.
-/
namespace Go.Proofs
open Go.Shelf
def YtlfpfeidaohjmaaDoor.laysSortF_ren : Go.Shelf.Ren := ⟨fun | 6 => 98 | 15 => 132 | 14 => 131 | 28 => 159 | 29 => 160 | 20 => 151 | 21 => 152 | 22 => 153 | 23 => 154 | 24 => 155 | 25 => 156 | 26 => 157 | 27 => 158 | 46 => 176 | 47 => 177 | 48 => 178 | 49 => 179 | 50 => 180 | 57 => 184 | n => n, fun | 22 => 109 | 24 => 115 | 25 => 161 | 3 => 3 | 39 => 195 | 0 => 0 | 53 => 227 | 55 => 197 | 4 => 4 | 46 => 221 | 45 => 220 | 50 => 165 | 5 => 5 | 9 => 9 | 66 => 250 | 70 => 254 | 76 => 258 | 77 => 48 | n => n, fun | n => n⟩
theorem YtlfpfeidaohjmaaDoor.laysSortF : Go.Proofs.SlLaysF0.n6 Tryd.prog YtlfpfeidaohjmaaDoor.laysSortF_ren := {
  mixed := by kernel_rfl
  f6 := ⟨Tryd.f98.name, by decide, Tryd.func98.trans (congrArg some (by kernel_rfl))⟩
  f14 := ⟨Tryd.f131.name, by decide, Tryd.func131.trans (congrArg some (by kernel_rfl))⟩
  f15 := Tryd.func132.trans (congrArg some (by kernel_rfl))
  f20 := ⟨Tryd.f151.name, by decide, Tryd.func151.trans (congrArg some (by kernel_rfl))⟩
  f21 := ⟨Tryd.f152.name, by decide, Tryd.func152.trans (congrArg some (by kernel_rfl))⟩
  f22 := ⟨Tryd.f153.name, by decide, Tryd.func153.trans (congrArg some (by kernel_rfl))⟩
  f23 := ⟨Tryd.f154.name, by decide, Tryd.func154.trans (congrArg some (by kernel_rfl))⟩
  f24 := ⟨Tryd.f155.name, by decide, Tryd.func155.trans (congrArg some (by kernel_rfl))⟩
  f25 := ⟨Tryd.f156.name, by decide, Tryd.func156.trans (congrArg some (by kernel_rfl))⟩
  f26 := ⟨Tryd.f157.name, by decide, Tryd.func157.trans (congrArg some (by kernel_rfl))⟩
  f27 := ⟨Tryd.f158.name, by decide, Tryd.func158.trans (congrArg some (by kernel_rfl))⟩
  f28 := Tryd.func159.trans (congrArg some (by kernel_rfl))
  f29 := Tryd.func160.trans (congrArg some (by kernel_rfl))
  f46 := ⟨Tryd.f176.name, by decide, Tryd.func176.trans (congrArg some (by kernel_rfl))⟩
  f47 := Tryd.func177.trans (congrArg some (by kernel_rfl))
  f48 := Tryd.func178.trans (congrArg some (by kernel_rfl))
  f49 := ⟨Tryd.f179.name, by decide, Tryd.func179.trans (congrArg some (by kernel_rfl))⟩
  f50 := ⟨Tryd.f180.name, by decide, Tryd.func180.trans (congrArg some (by kernel_rfl))⟩
  f57 := ⟨Tryd.f184.name, by decide, Tryd.func184.trans (congrArg some (by kernel_rfl))⟩
  t0 := Tryd.underlying0
  a0 := Tryd.isAgg0
  z0 := Tryd.sizeOf0
  v0 := Tryd.zeroValue0
  t3 := Tryd.underlying3
  a3 := Tryd.isAgg3
  z3 := Tryd.sizeOf3
  v3 := Tryd.zeroValue3
  t4 := Tryd.underlying4
  a4 := Tryd.isAgg4
  z4 := Tryd.sizeOf4
  v4 := Tryd.zeroValue4
  t5 := Tryd.underlying5
  a5 := Tryd.isAgg5
  z5 := Tryd.sizeOf5
  v5 := Tryd.zeroValue5
  t9 := Tryd.underlying9
  a9 := Tryd.isAgg9
  z9 := Tryd.sizeOf9
  v9 := Tryd.zeroValue9
  t22 := Tryd.underlying109
  a22 := Tryd.isAgg109
  z22 := Tryd.sizeOf109
  v22 := Tryd.zeroValue109
  t25 := Tryd.underlying161
  a25 := Tryd.isAgg161
  z25 := Tryd.sizeOf161
  v25 := Tryd.zeroValue161
  t39 := Tryd.underlying195
  a39 := Tryd.isAgg195
  z39 := Tryd.sizeOf195
  v39 := Tryd.zeroValue195
  t45 := Tryd.underlying220
  a45 := Tryd.isAgg220
  z45 := Tryd.sizeOf220
  v45 := Tryd.zeroValue220
  t46 := Tryd.underlying221
  a46 := Tryd.isAgg221
  z46 := Tryd.sizeOf221
  v46 := Tryd.zeroValue221
  t50 := Tryd.underlying165
  a50 := Tryd.isAgg165
  z50 := Tryd.sizeOf165
  v50 := Tryd.zeroValue165
  t53 := Tryd.underlying227
  a53 := Tryd.isAgg227
  z53 := Tryd.sizeOf227
  v53 := Tryd.zeroValue227
  t55 := Tryd.underlying197
  a55 := Tryd.isAgg197
  z55 := Tryd.sizeOf197
  v55 := Tryd.zeroValue197
  t66 := Tryd.underlying250
  a66 := Tryd.isAgg250
  z66 := Tryd.sizeOf250
  v66 := Tryd.zeroValue250
  t70 := Tryd.underlying254
  a70 := Tryd.isAgg254
  z70 := Tryd.sizeOf254
  v70 := Tryd.zeroValue254
  t76 := Tryd.underlying258
  a76 := Tryd.isAgg258
  z76 := Tryd.sizeOf258
  v76 := Tryd.zeroValue258
  t77 := Tryd.underlying48
  a77 := Tryd.isAgg48
  z77 := Tryd.sizeOf48
  v77 := Tryd.zeroValue48 }
def YtlfpfeidaohjmaaDoor.laysCmp_ren : Go.Shelf.Ren := ⟨fun | 5 => 101 | 7 => 133 | n => n, fun | 22 => 3 | 3 => 3 | 4 => 4 | n => n, fun | n => n⟩
theorem YtlfpfeidaohjmaaDoor.laysCmp : Go.Proofs.SlLaysC2.n5 Tryd.prog YtlfpfeidaohjmaaDoor.laysCmp_ren := {
  mixed := by kernel_rfl
  f5 := ⟨Tryd.f101.name, by decide, Tryd.func101.trans (congrArg some (by kernel_rfl))⟩
  f7 := ⟨Tryd.f133.name, by decide, Tryd.func133.trans (congrArg some (by kernel_rfl))⟩
  t3 := Tryd.underlying3
  a3 := Tryd.isAgg3
  z3 := Tryd.sizeOf3
  v3 := Tryd.zeroValue3
  t4 := Tryd.underlying4
  a4 := Tryd.isAgg4
  z4 := Tryd.sizeOf4
  v4 := Tryd.zeroValue4
  t22 := Tryd.underlying3
  a22 := Tryd.isAgg3
  z22 := Tryd.sizeOf3
  v22 := Tryd.zeroValue3 }
end Go.Proofs
