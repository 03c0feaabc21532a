/-
  DERIVED: THE SHELF's CONTRACTS AT THIS DUMP, IN PLAIN WORDS (tools/lay-plain.mjs out of 'YtlfpfeidaohjmaaDoorShl2.lean', which tools/lay-shelf.mjs wrote): THE SAME DECLARATIONS UNDER THE SAME NAMES: 'import', 'namespace', 'open', 'def', 'theorem' AND NOTHING ELSE: no command of the shelf's: FOR A HAND-IN. Each laying: the table of numbers ('.._ren') and one theorem, a field a fact of the dump's own or the kernel's comparison; each contract: ONE APPLICATION.
-/
import Derived.Test.YtlfpfeidaohjmaaDoorSen
import Derived.Shelf.Bits.Mul64
import Derived.Shelf.Small.Bits
namespace Go.Proofs
open Go.Shelf
def YtlfpfeidaohjmaaDoor.laysMul64_ren : Go.Shelf.Ren := ⟨fun | 264 => 135 | n => n, fun | 53 => 197 | 46 => 195 | n => n, fun | n => n⟩
theorem YtlfpfeidaohjmaaDoor.laysMul64 : Go.Proofs.Lays.n264 Tryd.prog YtlfpfeidaohjmaaDoor.laysMul64_ren := {
  mixed := by kernel_rfl
  f264 := Tryd.func135.trans (congrArg some (by kernel_rfl))
  t46 := Tryd.underlying195
  a46 := Tryd.isAgg195
  z46 := Tryd.sizeOf195
  v46 := Tryd.zeroValue195
  t53 := Tryd.underlying197
  a53 := Tryd.isAgg197
  z53 := Tryd.sizeOf197
  v53 := Tryd.zeroValue197 }
def YtlfpfeidaohjmaaDoor.laysLz_ren : Go.Shelf.Ren := ⟨fun | 134 => 161 | 129 => 160 | n => n, fun | 53 => 197 | 3 => 3 | 4 => 4 | 46 => 195 | 5 => 5 | 9 => 9 | n => n, fun | n => n⟩
theorem YtlfpfeidaohjmaaDoor.laysLz : Go.Proofs.Lays.n134 Tryd.prog YtlfpfeidaohjmaaDoor.laysLz_ren := {
  mixed := by kernel_rfl
  f129 := Tryd.func160.trans (congrArg some (by kernel_rfl))
  f134 := Tryd.func161.trans (congrArg some (by kernel_rfl))
  t3 := Tryd.underlying3
  a3 := Tryd.isAgg3
  z3 := Tryd.sizeOf3
  v3 := Tryd.zeroValue3
  t4 := Tryd.underlying4
  a4 := Tryd.isAgg4
  z4 := Tryd.sizeOf4
  v4 := Tryd.zeroValue4
  t5 := Tryd.underlying5
  a5 := Tryd.isAgg5
  z5 := Tryd.sizeOf5
  v5 := Tryd.zeroValue5
  t9 := Tryd.underlying9
  a9 := Tryd.isAgg9
  z9 := Tryd.sizeOf9
  v9 := Tryd.zeroValue9
  t46 := Tryd.underlying195
  a46 := Tryd.isAgg195
  z46 := Tryd.sizeOf195
  v46 := Tryd.zeroValue195
  t53 := Tryd.underlying197
  a53 := Tryd.isAgg197
  z53 := Tryd.sizeOf197
  v53 := Tryd.zeroValue197 }
def YtlfpfeidaohjmaaDoor.laysLen_ren : Go.Shelf.Ren := ⟨fun | 125 => 132 | 128 => 159 | 129 => 160 | n => n, fun | 46 => 195 | 3 => 3 | 51 => 227 | 53 => 197 | 4 => 4 | 5 => 5 | 9 => 9 | n => n, fun | n => n⟩
theorem YtlfpfeidaohjmaaDoor.laysLen : Go.Proofs.Lays.n125 Tryd.prog YtlfpfeidaohjmaaDoor.laysLen_ren := {
  mixed := by kernel_rfl
  f125 := Tryd.func132.trans (congrArg some (by kernel_rfl))
  f128 := Tryd.func159.trans (congrArg some (by kernel_rfl))
  f129 := Tryd.func160.trans (congrArg some (by kernel_rfl))
  t3 := Tryd.underlying3
  a3 := Tryd.isAgg3
  z3 := Tryd.sizeOf3
  v3 := Tryd.zeroValue3
  t4 := Tryd.underlying4
  a4 := Tryd.isAgg4
  z4 := Tryd.sizeOf4
  v4 := Tryd.zeroValue4
  t5 := Tryd.underlying5
  a5 := Tryd.isAgg5
  z5 := Tryd.sizeOf5
  v5 := Tryd.zeroValue5
  t9 := Tryd.underlying9
  a9 := Tryd.isAgg9
  z9 := Tryd.sizeOf9
  v9 := Tryd.zeroValue9
  t46 := Tryd.underlying195
  a46 := Tryd.isAgg195
  z46 := Tryd.sizeOf195
  v46 := Tryd.zeroValue195
  t51 := Tryd.underlying227
  a51 := Tryd.isAgg227
  z51 := Tryd.sizeOf227
  v51 := Tryd.zeroValue227
  t53 := Tryd.underlying197
  a53 := Tryd.isAgg197
  z53 := Tryd.sizeOf197
  v53 := Tryd.zeroValue197 }
end Go.Proofs
