/-
  DERIVED: THE SHELF's CONTRACTS AT THIS DUMP, IN PLAIN WORDS (tools/lay-plain.mjs out of 'YtlnbeildplafbaaGreatDoorShl6.lean', which tools/lay-shelf.mjs wrote): THE SAME DECLARATIONS UNDER THE SAME NAMES: 'import', 'namespace', 'open', 'def', 'theorem' AND NOTHING ELSE: no command of the shelf's: FOR A HAND-IN. Each laying: the table of numbers ('.._ren') and one theorem, a field a fact of the dump's own or the kernel's comparison; each contract: ONE APPLICATION.
-/
import Derived.Test.YtlnbeildplafbaaGreatDoorProg
import Derived.Shelf.Bits.Mul64
import Derived.Shelf.Small.Bits
namespace Go.Proofs
open Go.Shelf
def YtlnbeildplafbaaGreatDoor.laysMul64_ren : Go.Shelf.Ren := ⟨fun | 264 => 160 | n => n, fun | 53 => 117 | 46 => 118 | n => n, fun | n => n⟩
theorem YtlnbeildplafbaaGreatDoor.laysMul64 : Go.Proofs.Lays.n264 Tryz.prog YtlnbeildplafbaaGreatDoor.laysMul64_ren := {
  mixed := by kernel_rfl
  f264 := Tryz.func160.trans (congrArg some (by kernel_rfl))
  t46 := Tryz.underlying118
  a46 := Tryz.isAgg118
  z46 := Tryz.sizeOf118
  v46 := Tryz.zeroValue118
  t53 := Tryz.underlying117
  a53 := Tryz.isAgg117
  z53 := Tryz.sizeOf117
  v53 := Tryz.zeroValue117 }
end Go.Proofs
