/- Rotations by rationals. Nothing of a program stands here. -/
import Derived.Test.YtdnclgpjcgamgaaDoorFe16
set_option linter.unusedSimpArgs false
set_option linter.unusedVariables false
namespace Go.Fe

/-! Rotations by rationals: a matrix out of four numbers, its way back, its rows. -/
/-- The matrix, row by row. -/
def r11 (w x y z : Rat) : Rat := 1 - 2 * (y * y + z * z)
def r12 (w x y z : Rat) : Rat := 2 * (x * y - w * z)
def r13 (w x y z : Rat) : Rat := 2 * (x * z + w * y)
def r21 (w x y z : Rat) : Rat := 2 * (x * y + w * z)
def r22 (w x y z : Rat) : Rat := 1 - 2 * (x * x + z * z)
def r23 (w x y z : Rat) : Rat := 2 * (y * z - w * x)
def r31 (w x y z : Rat) : Rat := 2 * (x * z - w * y)
def r32 (w x y z : Rat) : Rat := 2 * (y * z + w * x)
def r33 (w x y z : Rat) : Rat := 1 - 2 * (x * x + y * y)
def nrmQ (w x y z : Rat) : Rat := w * w + x * x + y * y + z * z
theorem dot12 (w x y z : Rat) : r11 w x y z * r21 w x y z + r12 w x y z * r22 w x y z + r13 w x y z * r23 w x y z = 4 * (1 - nrmQ w x y z) * (x * y) := by
  unfold r11 r12 r13 r21 r22 r23 nrmQ; grind
theorem dot23 (w x y z : Rat) : r21 w x y z * r31 w x y z + r22 w x y z * r32 w x y z + r23 w x y z * r33 w x y z = 4 * (1 - nrmQ w x y z) * (y * z) := by
  unfold r31 r32 r33 r21 r22 r23 nrmQ; grind
theorem dot31 (w x y z : Rat) : r31 w x y z * r11 w x y z + r32 w x y z * r12 w x y z + r33 w x y z * r13 w x y z = 4 * (1 - nrmQ w x y z) * (z * x) := by
  unfold r31 r32 r33 r11 r12 r13 nrmQ; grind
theorem row1 (w x y z : Rat) : r11 w x y z * r11 w x y z + r12 w x y z * r12 w x y z + r13 w x y z * r13 w x y z = 1 - 4 * (1 - nrmQ w x y z) * (y * y + z * z) := by
  unfold r11 r12 r13 nrmQ; grind
theorem row2 (w x y z : Rat) : r21 w x y z * r21 w x y z + r22 w x y z * r22 w x y z + r23 w x y z * r23 w x y z = 1 - 4 * (1 - nrmQ w x y z) * (x * x + z * z) := by
  unfold r21 r22 r23 nrmQ; grind
theorem row3 (w x y z : Rat) : r31 w x y z * r31 w x y z + r32 w x y z * r32 w x y z + r33 w x y z * r33 w x y z = 1 - 4 * (1 - nrmQ w x y z) * (x * x + y * y) := by
  unfold r31 r32 r33 nrmQ; grind
/-- Columns, for the way back. -/
theorem col1 (w x y z : Rat) : r11 w x y z * r11 w x y z + r21 w x y z * r21 w x y z + r31 w x y z * r31 w x y z = 1 - 4 * (1 - nrmQ w x y z) * (y * y + z * z) := by
  unfold r11 r21 r31 nrmQ; grind
theorem col2 (w x y z : Rat) : r12 w x y z * r12 w x y z + r22 w x y z * r22 w x y z + r32 w x y z * r32 w x y z = 1 - 4 * (1 - nrmQ w x y z) * (x * x + z * z) := by
  unfold r12 r22 r32 nrmQ; grind
theorem col3 (w x y z : Rat) : r13 w x y z * r13 w x y z + r23 w x y z * r23 w x y z + r33 w x y z * r33 w x y z = 1 - 4 * (1 - nrmQ w x y z) * (x * x + y * y) := by
  unfold r13 r23 r33 nrmQ; grind
theorem col12 (w x y z : Rat) : r11 w x y z * r12 w x y z + r21 w x y z * r22 w x y z + r31 w x y z * r32 w x y z = 4 * (1 - nrmQ w x y z) * (x * y) := by
  unfold r11 r21 r31 r12 r22 r32 nrmQ; grind
theorem col23 (w x y z : Rat) : r12 w x y z * r13 w x y z + r22 w x y z * r23 w x y z + r32 w x y z * r33 w x y z = 4 * (1 - nrmQ w x y z) * (y * z) := by
  unfold r13 r23 r33 r12 r22 r32 nrmQ; grind
theorem col31 (w x y z : Rat) : r13 w x y z * r11 w x y z + r23 w x y z * r21 w x y z + r33 w x y z * r31 w x y z = 4 * (1 - nrmQ w x y z) * (z * x) := by
  unfold r13 r23 r33 r11 r21 r31 nrmQ; grind
theorem cauchy (a b c x y z : Rat) : (a * x + b * y + c * z) * (a * x + b * y + c * z) ≤ (a * a + b * b + c * c) * (x * x + y * y + z * z) := by
  have h1 := sq_nonneg (a * y - b * x)
  have h2 := sq_nonneg (b * z - c * y)
  have h3 := sq_nonneg (c * x - a * z)
  grind
end Go.Fe
