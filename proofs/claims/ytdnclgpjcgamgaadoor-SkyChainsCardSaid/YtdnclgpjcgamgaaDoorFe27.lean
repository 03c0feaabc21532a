/- Sizes from squares. Nothing of a program stands here. -/
import Derived.Test.YtdnclgpjcgamgaaDoorFe26
import Derived.Test.YtdnclgpjcgamgaaDoorFe19
set_option linter.unusedSimpArgs false
set_option linter.unusedVariables false
namespace Go.Fe
open Ieee

/-! The size of four numbers' sum of squares, and what a Cauchy bound gives. -/
theorem abs_le_of_sq {x m : Rat} (m0 : 0 ≤ m) (h : x * x ≤ m * m) : x ≤ m ∧ -m ≤ x := by
  constructor
  · refine Rat.not_lt.mp fun hx => ?_
    have k1 : 0 < (x - m) * (x + m) := Rat.mul_pos (by grind) (by grind)
    grind
  · refine Rat.not_lt.mp fun hx => ?_
    have k1 : 0 < (-x - m) * (-x + m) := Rat.mul_pos (by grind) (by grind)
    grind
/-- Three sizes against their squares. -/
theorem three_sum {a b c m : Rat} (m0 : 0 ≤ m) (h : a * a + b * b + c * c ≤ m * m) : a + b + c ≤ 174 / 100 * m := by
  have h1 := sq_nonneg (a - b)
  have h2 := sq_nonneg (b - c)
  have h3 := sq_nonneg (c - a)
  have k : (a + b + c) * (a + b + c) ≤ 174 / 100 * m * (174 / 100 * m) := by
    have := Rat.mul_nonneg m0 m0
    grind
  exact (abs_le_of_sq (by grind) k).1
end Go.Fe
