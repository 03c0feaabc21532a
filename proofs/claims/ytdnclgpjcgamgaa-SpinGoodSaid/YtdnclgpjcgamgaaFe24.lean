/- The sum of the squares of a unit. Nothing of a program stands here. -/
import Derived.Test.YtdnclgpjcgamgaaFe23
set_option linter.unusedSimpArgs false
set_option linter.unusedVariables false
namespace Go.Fe
open Ieee

/-! A unit: the sum of the squares of what a size goes into. -/
theorem unit_sum {T N S : Rat} (n0 : 0 < N) (hn : Nr (N * N) T (63 / 10 * U * T)) (hT : 0 ≤ T) (hs : S * (N * N) = T) : Nr S 1 (64 / 10 * U) := by
  obtain ⟨h1, h2⟩ := hn
  have nn := Rat.mul_pos n0 n0
  generalize N * N = M at *
  have hU := U_pos
  have hU1 : U ≤ 1 / 1000 := by decide +kernel
  have UT := Rat.mul_nonneg (Rat.le_of_lt hU) hT
  have u1 : U * T ≤ 1 / 1000 * T := Rat.mul_le_mul_of_nonneg_right hU1 hT
  have T1 : T ≤ 101 / 100 * M := by grind
  have u2 : U * T ≤ U * (101 / 100 * M) := Rat.mul_le_mul_of_nonneg_left T1 (Rat.le_of_lt hU)
  have T2 : T ≤ M + 63 / 10 * (U * T) := by grind
  have u3 : U * T ≤ U * (M + 63 / 10 * (U * T)) := Rat.mul_le_mul_of_nonneg_left T2 (Rat.le_of_lt hU)
  have u4 : U * (U * T) ≤ U * (1 / 1000 * T) := Rat.mul_le_mul_of_nonneg_left u1 (Rat.le_of_lt hU)
  have u5 : U * (1 / 1000 * T) ≤ 1 / 1000 * (U * (101 / 100 * M)) := by grind
  constructor
  · refine Rat.not_lt.mp fun h => ?_
    have k := Rat.mul_pos (show 0 < S - 1 - 64 / 10 * U by grind) nn
    grind
  · refine Rat.not_lt.mp fun h => ?_
    have k := Rat.mul_pos (show 0 < 1 - S - 64 / 10 * U by grind) nn
    grind
end Go.Fe
