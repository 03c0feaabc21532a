/- One less twice a sum. Nothing of a program stands here. -/
import Derived.Test.YtdnclgpjcgamgaaDoorFe25
set_option linter.unusedSimpArgs false
set_option linter.unusedVariables false
namespace Go.Fe
open Ieee

/-! One less twice a sum. -/
theorem diag_err {p r t : Nat} (a : Rat) (h1 : V p * V p + V r * V r ≤ a) (ha : a ≤ 101 / 100) (ft : Fn t) (ht : Nr (V t) (2 * (V p * V p + V r * V r)) (4 * U * a + 20 * (U * U))) :
    ∃ d, Fl.fsub (Fl.fl 4607182418800017408) (some t) = some d ∧ Fn d ∧ Nr (V d) (1 - 2 * (V p * V p + V r * V r)) (4 * U * a + 103 / 100 * U + 100 * (U * U)) := by
  have k9 := big_900
  have hU := U_pos
  have hU1 : U ≤ 1 / 100000 := by decide +kernel
  have UU : U * U ≤ 1 / 100000 * U := Rat.mul_le_mul_of_nonneg_right hU1 (Rat.le_of_lt hU)
  have UU0 : 0 ≤ U * U := Rat.mul_nonneg (Rat.le_of_lt hU) (Rat.le_of_lt hU)
  have pp := sq_nonneg (V p)
  have rr := sq_nonneg (V r)
  generalize V p * V p = P at *
  generalize V r * V r = R at *
  have f1 : Fn 4607182418800017408 := fn_of (by decide +kernel)
  have v1 : V 4607182418800017408 = 1 := by decide +kernel
  have e1 : Fl.fl 4607182418800017408 = some 4607182418800017408 := by decide +kernel
  have ua : U * a ≤ U * (101 / 100) := Rat.mul_le_mul_of_nonneg_left ha (Rat.le_of_lt hU)
  obtain ⟨t1, t2⟩ := ht
  obtain ⟨d, hd, fd, nd⟩ := sub_err f1 ft (by rw [v1]; grind) (by rw [v1]; grind)
  obtain ⟨d1, d2⟩ := nd (103 / 100) (by rw [v1]; grind) (by rw [v1]; grind)
  rw [v1] at d1 d2
  refine ⟨d, ?_, fd, ⟨by grind, by grind⟩⟩
  rw [e1]
  exact hd
end Go.Fe
