/- Twice a sum, or a difference, of two products. Nothing of a program stands here. -/
import Derived.Test.YtdnclgpjcgamgaaDoorFe22
set_option linter.unusedSimpArgs false
set_option linter.unusedVariables false
namespace Go.Fe
open Ieee

/-! Twice a sum, or a difference, of two products. -/
theorem pair_err {p q r s : Nat} {a b : Rat} (fp : Fn p) (fq : Fn q) (fr : Fn r) (fs : Fn s) (h1 : V p * V q ≤ a) (h2 : -a ≤ V p * V q) (h3 : V r * V s ≤ b) (h4 : -b ≤ V r * V s) (ha : a ≤ 2) (hb : b ≤ 2) :
    (∃ t, Fl.fmul (Fl.fl 4611686018427387904) (Fl.fadd (Fl.fmul (some p) (some q)) (Fl.fmul (some r) (some s))) = some t ∧ Fn t ∧ Nr (V t) (2 * (V p * V q + V r * V s)) (4 * U * (a + b) + 20 * (U * U))) ∧
    (∃ t, Fl.fmul (Fl.fl 4611686018427387904) (Fl.fsub (Fl.fmul (some p) (some q)) (Fl.fmul (some r) (some s))) = some t ∧ Fn t ∧ Nr (V t) (2 * (V p * V q - V r * V s)) (4 * U * (a + b) + 20 * (U * U))) := by
  have k9 := big_900
  have k8 : (1000000 : Rat) ≤ two 800 := by
    have h1 := two_le (show (20 : Int) ≤ 800 by decide)
    have h2 : (1000000 : Rat) ≤ two 20 := by decide +kernel
    exact Rat.le_trans h2 h1
  have hU := U_pos
  have hη : two (-1075) ≤ 1 / 100 * (U * U) := by decide +kernel
  have η0 := two_pos (-1075)
  have hU1 : U ≤ 1 / 1000 := by decide +kernel
  have UU : U * U ≤ 1 / 1000 * U := Rat.mul_le_mul_of_nonneg_right hU1 (Rat.le_of_lt hU)
  obtain ⟨x, hx, fx, _, nx⟩ := mul_err fp fq (by grind) (by grind)
  obtain ⟨y, hy, fy, _, ny⟩ := mul_err fr fs (by grind) (by grind)
  obtain ⟨x1, x2⟩ := nx a h1 (by grind)
  obtain ⟨y1, y2⟩ := ny b h3 (by grind)
  generalize two (-1075) = η at *
  generalize V p * V q = A at *
  generalize V r * V s = B at *
  have a0 : 0 ≤ a := by grind
  have b0 : 0 ≤ b := by grind
  have ua : U * a ≤ U * 2 := Rat.mul_le_mul_of_nonneg_left ha (Rat.le_of_lt hU)
  have ub : U * b ≤ U * 2 := Rat.mul_le_mul_of_nonneg_left hb (Rat.le_of_lt hU)
  have M1 : V x + V y ≤ a + b + 5 * U := by grind
  have M2 : -(V x + V y) ≤ a + b + 5 * U := by grind
  have M3 : V x - V y ≤ a + b + 5 * U := by grind
  have M4 : -(V x - V y) ≤ a + b + 5 * U := by grind
  constructor
  · obtain ⟨z, hz, fz, nz⟩ := add_err fx fy (by grind) (by grind)
    obtain ⟨z1, z2⟩ := nz _ M1 M2
    obtain ⟨t, ht, ft, vt⟩ := mul_two fz (by grind) (by grind)
    refine ⟨t, ?_, ft, ?_⟩
    · show Fl.fmul _ (Fl.fadd (double.mul p q) (double.mul r s)) = _
      rw [hx, hy]
      show Fl.fmul _ (double.add x y) = _
      rw [hz]
      exact ht
    · rw [vt]; exact ⟨by grind, by grind⟩
  · obtain ⟨z, hz, fz, nz⟩ := sub_err fx fy (by grind) (by grind)
    obtain ⟨z1, z2⟩ := nz _ M3 M4
    obtain ⟨t, ht, ft, vt⟩ := mul_two fz (by grind) (by grind)
    refine ⟨t, ?_, ft, ?_⟩
    · show Fl.fmul _ (Fl.fsub (double.mul p q) (double.mul r s)) = _
      rw [hx, hy]
      show Fl.fmul _ (double.sub x y) = _
      rw [hz]
      exact ht
    · rw [vt]; exact ⟨by grind, by grind⟩
end Go.Fe
