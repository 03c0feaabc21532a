/- The size of four numbers. Nothing of a program stands here. -/
import Derived.Test.YtdnclgpjcgamgaaFe27
import Derived.Test.YtdnclgpjcgamgaaFe20
set_option linter.unusedSimpArgs false
set_option linter.unusedVariables false
namespace Go.Fe
open Ieee

/-! The size of four numbers, as it is worked out. -/
theorem len4_err {x y z u : Nat} (fx : Fn x) (fy : Fn y) (fz : Fn z) (fu : Fn u) (mx : Md (V x)) (my : Md (V y)) (mz : Md (V z)) (mu : Md (V u)) :
    ∃ n, Fl.fsqrt (Fl.fadd (Fl.fadd (Fl.fadd (Fl.fmul (some x) (some x)) (Fl.fmul (some y) (some y))) (Fl.fmul (some z) (some z))) (Fl.fmul (some u) (some u))) = some n ∧ Fn n ∧ 0 ≤ V n ∧
      Nr (V n * V n) (V x * V x + V y * V y + V z * V z + V u * V u) (75 / 10 * U * (V x * V x + V y * V y + V z * V z + V u * V u)) := by
  obtain ⟨p, hp, fp, ⟨p1, p2⟩, bx⟩ := sq_err fx mx
  obtain ⟨q, hq, fq, ⟨q1, q2⟩, by'⟩ := sq_err fy my
  obtain ⟨r, hr, fr, ⟨r1, r2⟩, bz⟩ := sq_err fz mz
  obtain ⟨s, hs, fs, ⟨s1, s2⟩, bu⟩ := sq_err fu mu
  have x0 := sq_nonneg (V x)
  have y0 := sq_nonneg (V y)
  have z0 := sq_nonneg (V z)
  have u0 := sq_nonneg (V u)
  have hU := U_pos
  have hU1 : U ≤ 1 / 100000 := by decide +kernel
  have h9 : 10 * two 600 ≤ two 900 := by decide +kernel
  generalize V x * V x = X at *
  generalize V y * V y = Y at *
  generalize V z * V z = Z at *
  generalize V u * V u = W at *
  have u1 := Rat.mul_nonneg (Rat.le_of_lt hU) x0
  have u2 := Rat.mul_nonneg (Rat.le_of_lt hU) y0
  have u3 := Rat.mul_nonneg (Rat.le_of_lt hU) z0
  have u4 := Rat.mul_nonneg (Rat.le_of_lt hU) u0
  have v1 := Rat.mul_le_mul_of_nonneg_right hU1 x0
  have v2 := Rat.mul_le_mul_of_nonneg_right hU1 y0
  have v3 := Rat.mul_le_mul_of_nonneg_right hU1 z0
  have v4 := Rat.mul_le_mul_of_nonneg_right hU1 u0
  obtain ⟨a, ha, fa, na⟩ := add_err fp fq (by grind) (by grind)
  obtain ⟨a1, a2⟩ := na (101 / 100 * (X + Y)) (by grind) (by grind)
  obtain ⟨b, hb, fb, nb⟩ := add_err fa fr (by grind) (by grind)
  obtain ⟨b1, b2⟩ := nb (102 / 100 * (X + Y + Z)) (by grind) (by grind)
  obtain ⟨c, hc, fc, nc⟩ := add_err fb fs (by grind) (by grind)
  obtain ⟨c1, c2⟩ := nc (103 / 100 * (X + Y + Z + W)) (by grind) (by grind)
  have w1 : V c - (X + Y + Z + W) ≤ 42 / 10 * U * (X + Y + Z + W) := by grind
  have w2 : (X + Y + Z + W) - V c ≤ 42 / 10 * U * (X + Y + Z + W) := by grind
  obtain ⟨T, hT⟩ : ∃ T, X + Y + Z + W = T := ⟨_, rfl⟩
  rw [hT] at w1 w2 ⊢
  have T0 : 0 ≤ T := by grind
  have UT := Rat.mul_le_mul_of_nonneg_right hU1 T0
  have UT0 := Rat.mul_nonneg (Rat.le_of_lt hU) T0
  have Tb : T ≤ 4 * two 600 := by grind
  clear a1 a2 b1 b2 c1 c2 na nb nc p1 p2 q1 q2 r1 r2 s1 s2
  obtain ⟨n, hn, fn, n0, s1, s2⟩ := sqrt_err3 fc (by grind) (by grind)
  refine ⟨n, ?_, fn, n0, ?_⟩
  · rw [hp, hq, hr, hs]
    show Fl.fsqrt (Fl.fadd (Fl.fadd (double.add p q) (some r)) (some s)) = some n
    rw [ha]
    show Fl.fsqrt (Fl.fadd (double.add a r) (some s)) = some n
    rw [hb]
    show Fl.fsqrt (double.add b s) = some n
    rw [hc]
    exact hn
  · have nn := sq_nonneg (V n)
    generalize V n * V n = N at *
    generalize V c = B at *
    have k1 : U * B ≤ U * (1001 / 1000 * T) := Rat.mul_le_mul_of_nonneg_left (by grind) (Rat.le_of_lt hU)
    have N1 : N ≤ 1001 / 1000 * T := by grind
    have k2 : U * N ≤ U * (1001 / 1000 * T) := Rat.mul_le_mul_of_nonneg_left N1 (Rat.le_of_lt hU)
    exact ⟨by grind, by grind⟩
end Go.Fe
