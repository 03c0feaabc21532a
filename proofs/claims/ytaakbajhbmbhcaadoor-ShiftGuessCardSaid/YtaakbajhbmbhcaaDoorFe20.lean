/- How long a mild vector is. Nothing of a program stands here. -/
import Derived.Test.YtaakbajhbmbhcaaDoorFe16
set_option linter.unusedSimpArgs false
set_option linter.unusedVariables false
namespace Go.Fe
open Ieee

/-! How long a mild vector is, as it is worked out. -/
/-- 0, or neither too small nor too big. -/
def Md (x : Rat) : Prop := x = 0 ∨ (two (-300) ≤ ab x ∧ ab x ≤ two 300)
theorem ab_sq (x : Rat) : ab x * ab x = x * x := by unfold ab; split <;> grind
theorem sq_err {x : Nat} (hx : Fn x) (hm : Md (V x)) : ∃ p, Fl.fmul (some x) (some x) = some p ∧ Fn p ∧ Nr (V p) (V x * V x) (101 / 100 * U * (V x * V x)) ∧ V x * V x ≤ two 600 := by
  have xx := sq_nonneg (V x)
  have hb : V x * V x ≤ two 600 := by
    rcases hm with h | ⟨_, h⟩
    · rw [h]; have := two_pos 600; grind
    · have a0 := (ab_le (V x)).2.2
      have h1 := Rat.mul_le_mul_of_nonneg_right h a0
      have h2 := Rat.mul_le_mul_of_nonneg_left h (Rat.le_of_lt (two_pos 300))
      rw [← two_add] at h2
      rw [← ab_sq]
      exact Rat.le_trans h1 h2
  have h9 : two 600 ≤ two 900 := two_le (by decide)
  obtain ⟨p, hp, fp, hz, np⟩ := mul_err hx hx (Rat.le_trans hb h9) (by have := two_pos 900; grind)
  refine ⟨p, hp, fp, ?_, hb⟩
  rcases hm with h | ⟨h, _⟩
  · have z : V x * V x = 0 := by rw [h]; grind
    rw [hz z, z]
    exact ⟨by grind, by grind⟩
  · obtain ⟨p1, p2⟩ := np (V x * V x) Rat.le_refl (by grind)
    have h1 : two (-600) ≤ V x * V x := by
      have a0 := (ab_le (V x)).2.2
      have h1 := Rat.mul_le_mul_of_nonneg_right h a0
      have h2 := Rat.mul_le_mul_of_nonneg_left h (Rat.le_of_lt (two_pos (-300)))
      rw [← two_add] at h2
      rw [← ab_sq]
      exact Rat.le_trans h2 h1
    have h2 : two (-1075) ≤ 1 / 100 * U * (V x * V x) := by
      have k := Rat.mul_le_mul_of_nonneg_left h1 (show 0 ≤ two (-100) from Rat.le_of_lt (two_pos _))
      rw [← two_add] at k
      have k2 : two (-100) ≤ 1 / 100 * U := by decide +kernel
      have k3 := Rat.mul_le_mul_of_nonneg_right k2 xx
      have k4 : two (-1075) ≤ two (-100 + -600) := two_le (by decide)
      grind
    exact ⟨by grind, by grind⟩
theorem len_err {x y z : Nat} (fx : Fn x) (fy : Fn y) (fz : Fn z) (mx : Md (V x)) (my : Md (V y)) (mz : Md (V z)) :
    ∃ n, Fl.fsqrt (Fl.fadd (Fl.fadd (Fl.fmul (some x) (some x)) (Fl.fmul (some y) (some y))) (Fl.fmul (some z) (some z))) = some n ∧ Fn n ∧ 0 ≤ V n ∧
      Nr (V n * V n) (V x * V x + V y * V y + V z * V z) (63 / 10 * U * (V x * V x + V y * V y + V z * V z)) := by
  obtain ⟨p, hp, fp, ⟨p1, p2⟩, bx⟩ := sq_err fx mx
  obtain ⟨q, hq, fq, ⟨q1, q2⟩, by'⟩ := sq_err fy my
  obtain ⟨r, hr, fr, ⟨r1, r2⟩, bz⟩ := sq_err fz mz
  have x0 := sq_nonneg (V x)
  have y0 := sq_nonneg (V y)
  have z0 := sq_nonneg (V z)
  have hU := U_pos
  have hU1 : U ≤ 1 / 100000 := by decide +kernel
  have h9 : 10 * two 600 ≤ two 900 := by decide +kernel
  generalize V x * V x = X at *
  generalize V y * V y = Y at *
  generalize V z * V z = Z at *
  have u1 := Rat.mul_nonneg (Rat.le_of_lt hU) x0
  have u2 := Rat.mul_nonneg (Rat.le_of_lt hU) y0
  have u3 := Rat.mul_nonneg (Rat.le_of_lt hU) z0
  have v1 := Rat.mul_le_mul_of_nonneg_right hU1 x0
  have v2 := Rat.mul_le_mul_of_nonneg_right hU1 y0
  have v3 := Rat.mul_le_mul_of_nonneg_right hU1 z0
  obtain ⟨a, ha, fa, na⟩ := add_err fp fq (by grind) (by grind)
  obtain ⟨a1, a2⟩ := na (101 / 100 * (X + Y)) (by grind) (by grind)
  obtain ⟨b, hb, fb, nb⟩ := add_err fa fr (by grind) (by grind)
  obtain ⟨b1, b2⟩ := nb (102 / 100 * (X + Y + Z)) (by grind) (by grind)
  have w1 : V b - (X + Y + Z) ≤ 31 / 10 * U * (X + Y + Z) := by grind
  have w2 : (X + Y + Z) - V b ≤ 31 / 10 * U * (X + Y + Z) := by grind
  obtain ⟨T, hT⟩ : ∃ T, X + Y + Z = T := ⟨_, rfl⟩
  rw [hT] at w1 w2 ⊢
  have T0 : 0 ≤ T := by grind
  have UT := Rat.mul_le_mul_of_nonneg_right hU1 T0
  have UT0 := Rat.mul_nonneg (Rat.le_of_lt hU) T0
  have Tb : T ≤ 3 * two 600 := by grind
  clear a1 a2 b1 b2 na nb p1 p2 q1 q2 r1 r2
  obtain ⟨n, hn, fn, n0, s1, s2⟩ := sqrt_err3 fb (by grind) (by grind)
  refine ⟨n, ?_, fn, n0, ?_⟩
  · rw [hp, hq, hr]
    show Fl.fsqrt (Fl.fadd (double.add p q) (some r)) = some n
    rw [ha]
    show Fl.fsqrt (double.add a r) = some n
    rw [hb]
    exact hn
  · have nn := sq_nonneg (V n)
    generalize V n * V n = N at *
    generalize V b = B at *
    have k1 : U * B ≤ U * (1001 / 1000 * T) := Rat.mul_le_mul_of_nonneg_left (by grind) (Rat.le_of_lt hU)
    have N1 : N ≤ 1001 / 1000 * T := by grind
    have k2 : U * N ≤ U * (1001 / 1000 * T) := Rat.mul_le_mul_of_nonneg_left N1 (Rat.le_of_lt hU)
    exact ⟨by grind, by grind⟩
end Go.Fe
