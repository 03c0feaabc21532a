/- A float by a size. Nothing of a program stands here. -/
import Derived.Test.YtdnclgpjcgamgaaFe18
import Derived.Test.YtdnclgpjcgamgaaFe20
set_option linter.unusedSimpArgs false
set_option linter.unusedVariables false
namespace Go.Fe
open Ieee

/-! A part of a unit: a float by a size. -/
/-- The square of what is near. -/
theorem part_sq {r u a : Rat} (ha : a = ab u) (hu : a ≤ 2) (h : Nr r u (16 / 10 * U * a + two (-1075))) : Nr (r * r) (u * u) (33 / 10 * U * (u * u) + U * U) := by
  obtain ⟨h1, h2⟩ := h
  have a0 : 0 ≤ a := by rw [ha]; exact (ab_le u).2.2
  have au : a * a = u * u := by rw [ha]; exact ab_sq u
  obtain ⟨u1, u2, _⟩ := ab_le u
  rw [← ha] at u1 u2
  obtain ⟨p, hp⟩ : ∃ p, r - u = p := ⟨_, rfl⟩
  have er : r = u + p := by grind
  have hη : two (-1075) ≤ 1 / 100 * (U * U) := by decide +kernel
  have η0 := two_pos (-1075)
  have hU := U_pos
  have hUs : U ≤ 1 / 1000 := by decide +kernel
  generalize two (-1075) = η at *
  have e : r * r - u * u = 2 * (u * p) + p * p := by rw [er]; grind
  obtain ⟨m1, m2⟩ := mul_size (a := u) (b := p) (A := a) (B := 16 / 10 * U * a + η) u1 (by grind) (by grind) (by grind)
  obtain ⟨n1, n2⟩ := mul_size (a := p) (b := p) (A := 16 / 10 * U * a + η) (B := 16 / 10 * U * a + η) (by grind) (by grind) (by grind) (by grind)
  have k1 : a * η ≤ 2 * η := Rat.mul_le_mul_of_nonneg_right hu (Rat.le_of_lt η0)
  have k2 : U * (U * (a * a)) ≤ U * (1 / 1000 * (a * a)) := Rat.mul_le_mul_of_nonneg_left (Rat.mul_le_mul_of_nonneg_right hUs (Rat.mul_nonneg a0 a0)) (Rat.le_of_lt hU)
  have k3 : U * (a * η) ≤ 1 / 1000 * (a * η) := Rat.mul_le_mul_of_nonneg_right hUs (Rat.mul_nonneg a0 (Rat.le_of_lt η0))
  have k4 : η * η ≤ η * 1 := Rat.mul_le_mul_of_nonneg_left (by
    have : U * U ≤ 1 := by decide +kernel
    grind) (Rat.le_of_lt η0)
  have k5 := Rat.mul_nonneg (Rat.le_of_lt hU) (Rat.mul_nonneg a0 a0)
  have e2 : a * (16 / 10 * U * a + η) = 16 / 10 * (U * (a * a)) + a * η := by grind
  have e3 : (16 / 10 * U * a + η) * (16 / 10 * U * a + η) = 256 / 100 * (U * (U * (a * a))) + 32 / 10 * (U * (a * η)) + η * η := by grind
  rw [e2] at m1 m2
  rw [e3] at n1 n2
  have e4 : U * (u * u) = U * (a * a) := by rw [au]
  exact ⟨by grind, by grind⟩
/-- The quotient by a size. -/
theorem part_of {x n : Nat} (fx : Fn x) (fn : Fn n) (n0 : 0 < V n) (hb : ab (V x) ≤ two 800 * V n) :
    ∃ r, Fl.fdiv (some x) (some n) = some r ∧ Fn r ∧ Nr (V r) (V x / V n) (16 / 10 * U * ab (V x / V n) + two (-1075)) := by
  have an : ab (V n) = V n := by unfold ab; rw [if_pos (Rat.le_of_lt n0)]
  obtain ⟨r, hr, fr, h1, h2⟩ := div_err fx fn (by grind) (by rw [an]; exact hb)
  rw [an] at h1 h2
  obtain ⟨u, hu⟩ : ∃ u, V x / V n = u := ⟨_, rfl⟩
  have hx : V x = u * V n := by rw [← hu]; exact (Rat.div_mul_cancel (by grind)).symm
  refine ⟨r, hr, fr, ?_⟩
  rw [hu]
  have hab : ab (V x) = ab u * V n := by
    rw [hx]
    unfold ab
    by_cases h : 0 ≤ u
    · rw [if_pos h, if_pos (Rat.mul_nonneg h (Rat.le_of_lt n0))]
    · have k : 0 < -u * V n := Rat.mul_pos (by grind) n0
      rw [if_neg h, if_neg (by grind)]
      grind
  rw [hab, hx] at h1 h2
  generalize V n = N at *
  constructor
  · refine Rat.not_lt.mp fun h => ?_
    have k := Rat.mul_pos (show 0 < V r - u - (16 / 10 * U * ab u + two (-1075)) by grind) n0
    grind
  · refine Rat.not_lt.mp fun h => ?_
    have k := Rat.mul_pos (show 0 < u - V r - (16 / 10 * U * ab u + two (-1075)) by grind) n0
    grind
end Go.Fe
