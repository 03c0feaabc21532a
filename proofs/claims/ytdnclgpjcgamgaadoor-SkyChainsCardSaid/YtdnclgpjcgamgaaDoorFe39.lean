/- An angle and the same one backward: what they make. Nothing of a program stands here. -/
import Derived.Test.YtdnclgpjcgamgaaDoorFe38
set_option linter.unusedSimpArgs false
set_option linter.unusedVariables false
namespace Go.Fe
open Ieee Fl

/-! An angle, and the same one backward. -/
theorem nrm_back (k : Int) : (Tr.rst k = -162000000000 ∧ Tr.rst (-Tr.nrm k) = -162000000000 ∧ Tr.qrt (-Tr.nrm k) % 4 = (5 - Tr.qrt k) % 4) ∨ (Tr.rst (-Tr.nrm k) = -Tr.rst k ∧ Tr.qrt (-Tr.nrm k) % 4 = (4 - Tr.qrt k) % 4) := by
  unfold Tr.rst Tr.qrt Tr.nrm
  omega
theorem comp_unit (k : Int) : Nr (cosR k * cosR (-Tr.nrm k) - sinR k * sinR (-Tr.nrm k)) 1 (2 / 10000000000000000) ∧ Nr (sinR k * cosR (-Tr.nrm k) + cosR k * sinR (-Tr.nrm k)) 0 (4 / 10000000000000000) := by
  rcases nrm_back k with ⟨h1, h2, h3⟩ | ⟨h1, h2⟩
  · unfold cosR sinR quadR
    rw [h1, h2, h3]
    have hq : Tr.qrt k % 4 = 0 ∧ (5 - Tr.qrt k) % 4 = 1 ∨ Tr.qrt k % 4 = 1 ∧ (5 - Tr.qrt k) % 4 = 0 ∨ Tr.qrt k % 4 = 2 ∧ (5 - Tr.qrt k) % 4 = 3 ∨ Tr.qrt k % 4 = 3 ∧ (5 - Tr.qrt k) % 4 = 2 := by omega
    rcases hq with ⟨q1, q2⟩ | ⟨q1, q2⟩ | ⟨q1, q2⟩ | ⟨q1, q2⟩ <;> rw [q1, q2] <;> exact ⟨⟨by decide +kernel, by decide +kernel⟩, ⟨by decide +kernel, by decide +kernel⟩⟩
  · have e : ((-Tr.rst k : Int) : Rat) * rad = -((Tr.rst k : Rat) * rad) := by rw [Rat.intCast_neg]; grind
    obtain ⟨u1, u2⟩ := sinR_unit k
    have hc : cosR (-Tr.nrm k) = cosR k ∧ sinR (-Tr.nrm k) = -sinR k := by
      unfold cosR sinR quadR
      rw [h1, h2, e, csR_neg, snR_neg]
      have hq : Tr.qrt k % 4 = 0 ∧ (4 - Tr.qrt k) % 4 = 0 ∨ Tr.qrt k % 4 = 1 ∧ (4 - Tr.qrt k) % 4 = 3 ∨ Tr.qrt k % 4 = 2 ∧ (4 - Tr.qrt k) % 4 = 2 ∨ Tr.qrt k % 4 = 3 ∧ (4 - Tr.qrt k) % 4 = 1 := by omega
      rcases hq with ⟨q1, q2⟩ | ⟨q1, q2⟩ | ⟨q1, q2⟩ | ⟨q1, q2⟩ <;> rw [q1, q2] <;> constructor <;> simp
    rw [hc.1, hc.2]
    have h4 : (0 : Rat) ≤ 4 / 10000000000000000 := by decide +kernel
    exact ⟨⟨by grind, by grind⟩, ⟨by grind, by grind⟩⟩
/-- Three numbers, no longer than e. -/
structure L2 (x y z e : Rat) : Prop where
  e0 : 0 ≤ e
  s : x * x + y * y + z * z ≤ e * e
theorem L2.add {x y z u v w e f : Rat} (h : L2 x y z e) (k : L2 u v w f) : L2 (x + u) (y + v) (z + w) (e + f) := by
  obtain ⟨e0, hs⟩ := h
  obtain ⟨f0, ks⟩ := k
  refine ⟨by grind, ?_⟩
  have cau := cauchy x y z u v w
  have xx := sq_nonneg x
  have yy := sq_nonneg y
  have zz := sq_nonneg z
  have uu := sq_nonneg u
  have vv := sq_nonneg v
  have ww := sq_nonneg w
  have k1 := mul_le_both (show 0 ≤ x * x + y * y + z * z by grind) (show 0 ≤ u * u + v * v + w * w by grind) hs ks
  have k2 := (abs_le_of_sq (x := x * u + y * v + z * w) (m := e * f) (Rat.mul_nonneg e0 f0) (by grind)).1
  grind
theorem L2.le {x y z e f : Rat} (h : L2 x y z e) (hf : e ≤ f) : L2 x y z f :=
  ⟨Rat.le_trans h.e0 hf, Rat.le_trans h.s (mul_le_both h.e0 h.e0 hf hf)⟩
theorem L2.comp {x y z e : Rat} (h : L2 x y z e) : (x ≤ e ∧ -e ≤ x) ∧ (y ≤ e ∧ -e ≤ y) ∧ (z ≤ e ∧ -e ≤ z) := by
  have xx := sq_nonneg x
  have yy := sq_nonneg y
  have zz := sq_nonneg z
  have := h.s
  exact ⟨abs_le_of_sq h.e0 (by grind), abs_le_of_sq h.e0 (by grind), abs_le_of_sq h.e0 (by grind)⟩
theorem L2.of2 {x y e : Rat} (e0 : 0 ≤ e) (hx : x ≤ e) (hx' : -e ≤ x) (hy : y ≤ e) (hy' : -e ≤ y) : L2 x y 0 (1415 / 1000 * e) := by
  refine ⟨by grind, ?_⟩
  have h1 := (mul_size hx hx' hx hx').1
  have h2 := (mul_size hy hy' hy hy').1
  have := Rat.mul_nonneg e0 e0
  grind
theorem L2.rot {x y z e : Rat} (h : L2 x y z e) : L2 y z x e := ⟨h.e0, by have := h.s; grind⟩
/-- Two of three turned. -/
theorem L2.turn {x y z e C S : Rat} (h : L2 x y z e) (hu : Nr (C * C + S * S) 1 (2 / 10000000000000000)) : L2 (x * C - y * S) (x * S + y * C) z ((1 + 2 * U) * e) := by
  have hU := U_pos
  obtain ⟨e0, hs⟩ := h
  obtain ⟨u1, u2⟩ := hu
  have k : (2 / 10000000000000000 : Rat) ≤ 4 * U := by decide +kernel
  have Ue := Rat.mul_nonneg (Rat.le_of_lt hU) e0
  refine ⟨by grind, ?_⟩
  have xx := sq_nonneg x
  have yy := sq_nonneg y
  have zz := sq_nonneg z
  have ee := Rat.mul_nonneg e0 e0
  have m1 := Rat.mul_le_mul_of_nonneg_right (show C * C + S * S ≤ 1 + 4 * U by grind) (show 0 ≤ x * x + y * y by grind)
  have m2 := Rat.mul_le_mul_of_nonneg_left hs (show 0 ≤ 1 + 4 * U by grind)
  have m3 := Rat.mul_nonneg (Rat.le_of_lt hU) zz
  have e1 : (x * C - y * S) * (x * C - y * S) + (x * S + y * C) * (x * S + y * C) + z * z = (C * C + S * S) * (x * x + y * y) + z * z := by grind
  have m4 := Rat.mul_nonneg (Rat.mul_nonneg (Rat.le_of_lt hU) (Rat.le_of_lt hU)) ee
  rw [e1]
  grind
end Go.Fe
