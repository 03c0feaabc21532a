/- A vector turned and turned back. Nothing of a program stands here. -/
import Derived.Test.YtdnclgpjcgamgaaFe31
set_option linter.unusedSimpArgs false
set_option linter.unusedVariables false
namespace Go.Fe
open Ieee Fl

/-! A vector turned, and turned back. -/
theorem turned_sq (w x y z a b c : Rat) :
    (r11 w x y z * a + r12 w x y z * b + r13 w x y z * c) * (r11 w x y z * a + r12 w x y z * b + r13 w x y z * c) + (r21 w x y z * a + r22 w x y z * b + r23 w x y z * c) * (r21 w x y z * a + r22 w x y z * b + r23 w x y z * c) + (r31 w x y z * a + r32 w x y z * b + r33 w x y z * c) * (r31 w x y z * a + r32 w x y z * b + r33 w x y z * c) = (a * a + b * b + c * c) - 4 * (1 - nrmQ w x y z) * ((x * x + y * y + z * z) * (a * a + b * b + c * c) - (x * a + y * b + z * c) * (x * a + y * b + z * c)) := by
  have c1 := col1 w x y z
  have c2 := col2 w x y z
  have c3 := col3 w x y z
  have d1 := col12 w x y z
  have d2 := col23 w x y z
  have d3 := col31 w x y z
  generalize r11 w x y z = m11 at *
  generalize r12 w x y z = m12 at *
  generalize r13 w x y z = m13 at *
  generalize r21 w x y z = m21 at *
  generalize r22 w x y z = m22 at *
  generalize r23 w x y z = m23 at *
  generalize r31 w x y z = m31 at *
  generalize r32 w x y z = m32 at *
  generalize r33 w x y z = m33 at *
  generalize 4 * (1 - nrmQ w x y z) = k at *
  have e : (m11 * a + m12 * b + m13 * c) * (m11 * a + m12 * b + m13 * c) + (m21 * a + m22 * b + m23 * c) * (m21 * a + m22 * b + m23 * c) + (m31 * a + m32 * b + m33 * c) * (m31 * a + m32 * b + m33 * c) = a * a * (m11 * m11 + m21 * m21 + m31 * m31) + b * b * (m12 * m12 + m22 * m22 + m32 * m32) + c * c * (m13 * m13 + m23 * m23 + m33 * m33) + 2 * (a * b) * (m11 * m12 + m21 * m22 + m31 * m32) + 2 * (b * c) * (m12 * m13 + m22 * m23 + m32 * m33) + 2 * (c * a) * (m13 * m11 + m23 * m21 + m33 * m31) := by grind
  rw [e, c1, c2, c3, d1, d2, d3]
  grind
/-- What the way back gives of what was turned. -/
theorem back_1 (w x y z a b c : Rat) :
    r11 w x y z * (r11 w x y z * a + r12 w x y z * b + r13 w x y z * c) + r21 w x y z * (r21 w x y z * a + r22 w x y z * b + r23 w x y z * c) + r31 w x y z * (r31 w x y z * a + r32 w x y z * b + r33 w x y z * c) = a + 4 * (1 - nrmQ w x y z) * (-(y * y + z * z) * a + x * y * b + z * x * c) := by
  have c1 := col1 w x y z
  have d1 := col12 w x y z
  have d3 := col31 w x y z
  generalize r11 w x y z = m11 at *
  generalize r12 w x y z = m12 at *
  generalize r13 w x y z = m13 at *
  generalize r21 w x y z = m21 at *
  generalize r22 w x y z = m22 at *
  generalize r23 w x y z = m23 at *
  generalize r31 w x y z = m31 at *
  generalize r32 w x y z = m32 at *
  generalize r33 w x y z = m33 at *
  generalize 4 * (1 - nrmQ w x y z) = k at *
  have e : m11 * (m11 * a + m12 * b + m13 * c) + m21 * (m21 * a + m22 * b + m23 * c) + m31 * (m31 * a + m32 * b + m33 * c) = a * (m11 * m11 + m21 * m21 + m31 * m31) + b * (m11 * m12 + m21 * m22 + m31 * m32) + c * (m13 * m11 + m23 * m21 + m33 * m31) := by grind
  rw [e, c1, d1, d3]
  grind
theorem back_2 (w x y z a b c : Rat) :
    r12 w x y z * (r11 w x y z * a + r12 w x y z * b + r13 w x y z * c) + r22 w x y z * (r21 w x y z * a + r22 w x y z * b + r23 w x y z * c) + r32 w x y z * (r31 w x y z * a + r32 w x y z * b + r33 w x y z * c) = b + 4 * (1 - nrmQ w x y z) * (x * y * a + -(x * x + z * z) * b + y * z * c) := by
  have c2 := col2 w x y z
  have d1 := col12 w x y z
  have d2 := col23 w x y z
  generalize r11 w x y z = m11 at *
  generalize r12 w x y z = m12 at *
  generalize r13 w x y z = m13 at *
  generalize r21 w x y z = m21 at *
  generalize r22 w x y z = m22 at *
  generalize r23 w x y z = m23 at *
  generalize r31 w x y z = m31 at *
  generalize r32 w x y z = m32 at *
  generalize r33 w x y z = m33 at *
  generalize 4 * (1 - nrmQ w x y z) = k at *
  have e : m12 * (m11 * a + m12 * b + m13 * c) + m22 * (m21 * a + m22 * b + m23 * c) + m32 * (m31 * a + m32 * b + m33 * c) = a * (m11 * m12 + m21 * m22 + m31 * m32) + b * (m12 * m12 + m22 * m22 + m32 * m32) + c * (m12 * m13 + m22 * m23 + m32 * m33) := by grind
  rw [e, c2, d1, d2]
  grind
theorem back_3 (w x y z a b c : Rat) :
    r13 w x y z * (r11 w x y z * a + r12 w x y z * b + r13 w x y z * c) + r23 w x y z * (r21 w x y z * a + r22 w x y z * b + r23 w x y z * c) + r33 w x y z * (r31 w x y z * a + r32 w x y z * b + r33 w x y z * c) = c + 4 * (1 - nrmQ w x y z) * (z * x * a + y * z * b + -(x * x + y * y) * c) := by
  have c3 := col3 w x y z
  have d2 := col23 w x y z
  have d3 := col31 w x y z
  generalize r11 w x y z = m11 at *
  generalize r12 w x y z = m12 at *
  generalize r13 w x y z = m13 at *
  generalize r21 w x y z = m21 at *
  generalize r22 w x y z = m22 at *
  generalize r23 w x y z = m23 at *
  generalize r31 w x y z = m31 at *
  generalize r32 w x y z = m32 at *
  generalize r33 w x y z = m33 at *
  generalize 4 * (1 - nrmQ w x y z) = k at *
  have e : m13 * (m11 * a + m12 * b + m13 * c) + m23 * (m21 * a + m22 * b + m23 * c) + m33 * (m31 * a + m32 * b + m33 * c) = a * (m13 * m11 + m23 * m21 + m33 * m31) + b * (m12 * m13 + m22 * m23 + m32 * m33) + c * (m13 * m13 + m23 * m23 + m33 * m33) := by grind
  rw [e, c3, d2, d3]
  grind
/-- A product with a factor that is small against another's size. -/
theorem near_k {k s t m e : Rat} (hk : Nr (k * s) 0 e) (s0 : 0 ≤ s) (m0 : 0 ≤ m) (h : t * t ≤ s * m * (s * m)) : Nr (k * t) 0 (e * m) := by
  obtain ⟨k1, k2⟩ := hk
  obtain ⟨t1, t2⟩ := abs_le_of_sq (Rat.mul_nonneg s0 m0) h
  have g1 := Rat.mul_le_mul_of_nonneg_right k1 m0
  have g2 := Rat.mul_le_mul_of_nonneg_right k2 m0
  rcases Rat.le_total (a := 0) (b := k) with h | h
  · have f1 := Rat.mul_le_mul_of_nonneg_left t1 h
    have f2 := Rat.mul_le_mul_of_nonneg_left t2 h
    exact ⟨by grind, by grind⟩
  · have f1 := Rat.mul_le_mul_of_nonneg_left t1 (show 0 ≤ -k by grind)
    have f2 := Rat.mul_le_mul_of_nonneg_left t2 (show 0 ≤ -k by grind)
    exact ⟨by grind, by grind⟩
theorem k_row {x y z a b c m : Rat} (m0 : 0 ≤ m) (hv : a * a + b * b + c * c ≤ m * m) : (-(y * y + z * z) * a + x * y * b + z * x * c) * (-(y * y + z * z) * a + x * y * b + z * x * c) ≤ (x * x + y * y + z * z) * m * ((x * x + y * y + z * z) * m) := by
  have h1 := cauchy (-(y * y + z * z)) (x * y) (z * x) a b c
  have xx := sq_nonneg x
  have yy := sq_nonneg y
  have zz := sq_nonneg z
  have aa := sq_nonneg a
  have bb := sq_nonneg b
  have cc := sq_nonneg c
  have e : -(y * y + z * z) * -(y * y + z * z) + x * y * (x * y) + z * x * (z * x) = (y * y + z * z) * (x * x + y * y + z * z) := by grind
  rw [e] at h1
  have h2 := mul_le_both (show 0 ≤ y * y + z * z by grind) (show 0 ≤ x * x + y * y + z * z by grind) (show y * y + z * z ≤ x * x + y * y + z * z by grind) Rat.le_refl
  have h3 := mul_le_both (Rat.mul_nonneg (show 0 ≤ y * y + z * z by grind) (show 0 ≤ x * x + y * y + z * z by grind)) (show 0 ≤ a * a + b * b + c * c by grind) h2 hv
  refine Rat.le_trans h1 (Rat.le_trans h3 ?_)
  have : (x * x + y * y + z * z) * (x * x + y * y + z * z) * (m * m) = (x * x + y * y + z * z) * m * ((x * x + y * y + z * z) * m) := by grind
  rw [this]; exact Rat.le_refl
/-- Three errors through a row. -/
theorem row_errs {a b c d e f ε : Rat} (h : a * a + b * b + c * c ≤ 1 + 100 * U) (e0 : 0 ≤ ε) (d1 : d ≤ ε) (d2 : -ε ≤ d) (e1 : e ≤ ε) (e2 : -ε ≤ e) (f1 : f ≤ ε) (f2 : -ε ≤ f) : Nr (a * d + b * e + c * f) 0 (174 / 100 * ε) := by
  have hU1 : U ≤ 1 / 1000000 := by decide +kernel
  have h1 := cauchy a b c d e f
  have aa := sq_nonneg a
  have bb := sq_nonneg b
  have cc := sq_nonneg c
  have dd := (mul_size d1 d2 d1 d2).1
  have ee := (mul_size e1 e2 e1 e2).1
  have ff := (mul_size f1 f2 f1 f2).1
  have d0 := sq_nonneg d
  have e00 := sq_nonneg e
  have f0 := sq_nonneg f
  have h2 := mul_le_both (show 0 ≤ a * a + b * b + c * c by grind) (show 0 ≤ d * d + e * e + f * f by grind) (show a * a + b * b + c * c ≤ 10001 / 10000 by grind) (show d * d + e * e + f * f ≤ 3 * (ε * ε) by grind)
  have E := Rat.mul_nonneg e0 e0
  obtain ⟨g1, g2⟩ := abs_le_of_sq (x := a * d + b * e + c * f) (m := 174 / 100 * ε) (by grind) (by grind)
  exact ⟨by grind, by grind⟩
/-- The sum of the squares of what is turned, with its errors. -/
theorem size_errs {A B C p q r m T Tv : Rat} (m0 : 0 ≤ m) (hs : A * A + B * B + C * C = T) (h2 : Nr T Tv (91 * U * (m * m))) (hv : Tv ≤ m * m) (p1 : p ≤ 125 / 10 * U * m) (p2 : -(125 / 10 * U * m) ≤ p) (q1 : q ≤ 125 / 10 * U * m) (q2 : -(125 / 10 * U * m) ≤ q) (r1 : r ≤ 125 / 10 * U * m) (r2 : -(125 / 10 * U * m) ≤ r) :
    Nr ((A + p) * (A + p) + (B + q) * (B + q) + (C + r) * (C + r)) Tv (136 * U * (m * m)) := by
  have hU := U_pos
  have hU1 : U ≤ 1 / 1000000 := by decide +kernel
  have mm := Rat.mul_nonneg m0 m0
  have Um := Rat.mul_nonneg (Rat.le_of_lt hU) m0
  have Umm := Rat.mul_nonneg (Rat.le_of_lt hU) mm
  obtain ⟨t1, t2⟩ := h2
  have k1 := Rat.mul_le_mul_of_nonneg_right hU1 mm
  have hT : T ≤ 10001 / 10000 * (m * m) := by grind
  have cau := cauchy A B C p q r
  have pp := (mul_size p1 p2 p1 p2).1
  have qq := (mul_size q1 q2 q1 q2).1
  have rr := (mul_size r1 r2 r1 r2).1
  have p0 := sq_nonneg p
  have q0 := sq_nonneg q
  have r0 := sq_nonneg r
  have aa := sq_nonneg A
  have bb := sq_nonneg B
  have cc := sq_nonneg C
  have eE : 125 / 10 * U * m * (125 / 10 * U * m) = 625 / 4 * (U * m * (U * m)) := by grind
  rw [eE] at pp qq rr
  have h3 := mul_le_both (show 0 ≤ A * A + B * B + C * C by grind) (show 0 ≤ p * p + q * q + r * r by grind) (show A * A + B * B + C * C ≤ 10001 / 10000 * (m * m) by grind) (show p * p + q * q + r * r ≤ 3 * (625 / 4 * (U * m * (U * m))) by grind)
  have e2 : 10001 / 10000 * (m * m) * (3 * (625 / 4 * (U * m * (U * m)))) = 10001 / 10000 * 3 * (625 / 4) * (U * (m * m) * (U * (m * m))) := by grind
  rw [e2] at h3
  have UU := Rat.mul_nonneg Umm Umm
  obtain ⟨c1, c2⟩ := abs_le_of_sq (x := A * p + B * q + C * r) (m := 22 * (U * (m * m))) (by grind) (by grind)
  have e3 : U * m * (U * m) = U * (U * (m * m)) := by grind
  rw [e3] at pp qq rr
  have k2 := Rat.mul_le_mul_of_nonneg_right hU1 Umm
  have e4 : (A + p) * (A + p) + (B + q) * (B + q) + (C + r) * (C + r) = T + 2 * (A * p + B * q + C * r) + (p * p + q * q + r * r) := by rw [← hs]; grind
  rw [e4]
  exact ⟨by grind, by grind⟩
end Go.Fe
