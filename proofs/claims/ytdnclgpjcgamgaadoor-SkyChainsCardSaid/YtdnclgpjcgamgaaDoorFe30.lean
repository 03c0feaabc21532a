/- The matrix of four floats: its rows. Nothing of a program stands here. -/
import Derived.Test.YtdnclgpjcgamgaaDoorFe29
import Derived.Test.YtdnclgpjcgamgaaDoorFe21
set_option linter.unusedSimpArgs false
set_option linter.unusedVariables false
namespace Go.Fe
open Ieee Fl

/-! The matrix of four floats, row by row. -/
def smF (p q r s : Option Nat) : Option Nat := Fl.fmul (Fl.fl 4611686018427387904) (Fl.fadd (Fl.fmul p q) (Fl.fmul r s))
def lsF (p q r s : Option Nat) : Option Nat := Fl.fmul (Fl.fl 4611686018427387904) (Fl.fsub (Fl.fmul p q) (Fl.fmul r s))
def dgF (p r : Option Nat) : Option Nat := Fl.fsub (Fl.fl 4607182418800017408) (smF p p r r)
theorem off_err {p q r s : Nat} (fp : Fn p) (fq : Fn q) (fr : Fn r) (fs : Fn s) (h : V p * V p + V q * V q + (V r * V r + V s * V s) ≤ 1 + 30 * U) :
    (∃ t, smF (some p) (some q) (some r) (some s) = some t ∧ Fn t ∧ Nr (V t) (2 * (V p * V q + V r * V s)) (201 / 100 * U)) ∧
    (∃ t, lsF (some p) (some q) (some r) (some s) = some t ∧ Fn t ∧ Nr (V t) (2 * (V p * V q - V r * V s)) (201 / 100 * U)) := by
  have pp := sq_nonneg (V p)
  have qq := sq_nonneg (V q)
  have rr := sq_nonneg (V r)
  have ss := sq_nonneg (V s)
  have k1 := sq_nonneg (V p - V q)
  have k2 := sq_nonneg (V p + V q)
  have k3 := sq_nonneg (V r - V s)
  have k4 := sq_nonneg (V r + V s)
  have hU := U_pos
  have hU1 : U ≤ 1 / 100000 := by decide +kernel
  obtain ⟨⟨t, ht, ft, t1, t2⟩, ⟨u, hu, fu, u1, u2⟩⟩ := pair_err fp fq fr fs (a := (V p * V p + V q * V q) / 2) (b := (V r * V r + V s * V s) / 2) (by grind) (by grind) (by grind) (by grind) (by grind) (by grind)
  have k : 4 * U * ((V p * V p + V q * V q) / 2 + (V r * V r + V s * V s) / 2) + 20 * (U * U) ≤ 201 / 100 * U := by
    have g1 := Rat.mul_le_mul_of_nonneg_left h (Rat.le_of_lt hU)
    have g2 := Rat.mul_le_mul_of_nonneg_left hU1 (Rat.le_of_lt hU)
    grind
  exact ⟨⟨t, ht, ft, ⟨by grind, by grind⟩⟩, ⟨u, hu, fu, ⟨by grind, by grind⟩⟩⟩
theorem dia_err {p r : Nat} (fp : Fn p) (fr : Fn r) (h : V p * V p + V r * V r ≤ 1 + 30 * U) :
    ∃ t, dgF (some p) (some r) = some t ∧ Fn t ∧ Nr (V t) (1 - 2 * (V p * V p + V r * V r)) (51 / 10 * U) := by
  have pp := sq_nonneg (V p)
  have rr := sq_nonneg (V r)
  have hU := U_pos
  have hU1 : U ≤ 1 / 100000 := by decide +kernel
  obtain ⟨⟨t, ht, ft, t1, t2⟩, _⟩ := pair_err fp fp fr fr (a := V p * V p) (b := V r * V r) Rat.le_refl (by grind) Rat.le_refl (by grind) (by grind) (by grind)
  obtain ⟨d, hd, fd, d1, d2⟩ := diag_err (p := p) (r := r) (V p * V p + V r * V r) Rat.le_refl (by grind) ft ⟨t1, t2⟩
  have k : 4 * U * (V p * V p + V r * V r) + 103 / 100 * U + 100 * (U * U) ≤ 51 / 10 * U := by
    have g1 := Rat.mul_le_mul_of_nonneg_left h (Rat.le_of_lt hU)
    have g2 := Rat.mul_le_mul_of_nonneg_left hU1 (Rat.le_of_lt hU)
    grind
  refine ⟨d, ?_, fd, ⟨by grind, by grind⟩⟩
  show Fl.fsub _ (smF (some p) (some p) (some r) (some r)) = _
  rw [show smF (some p) (some p) (some r) (some r) = some t from ht]
  exact hd
/-- A row of floats near a row of rationals. -/
structure RowOk (X : V3) (a b c : Rat) : Prop where
  v : ∃ x y z e f g, X = ⟨some x, some y, some z⟩ ∧ Fn x ∧ Fn y ∧ Fn z ∧ Nr (V x) a e ∧ Nr (V y) b f ∧ Nr (V z) c g ∧ 0 ≤ e ∧ 0 ≤ f ∧ 0 ≤ g ∧ e + f + g ≤ 93 / 10 * U
  sq : Nr (a * a + b * b + c * c) 1 (100 * U)
structure MatF where (a b c : V3)
def matF (w x y z : Option Nat) : MatF where
  a := ⟨dgF y z, lsF x y w z, smF x z w y⟩
  b := ⟨smF x y w z, dgF x z, lsF y z w x⟩
  c := ⟨lsF x z w y, smF y z w x, dgF x y⟩
/-- What the rotation's words fit. -/
structure RotOk (w x y z : Nat) : Prop where
  fw : Fn w
  fx : Fn x
  fy : Fn y
  fz : Fn z
  n : Nr (nrmQ (V w) (V x) (V y) (V z)) 1 (30 * U)
  k : Nr (4 * (1 - nrmQ (V w) (V x) (V y) (V z)) * (V x * V x + V y * V y + V z * V z)) 0 (91 * U)
theorem part_k {k s t e : Rat} (hk : Nr (k * s) 0 e) (h0 : 0 ≤ t) (h1 : t ≤ s) : Nr (k * t) 0 e := by
  obtain ⟨k1, k2⟩ := hk
  rcases Rat.le_total (a := 0) (b := k) with h | h
  · have g1 := Rat.mul_le_mul_of_nonneg_left h1 h
    have g2 := Rat.mul_nonneg h h0
    exact ⟨by grind, by grind⟩
  · have g1 := Rat.mul_le_mul_of_nonneg_left h1 (show 0 ≤ -k by grind)
    have g2 := Rat.mul_nonneg (show 0 ≤ -k by grind) h0
    exact ⟨by grind, by grind⟩
theorem row_sq {k t : Rat} {R : Rat} (h : R = 1 - k * t) (hk : Nr (k * t) 0 (91 * U)) : Nr R 1 (100 * U) := by
  have hU := U_pos
  obtain ⟨k1, k2⟩ := hk
  exact ⟨by grind, by grind⟩
theorem mat_rows {w x y z : Nat} (h : RotOk w x y z) :
    RowOk (matF (some w) (some x) (some y) (some z)).a (r11 (V w) (V x) (V y) (V z)) (r12 (V w) (V x) (V y) (V z)) (r13 (V w) (V x) (V y) (V z)) ∧
    RowOk (matF (some w) (some x) (some y) (some z)).b (r21 (V w) (V x) (V y) (V z)) (r22 (V w) (V x) (V y) (V z)) (r23 (V w) (V x) (V y) (V z)) ∧
    RowOk (matF (some w) (some x) (some y) (some z)).c (r31 (V w) (V x) (V y) (V z)) (r32 (V w) (V x) (V y) (V z)) (r33 (V w) (V x) (V y) (V z)) := by
  obtain ⟨fw, fx, fy, fz, ⟨n1, n2⟩, hk⟩ := h
  have hU := U_pos
  have ww := sq_nonneg (V w)
  have xx := sq_nonneg (V x)
  have yy := sq_nonneg (V y)
  have zz := sq_nonneg (V z)
  have q1 := row_sq (row1 (V w) (V x) (V y) (V z)) (part_k hk (t := V y * V y + V z * V z) (by grind) (by grind))
  have q2 := row_sq (row2 (V w) (V x) (V y) (V z)) (part_k hk (t := V x * V x + V z * V z) (by grind) (by grind))
  have q3 := row_sq (row3 (V w) (V x) (V y) (V z)) (part_k hk (t := V x * V x + V y * V y) (by grind) (by grind))
  clear hk
  unfold nrmQ at n1 n2
  obtain ⟨a1, h1, f1, e1⟩ := dia_err fy fz (by grind)
  obtain ⟨b2, h5, f5, e5⟩ := dia_err fx fz (by grind)
  obtain ⟨c3, h9, f9, e9⟩ := dia_err fx fy (by grind)
  obtain ⟨⟨b1, h4, f4, e4⟩, ⟨a2, h2, f2, e2⟩⟩ := off_err fx fy fw fz (by grind)
  obtain ⟨⟨a3, h3, f3, e3⟩, ⟨c1, h7, f7, e7⟩⟩ := off_err fx fz fw fy (by grind)
  obtain ⟨⟨c2, h8, f8, e8⟩, ⟨b3, h6, f6, e6⟩⟩ := off_err fy fz fw fx (by grind)
  have s1 : 51 / 10 * U + 201 / 100 * U + 201 / 100 * U ≤ 93 / 10 * U := by grind
  have s2 : 201 / 100 * U + 51 / 10 * U + 201 / 100 * U ≤ 93 / 10 * U := by grind
  have s3 : 201 / 100 * U + 201 / 100 * U + 51 / 10 * U ≤ 93 / 10 * U := by grind
  have t1 : 0 ≤ 51 / 10 * U := by grind
  have t2 : 0 ≤ 201 / 100 * U := by grind
  refine ⟨⟨⟨a1, a2, a3, _, _, _, ?_, f1, f2, f3, e1, e2, e3, t1, t2, t2, s1⟩, q1⟩, ⟨⟨b1, b2, b3, _, _, _, ?_, f4, f5, f6, e4, e5, e6, t2, t1, t2, s2⟩, q2⟩, ⟨⟨c1, c2, c3, _, _, _, ?_, f7, f8, f9, e7, e8, e9, t2, t2, t1, s3⟩, q3⟩⟩
  · show (⟨_, _, _⟩ : V3) = _; rw [h1, h2, h3]
  · show (⟨_, _, _⟩ : V3) = _; rw [h4, h5, h6]
  · show (⟨_, _, _⟩ : V3) = _; rw [h7, h8, h9]
end Go.Fe
