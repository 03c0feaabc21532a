/- The rows of a rotation's matrix are at right angles and of length 1, within a told unit. Nothing of a program stands here. -/
import Derived.Test.YtdnclgpjcgamgaaFe34
set_option linter.unusedSimpArgs false
set_option linter.unusedVariables false
namespace Go.Fe
open Ieee Fl

/-! The rows of a rotation's matrix: at right angles, of length 1. -/
theorem rot_of_n {w x y z : Nat} (fw : Fn w) (fx : Fn x) (fy : Fn y) (fz : Fn z) (h : Nr (nrmQ (V w) (V x) (V y) (V z)) 1 (227 / 10 * U)) : RotOk w x y z := by
  have hU := U_pos
  have hU1 : U ≤ 1 / 1000000 := by decide +kernel
  obtain ⟨h1, h2⟩ := h
  have ww := sq_nonneg (V w)
  have xx := sq_nonneg (V x)
  have yy := sq_nonneg (V y)
  have zz := sq_nonneg (V z)
  refine ⟨fw, fx, fy, fz, ⟨by grind, by grind⟩, ?_⟩
  have e : nrmQ (V w) (V x) (V y) (V z) = V w * V w + (V x * V x + V y * V y + V z * V z) := by unfold nrmQ; grind
  generalize nrmQ (V w) (V x) (V y) (V z) = N at *
  obtain ⟨m1, m2⟩ := mul_size (a := 1 - N) (b := V x * V x + V y * V y + V z * V z) (A := 227 / 10 * U) (B := 1001 / 1000) h2 (by grind) (by grind) (by grind)
  exact ⟨by grind, by grind⟩
/-- A constant most: the told unit itself. -/
theorem in_unit {u v : Nat} (fu : Fn u) (fv : Fn v) (h : Nr (V u) (V v) (127 * U)) : InOk (Fl.fsub (some u) (some v)) (Fl.fl 4400016835940974592) := by
  obtain ⟨hu, fo, vo⟩ := unit_w
  have hU := U_pos
  have hU1 : U ≤ 1 / 1000000 := by decide +kernel
  have g : (1000 : Rat) ≤ two 900 := by decide +kernel
  obtain ⟨h1, h2⟩ := h
  obtain ⟨d, hd, fd, nd⟩ := sub_err fu fv (by grind) (by grind)
  obtain ⟨d1, d2⟩ := nd (127 * U) (by grind) (by grind)
  have UU : U * U ≤ 1 / 1000000 * U := Rat.mul_le_mul_of_nonneg_right hU1 (Rat.le_of_lt hU)
  refine ⟨d, _, hd, hu, fd, fo, ?_, ?_⟩ <;> rw [vo] <;> grind
theorem in_unit0 {u : Nat} (fu : Fn u) (h : Nr (V u) 0 (127 * U)) : InOk (some u) (Fl.fl 4400016835940974592) := by
  obtain ⟨hu, fo, vo⟩ := unit_w
  have hU := U_pos
  obtain ⟨h1, h2⟩ := h
  refine ⟨u, _, rfl, hu, fu, fo, ?_, ?_⟩ <;> rw [vo] <;> grind
theorem row_in {a b c : Rat} (h : Nr (a * a + b * b + c * c) 1 (100 * U)) : (a ≤ 1001 / 1000 ∧ -(1001 / 1000) ≤ a) ∧ (b ≤ 1001 / 1000 ∧ -(1001 / 1000) ≤ b) ∧ (c ≤ 1001 / 1000 ∧ -(1001 / 1000) ≤ c) := by
  have hU1 : U ≤ 1 / 1000000 := by decide +kernel
  have aa := sq_nonneg a
  have bb := sq_nonneg b
  have cc := sq_nonneg c
  obtain ⟨h1, h2⟩ := h
  exact ⟨abs_le_of_sq (by decide +kernel) (by grind), abs_le_of_sq (by decide +kernel) (by grind), abs_le_of_sq (by decide +kernel) (by grind)⟩
/-- The product of what is near. -/
theorem prod_near {u v a b e f : Rat} (hu : Nr u a e) (hv : Nr v b f) (a1 : a ≤ 1001 / 1000) (a2 : -(1001 / 1000) ≤ a) (b1 : b ≤ 1001 / 1000) (b2 : -(1001 / 1000) ≤ b) (e0 : 0 ≤ e) (f0 : 0 ≤ f) (e1 : e ≤ 10 * U) (f1 : f ≤ 10 * U) :
    Nr (u * v) (a * b) (101 / 100 * (e + f)) ∧ u * v ≤ 11 / 10 ∧ -(11 / 10) ≤ u * v := by
  have hU1 : U ≤ 1 / 1000000 := by decide +kernel
  obtain ⟨u1, u2⟩ := hu
  obtain ⟨v1, v2⟩ := hv
  obtain ⟨p, hp⟩ : ∃ p, u - a = p := ⟨_, rfl⟩
  obtain ⟨q, hq⟩ : ∃ q, v - b = q := ⟨_, rfl⟩
  have e1' : u * v - a * b = a * q + p * b + p * q := by rw [← hp, ← hq]; grind
  obtain ⟨m1, m2⟩ := mul_size (a := a) (b := q) (A := 1001 / 1000) (B := f) a1 a2 (by grind) (by grind)
  obtain ⟨m3, m4⟩ := mul_size (a := p) (b := b) (A := e) (B := 1001 / 1000) (by grind) (by grind) b1 b2
  obtain ⟨m5, m6⟩ := mul_size (a := p) (b := q) (A := e) (B := 1 / 10000) (by grind) (by grind) (by grind) (by grind)
  obtain ⟨m7, m8⟩ := mul_size (a := a) (b := b) (A := 1001 / 1000) (B := 1001 / 1000) a1 a2 b1 b2
  exact ⟨⟨by grind, by grind⟩, by grind, by grind⟩
theorem rows_dot {X Y : V3} {a b c d e f : Rat} (hX : RowOk X a b c) (hY : RowOk Y d e f) (h : Nr (a * d + b * e + c * f) 0 (91 * U)) : InOk (Tr.dt X Y) (Fl.fl 4400016835940974592) := by
  have hU := U_pos
  have hU1 : U ≤ 1 / 1000000 := by decide +kernel
  obtain ⟨⟨x1, y1, z1, e1, e2, e3, rfl, fx1, fy1, fz1, nx1, ny1, nz1, p1, p2, p3, ps⟩, hs1⟩ := hX
  obtain ⟨⟨x2, y2, z2, g1, g2, g3, rfl, fx2, fy2, fz2, nx2, ny2, nz2, q1, q2, q3, qs⟩, hs2⟩ := hY
  obtain ⟨⟨a1, a2⟩, ⟨b1, b2⟩, ⟨c1, c2⟩⟩ := row_in hs1
  obtain ⟨⟨d1, d2⟩, ⟨f1, f2⟩, ⟨h1, h2⟩⟩ := row_in hs2
  obtain ⟨⟨r1, r2⟩, r3, r4⟩ := prod_near nx1 nx2 a1 a2 d1 d2 p1 q1 (by grind) (by grind)
  obtain ⟨⟨s1, s2⟩, s3, s4⟩ := prod_near ny1 ny2 b1 b2 f1 f2 p2 q2 (by grind) (by grind)
  obtain ⟨⟨t1, t2⟩, t3, t4⟩ := prod_near nz1 nz2 c1 c2 h1 h2 p3 q3 (by grind) (by grind)
  have k8 : (1000 : Rat) ≤ two 800 := by decide +kernel
  have k9 : two (-800) ≤ 1 := by decide +kernel
  obtain ⟨r, hr, fr, n1, n2⟩ := dot_s (s := 1) fx1 fy1 fz1 fx2 fy2 fz2 r3 r4 s3 s4 t3 t4 (by grind) (by grind) (.inr k9)
  have UU : U * U ≤ 1 / 1000000 * U := Rat.mul_le_mul_of_nonneg_right hU1 (Rat.le_of_lt hU)
  obtain ⟨o1, o2⟩ := h
  show InOk (Fl.fadd (Fl.fadd (Fl.fmul (some x1) (some x2)) (Fl.fmul (some y1) (some y2))) (Fl.fmul (some z1) (some z2))) _
  rw [hr]
  refine in_unit0 fr ?_
  clear hr
  exact ⟨by grind, by grind⟩
theorem one_w : Fl.fl 4607182418800017408 = some 4607182418800017408 ∧ Fn 4607182418800017408 ∧ V 4607182418800017408 = 1 := ⟨by decide +kernel, fn_of (by decide +kernel), by decide +kernel⟩
theorem row_len {X : V3} {a b c : Rat} (hX : RowOk X a b c) : InOk (Fl.fsub (Tr.vl X) (Fl.fl 4607182418800017408)) (Fl.fl 4400016835940974592) := by
  have hU := U_pos
  have hU1 : U ≤ 1 / 1000000 := by decide +kernel
  obtain ⟨⟨x, y, z, e1, e2, e3, rfl, fx, fy, fz, nx, ny, nz, p1, p2, p3, ps⟩, hs1⟩ := hX
  obtain ⟨⟨a1, a2⟩, ⟨b1, b2⟩, ⟨c1, c2⟩⟩ := row_in hs1
  obtain ⟨⟨r1, r2⟩, r3, r4⟩ := prod_near nx nx a1 a2 a1 a2 p1 p1 (by grind) (by grind)
  obtain ⟨⟨s1, s2⟩, s3, s4⟩ := prod_near ny ny b1 b2 b1 b2 p2 p2 (by grind) (by grind)
  obtain ⟨⟨t1, t2⟩, t3, t4⟩ := prod_near nz nz c1 c2 c1 c2 p3 p3 (by grind) (by grind)
  have k8 : (1000 : Rat) ≤ two 800 := by decide +kernel
  have k9 : two (-800) ≤ 1 := by decide +kernel
  obtain ⟨L, hL, fL, L0, l1, l2⟩ := len_s (s := 1) fx fy fz rfl (by grind) (by grind) (.inr k9)
  obtain ⟨o1, o2⟩ := hs1
  obtain ⟨T, hT⟩ : ∃ T, V x * V x + V y * V y + V z * V z = T := ⟨_, rfl⟩
  rw [hT] at l1 l2
  have UU : U * U ≤ 1 / 1000000 * U := Rat.mul_le_mul_of_nonneg_right hU1 (Rat.le_of_lt hU)
  have T1 : T - 1 ≤ 119 * U := by grind
  have T2 : 1 - T ≤ 119 * U := by grind
  have UT := Rat.mul_le_mul_of_nonneg_left (show T ≤ 11 / 10 by grind) (Rat.le_of_lt hU)
  have m1 : V L * V L - 1 ≤ 127 * U := by grind
  have m2 : 1 - V L * V L ≤ 127 * U := by grind
  obtain ⟨hu, fo, vo⟩ := one_w
  show InOk (Fl.fsub (Fl.fsqrt (Fl.fadd (Fl.fadd (Fl.fmul (some x) (some x)) (Fl.fmul (some y) (some y))) (Fl.fmul (some z) (some z)))) _) _
  rw [hL, hu]
  refine in_unit fL fo ?_
  rw [vo]
  clear hL
  constructor
  · refine Rat.not_lt.mp fun h => ?_
    have k := mul_le_both (a := 127 * U) (b := 2) (A := V L - 1) (B := V L + 1) (by grind) (by decide) (Rat.le_of_lt h) (by grind)
    grind
  · refine Rat.not_lt.mp fun h => ?_
    have k := mul_le_both (a := 127 * U) (b := 1) (A := 1 - V L) (B := V L + 1) (by grind) (by decide) (Rat.le_of_lt h) (by grind)
    have k2 : (1 - V L) * (V L + 1) ≤ 127 * U := by grind
    have k3 : 0 < V L := by
      refine Rat.not_le.mp fun h0 => ?_
      have : V L = 0 := by grind
      rw [this] at m2
      grind
    have k4 := Rat.mul_pos (show 0 < 1 - V L by grind) k3
    have e : (1 - V L) * (V L + 1) = (1 - V L) + (1 - V L) * V L := by grind
    grind
theorem mat_good {w x y z : Nat} (h : RotOk w x y z) :
    InOk (Tr.dt (matF (some w) (some x) (some y) (some z)).a (matF (some w) (some x) (some y) (some z)).b) (Fl.fl 4400016835940974592) ∧
    InOk (Tr.dt (matF (some w) (some x) (some y) (some z)).b (matF (some w) (some x) (some y) (some z)).c) (Fl.fl 4400016835940974592) ∧
    InOk (Tr.dt (matF (some w) (some x) (some y) (some z)).c (matF (some w) (some x) (some y) (some z)).a) (Fl.fl 4400016835940974592) ∧
    InOk (Fl.fsub (Tr.vl (matF (some w) (some x) (some y) (some z)).a) (Fl.fl 4607182418800017408)) (Fl.fl 4400016835940974592) ∧
    InOk (Fl.fsub (Tr.vl (matF (some w) (some x) (some y) (some z)).b) (Fl.fl 4607182418800017408)) (Fl.fl 4400016835940974592) ∧
    InOk (Fl.fsub (Tr.vl (matF (some w) (some x) (some y) (some z)).c) (Fl.fl 4607182418800017408)) (Fl.fl 4400016835940974592) := by
  obtain ⟨rA, rB, rC⟩ := mat_rows h
  have hk := h.k
  have xx := sq_nonneg (V x)
  have yy := sq_nonneg (V y)
  have zz := sq_nonneg (V z)
  have pr : ∀ {s t : Rat}, 0 ≤ s → 0 ≤ t → 0 ≤ s * t := fun hs ht => Rat.mul_nonneg hs ht
  have g1 := pr xx yy
  have g2 := pr yy zz
  have g3 := pr zz xx
  have s1 := sq_nonneg (V x * V x)
  have s2 := sq_nonneg (V y * V y)
  have s3 := sq_nonneg (V z * V z)
  have kk : ∀ {t : Rat}, t * t ≤ (V x * V x + V y * V y + V z * V z) * 1 * ((V x * V x + V y * V y + V z * V z) * 1) → Nr (4 * (1 - nrmQ (V w) (V x) (V y) (V z)) * t) 0 (91 * U) := fun {t} ht => by
    obtain ⟨k1, k2⟩ := near_k (m := 1) hk (by grind) (by decide) ht
    exact ⟨by grind, by grind⟩
  refine ⟨rows_dot rA rB ?_, rows_dot rB rC ?_, rows_dot rC rA ?_, row_len rA, row_len rB, row_len rC⟩
  · rw [dot12]; exact kk (by grind)
  · rw [dot23]; exact kk (by grind)
  · rw [dot31]; exact kk (by grind)
end Go.Fe
