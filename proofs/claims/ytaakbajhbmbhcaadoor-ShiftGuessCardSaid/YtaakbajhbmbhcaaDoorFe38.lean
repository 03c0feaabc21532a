/- Sums of three products with a scale for what underflows. Nothing of a program stands here. -/
import Derived.Test.YtaakbajhbmbhcaaDoorFe27
import Derived.Test.YtaakbajhbmbhcaaDoorFe20
import Derived.Test.YtaakbajhbmbhcaaDoorFe16
set_option linter.unusedSimpArgs false
set_option linter.unusedVariables false
namespace Go.Fe
open Ieee

/-! Sums of three products, with a scale for what underflows. -/
theorem nearest_nn (mag : Nat) (place : Int) (hb : (mag : Rat) * two place ≤ two 900) : 0 ≤ V (double.nearest false mag place) := by
  rcases Nat.eq_zero_or_pos mag with h0 | h0
  · obtain ⟨_, _, _, z⟩ := nearest_err false mag place hb
    rw [z h0]; exact Rat.le_refl
  · obtain ⟨last, kept, _, _, hv, _⟩ := nearest_main false mag place h0 (two_lt_iff (Rat.le_trans (two_log h0 place) hb))
    rw [hv]
    have h := Rat.mul_nonneg (nat_nonneg kept) (Rat.le_of_lt (two_pos last))
    have e : sg false = 1 := rfl
    rw [e]
    grind
theorem sq_nn {x p : Nat} (hx : Fn x) (hb : V x * V x ≤ two 900) (hp : double.mul x x = some p) : 0 ≤ V p := by
  obtain ⟨s, m, i, e1, hi⟩ := hx
  have hm : double.mul x x = some (double.nearest false (m * m) (i + i)) := by
    unfold Format.mul
    rw [e1]
    show some (double.write (.number (s ^^ s) (m * m) (i + i))) = _
    rw [Bool.xor_self]
    rfl
  rw [hm] at hp
  rw [← Option.some.inj hp]
  refine nearest_nn _ _ ?_
  have hv : V x * V x = ((m * m : Nat) : Rat) * two (i + i) := by
    unfold V
    rw [e1, Rat.natCast_mul, two_add]
    show (sg s * (m : Rat) * two i) * (sg s * (m : Rat) * two i) = _
    rcases sg_cases s with h | h <;> rw [h] <;> grind
  rw [← hv]; exact hb
theorem mul_s {x y : Nat} {A s : Rat} (fx : Fn x) (fy : Fn y) (h1 : V x * V y ≤ A) (h2 : -A ≤ V x * V y) (hA : A ≤ two 850) (hs : (s = 0 ∧ V x * V y = 0) ∨ two (-800) ≤ s) :
    ∃ r, double.mul x y = some r ∧ Fn r ∧ Nr (V r) (V x * V y) (U * A + 1 / 100 * (U * U) * s) := by
  have k := two_le (show (850 : Int) ≤ 900 by decide)
  have hU := U_pos
  obtain ⟨r, hr, fr, hz, nr⟩ := mul_err fx fy (by grind) (by grind)
  refine ⟨r, hr, fr, ?_⟩
  have A0 : 0 ≤ A := by grind
  have UA := Rat.mul_nonneg (Rat.le_of_lt hU) A0
  rcases hs with ⟨h, h0⟩ | h
  · rw [hz h0, h0, h]
    exact ⟨by grind, by grind⟩
  · obtain ⟨n1, n2⟩ := nr A h1 (by grind)
    have k1 := Rat.mul_le_mul_of_nonneg_left h (show 0 ≤ 1 / 100 * (U * U) by
      have := Rat.mul_nonneg (Rat.le_of_lt hU) (Rat.le_of_lt hU)
      grind)
    have k2 : two (-1075) ≤ 1 / 100 * (U * U) * two (-800) := by decide +kernel
    exact ⟨by grind, by grind⟩
theorem dot_s {a b c x y z : Nat} {A B C s : Rat} (fa : Fn a) (fb : Fn b) (fc : Fn c) (fx : Fn x) (fy : Fn y) (fz : Fn z)
    (a1 : V a * V x ≤ A) (a2 : -A ≤ V a * V x) (b1 : V b * V y ≤ B) (b2 : -B ≤ V b * V y) (c1 : V c * V z ≤ C) (c2 : -C ≤ V c * V z)
    (hb : A + B + C ≤ two 800) (s1 : s ≤ two 800) (hs : (s = 0 ∧ V a * V x = 0 ∧ V b * V y = 0 ∧ V c * V z = 0) ∨ two (-800) ≤ s) :
    ∃ r, Fl.fadd (Fl.fadd (Fl.fmul (some a) (some x)) (Fl.fmul (some b) (some y))) (Fl.fmul (some c) (some z)) = some r ∧ Fn r ∧
      Nr (V r) (V a * V x + V b * V y + V c * V z) (301 / 100 * U * (A + B + C) + U * U * s) := by
  have hU := U_pos
  have hU1 : U ≤ 1 / 100000 := by decide +kernel
  have UU0 := Rat.mul_nonneg (Rat.le_of_lt hU) (Rat.le_of_lt hU)
  have UU1 : U * U ≤ 1 / 1000 := by decide +kernel
  have A0 : 0 ≤ A := by grind
  have B0 : 0 ≤ B := by grind
  have C0 : 0 ≤ C := by grind
  have h8 := two_pos 800
  have h9 : 1000 * two 800 ≤ two 850 := by decide +kernel
  have h10 : two 850 ≤ two 900 := two_le (by decide)
  have s0 : 0 ≤ s := by
    rcases hs with ⟨h, _⟩ | h
    · rw [h]; exact Rat.le_refl
    · exact Rat.le_trans (Rat.le_of_lt (two_pos _)) h
  obtain ⟨p, hp, fp, p1, p2⟩ := mul_s fa fx a1 a2 (by grind) (hs.imp (fun h => ⟨h.1, h.2.1⟩) id)
  obtain ⟨q, hq, fq, q1, q2⟩ := mul_s fb fy b1 b2 (by grind) (hs.imp (fun h => ⟨h.1, h.2.2.1⟩) id)
  obtain ⟨r, hr, fr, r1, r2⟩ := mul_s fc fz c1 c2 (by grind) (hs.imp (fun h => ⟨h.1, h.2.2.2⟩) id)
  have u1 := Rat.mul_le_mul_of_nonneg_right hU1 A0
  have u2 := Rat.mul_le_mul_of_nonneg_right hU1 B0
  have u3 := Rat.mul_le_mul_of_nonneg_right hU1 C0
  have v1 := Rat.mul_nonneg (Rat.le_of_lt hU) A0
  have v2 := Rat.mul_nonneg (Rat.le_of_lt hU) B0
  have v3 := Rat.mul_nonneg (Rat.le_of_lt hU) C0
  have t1 := Rat.mul_le_mul_of_nonneg_right UU1 s0
  have t2 := Rat.mul_nonneg UU0 s0
  generalize V a * V x = X at *
  generalize V b * V y = Y at *
  generalize V c * V z = Z at *
  obtain ⟨W, hW⟩ : ∃ W, U * U * s = W := ⟨_, rfl⟩
  have eW : 1 / 100 * (U * U) * s = 1 / 100 * W := by rw [← hW]; grind
  rw [eW] at p1 p2 q1 q2 r1 r2
  rw [hW] at t1 t2 ⊢
  have UW : U * W ≤ 1 / 100000 * W := Rat.mul_le_mul_of_nonneg_right hU1 t2
  have UA2 : U * (U * A) ≤ U * (1 / 100000 * A) := Rat.mul_le_mul_of_nonneg_left u1 (Rat.le_of_lt hU)
  have UB2 : U * (U * B) ≤ U * (1 / 100000 * B) := Rat.mul_le_mul_of_nonneg_left u2 (Rat.le_of_lt hU)
  have UC2 : U * (U * C) ≤ U * (1 / 100000 * C) := Rat.mul_le_mul_of_nonneg_left u3 (Rat.le_of_lt hU)
  have UW0 := Rat.mul_nonneg (Rat.le_of_lt hU) t2
  obtain ⟨d, hd, fd, nd⟩ := add_err fp fq (by grind) (by grind)
  obtain ⟨d1, d2⟩ := nd (A + B + U * A + U * B + 2 / 100 * W) (by grind) (by grind)
  have e1 : U * (A + B + U * A + U * B + 2 / 100 * W) = U * A + U * B + U * (U * A) + U * (U * B) + 2 / 100 * (U * W) := by grind
  rw [e1] at d1 d2
  have D1 : V d - (X + Y) ≤ 20001 / 10000 * (U * A) + 20001 / 10000 * (U * B) + 3 / 100 * W := by grind
  have D2 : (X + Y) - V d ≤ 20001 / 10000 * (U * A) + 20001 / 10000 * (U * B) + 3 / 100 * W := by grind
  obtain ⟨f, hf, ff, nf⟩ := add_err fd fr (by grind) (by grind)
  obtain ⟨f1, f2⟩ := nf (A + B + C + 3 * (U * A) + 3 * (U * B) + 3 * (U * C) + 5 / 100 * W) (by grind) (by grind)
  have e2 : U * (A + B + C + 3 * (U * A) + 3 * (U * B) + 3 * (U * C) + 5 / 100 * W) = U * A + U * B + U * C + 3 * (U * (U * A)) + 3 * (U * (U * B)) + 3 * (U * (U * C)) + 5 / 100 * (U * W) := by grind
  rw [e2] at f1 f2
  refine ⟨f, ?_, ff, ?_⟩
  · show Fl.fadd (Fl.fadd (double.mul a x) (double.mul b y)) (double.mul c z) = _
    rw [hp, hq, hr]
    show Fl.fadd (double.add p q) (some r) = some f
    rw [hd]
    exact hf
  · have e3 : 301 / 100 * U * (A + B + C) = 301 / 100 * (U * A) + 301 / 100 * (U * B) + 301 / 100 * (U * C) := by grind
    rw [e3]
    exact ⟨by grind, by grind⟩
theorem len_s {x y z : Nat} {T s : Rat} (fx : Fn x) (fy : Fn y) (fz : Fn z) (hT : V x * V x + V y * V y + V z * V z = T) (hb : T ≤ two 800) (s1 : s ≤ two 800)
    (hs : (s = 0 ∧ V x * V x = 0 ∧ V y * V y = 0 ∧ V z * V z = 0) ∨ two (-800) ≤ s) :
    ∃ n, Fl.fsqrt (Fl.fadd (Fl.fadd (Fl.fmul (some x) (some x)) (Fl.fmul (some y) (some y))) (Fl.fmul (some z) (some z))) = some n ∧ Fn n ∧ 0 ≤ V n ∧
      Nr (V n * V n) T (62 / 10 * U * T + 2 * (U * U) * s) := by
  have xx := sq_nonneg (V x)
  have yy := sq_nonneg (V y)
  have zz := sq_nonneg (V z)
  have h9 : 1000 * two 800 ≤ two 900 := by decide +kernel
  have h8 := two_pos 800
  obtain ⟨b, hb1, fb, b1, b2⟩ := dot_s (s := s) fx fy fz fx fy fz (A := V x * V x) (B := V y * V y) (C := V z * V z) Rat.le_refl (by grind) Rat.le_refl (by grind) Rat.le_refl (by grind) (by grind) s1 hs
  have hU := U_pos
  have hU1 : U ≤ 1 / 100000 := by decide +kernel
  have UU0 := Rat.mul_nonneg (Rat.le_of_lt hU) (Rat.le_of_lt hU)
  have UU1 : U * U ≤ 1 / 1000 := by decide +kernel
  have T0 : 0 ≤ T := by grind
  have s0 : 0 ≤ s := by
    rcases hs with ⟨h, _⟩ | h
    · rw [h]; exact Rat.le_refl
    · exact Rat.le_trans (Rat.le_of_lt (two_pos _)) h
  have t1 := Rat.mul_le_mul_of_nonneg_right UU1 s0
  have t2 := Rat.mul_nonneg UU0 s0
  have UT := Rat.mul_le_mul_of_nonneg_right hU1 T0
  have UT0 := Rat.mul_nonneg (Rat.le_of_lt hU) T0
  -- the sum is none below nought
  have nn : 0 ≤ V b := by
    obtain ⟨p, hp, fp, _⟩ := mul_err fx fx (by grind) (by grind)
    obtain ⟨q, hq, fq, _⟩ := mul_err fy fy (by grind) (by grind)
    obtain ⟨r, hr, fr, _⟩ := mul_err fz fz (by grind) (by grind)
    obtain ⟨p', hp', _, p1, p2⟩ := mul_s (s := s) fx fx (A := V x * V x) Rat.le_refl (by grind) (by have : two 800 ≤ two 850 := two_le (by decide); grind) (hs.imp (fun h => ⟨h.1, h.2.1⟩) id)
    obtain ⟨q', hq', _, q1, q2⟩ := mul_s (s := s) fy fy (A := V y * V y) Rat.le_refl (by grind) (by have : two 800 ≤ two 850 := two_le (by decide); grind) (hs.imp (fun h => ⟨h.1, h.2.2.1⟩) id)
    obtain ⟨r', hr', _, r1, r2⟩ := mul_s (s := s) fz fz (A := V z * V z) Rat.le_refl (by grind) (by have : two 800 ≤ two 850 := two_le (by decide); grind) (hs.imp (fun h => ⟨h.1, h.2.2.2⟩) id)
    have ep : p' = p := Option.some.inj (hp'.symm.trans hp)
    have eq : q' = q := Option.some.inj (hq'.symm.trans hq)
    have er : r' = r := Option.some.inj (hr'.symm.trans hr)
    subst ep eq er
    have p0 := sq_nn fx (by grind) hp
    have q0 := sq_nn fy (by grind) hq
    have r0 := sq_nn fz (by grind) hr
    have m1 := Rat.mul_le_mul_of_nonneg_right hU1 xx
    have m2 := Rat.mul_le_mul_of_nonneg_right hU1 yy
    have m3 := Rat.mul_le_mul_of_nonneg_right hU1 zz
    generalize V x * V x = X at *
    generalize V y * V y = Y at *
    generalize V z * V z = Z at *
    obtain ⟨d, hd, fd, nd⟩ := add_err fp fq (by grind) (by grind)
    obtain ⟨d1, d2⟩ := nd (V p' + V q') Rat.le_refl (by grind)
    have g1 := Rat.mul_le_mul_of_nonneg_right hU1 (show 0 ≤ V p' + V q' by grind)
    obtain ⟨f, hf, ff, nf⟩ := add_err fd fr (by grind) (by grind)
    obtain ⟨f1, f2⟩ := nf (V d + V r') Rat.le_refl (by grind)
    have g2 := Rat.mul_le_mul_of_nonneg_right hU1 (show 0 ≤ V d + V r' by grind)
    have e : some f = some b := by
      rw [← hb1]
      show _ = Fl.fadd (Fl.fadd (double.mul x x) (double.mul y y)) (double.mul z z)
      rw [hp, hq, hr]
      show _ = Fl.fadd (double.add p' q') (some r')
      rw [hd]
      exact hf.symm
    rw [← Option.some.inj e]
    grind
  rw [hT] at b1 b2
  obtain ⟨n, hn, fn, n0, k1, k2⟩ := sqrt_err3 fb nn (by grind)
  refine ⟨n, ?_, fn, n0, ?_⟩
  · rw [hb1]; exact hn
  · have N0 := sq_nonneg (V n)
    generalize V n * V n = N at *
    obtain ⟨W, hW⟩ : ∃ W, U * U * s = W := ⟨_, rfl⟩
    have eW : 2 * (U * U) * s = 2 * W := by rw [← hW]; grind
    rw [hW] at b1 b2 t1 t2
    rw [eW]
    generalize V b = B at *
    have q1 : U * B ≤ U * (10001 / 10000 * T + W) := Rat.mul_le_mul_of_nonneg_left (by grind) (Rat.le_of_lt hU)
    have N1 : N ≤ 10002 / 10000 * T + 11 / 10 * W := by
      have q2 : U * W ≤ 1 / 100000 * W := Rat.mul_le_mul_of_nonneg_right hU1 t2
      grind
    have q3 : U * N ≤ U * (10002 / 10000 * T + 11 / 10 * W) := Rat.mul_le_mul_of_nonneg_left N1 (Rat.le_of_lt hU)
    have q4 : U * W ≤ 1 / 100000 * W := Rat.mul_le_mul_of_nonneg_right hU1 t2
    exact ⟨by grind, by grind⟩
end Go.Fe
/- Rotations by rationals. Nothing of a program stands here. -/
set_option linter.unusedSimpArgs false
set_option linter.unusedVariables false
namespace Go.Fe

/-! Rotations by rationals: a matrix out of four numbers, its way back, its rows. -/
/-- The matrix, row by row. -/
def r11 (w x y z : Rat) : Rat := 1 - 2 * (y * y + z * z)
def r12 (w x y z : Rat) : Rat := 2 * (x * y - w * z)
def r13 (w x y z : Rat) : Rat := 2 * (x * z + w * y)
def r21 (w x y z : Rat) : Rat := 2 * (x * y + w * z)
def r22 (w x y z : Rat) : Rat := 1 - 2 * (x * x + z * z)
def r23 (w x y z : Rat) : Rat := 2 * (y * z - w * x)
def r31 (w x y z : Rat) : Rat := 2 * (x * z - w * y)
def r32 (w x y z : Rat) : Rat := 2 * (y * z + w * x)
def r33 (w x y z : Rat) : Rat := 1 - 2 * (x * x + y * y)
def nrmQ (w x y z : Rat) : Rat := w * w + x * x + y * y + z * z
theorem dot12 (w x y z : Rat) : r11 w x y z * r21 w x y z + r12 w x y z * r22 w x y z + r13 w x y z * r23 w x y z = 4 * (1 - nrmQ w x y z) * (x * y) := by
  unfold r11 r12 r13 r21 r22 r23 nrmQ; grind
theorem dot23 (w x y z : Rat) : r21 w x y z * r31 w x y z + r22 w x y z * r32 w x y z + r23 w x y z * r33 w x y z = 4 * (1 - nrmQ w x y z) * (y * z) := by
  unfold r31 r32 r33 r21 r22 r23 nrmQ; grind
theorem dot31 (w x y z : Rat) : r31 w x y z * r11 w x y z + r32 w x y z * r12 w x y z + r33 w x y z * r13 w x y z = 4 * (1 - nrmQ w x y z) * (z * x) := by
  unfold r31 r32 r33 r11 r12 r13 nrmQ; grind
theorem row1 (w x y z : Rat) : r11 w x y z * r11 w x y z + r12 w x y z * r12 w x y z + r13 w x y z * r13 w x y z = 1 - 4 * (1 - nrmQ w x y z) * (y * y + z * z) := by
  unfold r11 r12 r13 nrmQ; grind
theorem row2 (w x y z : Rat) : r21 w x y z * r21 w x y z + r22 w x y z * r22 w x y z + r23 w x y z * r23 w x y z = 1 - 4 * (1 - nrmQ w x y z) * (x * x + z * z) := by
  unfold r21 r22 r23 nrmQ; grind
theorem row3 (w x y z : Rat) : r31 w x y z * r31 w x y z + r32 w x y z * r32 w x y z + r33 w x y z * r33 w x y z = 1 - 4 * (1 - nrmQ w x y z) * (x * x + y * y) := by
  unfold r31 r32 r33 nrmQ; grind
/-- Columns, for the way back. -/
theorem col1 (w x y z : Rat) : r11 w x y z * r11 w x y z + r21 w x y z * r21 w x y z + r31 w x y z * r31 w x y z = 1 - 4 * (1 - nrmQ w x y z) * (y * y + z * z) := by
  unfold r11 r21 r31 nrmQ; grind
theorem col2 (w x y z : Rat) : r12 w x y z * r12 w x y z + r22 w x y z * r22 w x y z + r32 w x y z * r32 w x y z = 1 - 4 * (1 - nrmQ w x y z) * (x * x + z * z) := by
  unfold r12 r22 r32 nrmQ; grind
theorem col3 (w x y z : Rat) : r13 w x y z * r13 w x y z + r23 w x y z * r23 w x y z + r33 w x y z * r33 w x y z = 1 - 4 * (1 - nrmQ w x y z) * (x * x + y * y) := by
  unfold r13 r23 r33 nrmQ; grind
theorem col12 (w x y z : Rat) : r11 w x y z * r12 w x y z + r21 w x y z * r22 w x y z + r31 w x y z * r32 w x y z = 4 * (1 - nrmQ w x y z) * (x * y) := by
  unfold r11 r21 r31 r12 r22 r32 nrmQ; grind
theorem col23 (w x y z : Rat) : r12 w x y z * r13 w x y z + r22 w x y z * r23 w x y z + r32 w x y z * r33 w x y z = 4 * (1 - nrmQ w x y z) * (y * z) := by
  unfold r13 r23 r33 r12 r22 r32 nrmQ; grind
theorem col31 (w x y z : Rat) : r13 w x y z * r11 w x y z + r23 w x y z * r21 w x y z + r33 w x y z * r31 w x y z = 4 * (1 - nrmQ w x y z) * (z * x) := by
  unfold r13 r23 r33 r11 r21 r31 nrmQ; grind
theorem cauchy (a b c x y z : Rat) : (a * x + b * y + c * z) * (a * x + b * y + c * z) ≤ (a * a + b * b + c * c) * (x * x + y * y + z * z) := by
  have h1 := sq_nonneg (a * y - b * x)
  have h2 := sq_nonneg (b * z - c * y)
  have h3 := sq_nonneg (c * x - a * z)
  grind
end Go.Fe
/- The matrix of four floats: its rows. Nothing of a program stands here. -/
set_option linter.unusedSimpArgs false
set_option linter.unusedVariables false
namespace Go.Fe
open Ieee Fl

/-! The matrix of four floats, row by row. -/
def smF (p q r s : Option Nat) : Option Nat := Fl.fmul (Fl.fl 4611686018427387904) (Fl.fadd (Fl.fmul p q) (Fl.fmul r s))
def lsF (p q r s : Option Nat) : Option Nat := Fl.fmul (Fl.fl 4611686018427387904) (Fl.fsub (Fl.fmul p q) (Fl.fmul r s))
def dgF (p r : Option Nat) : Option Nat := Fl.fsub (Fl.fl 4607182418800017408) (smF p p r r)
theorem off_err {p q r s : Nat} (fp : Fn p) (fq : Fn q) (fr : Fn r) (fs : Fn s) (h : V p * V p + V q * V q + (V r * V r + V s * V s) ≤ 1 + 30 * U) :
    (∃ t, smF (some p) (some q) (some r) (some s) = some t ∧ Fn t ∧ Nr (V t) (2 * (V p * V q + V r * V s)) (201 / 100 * U)) ∧
    (∃ t, lsF (some p) (some q) (some r) (some s) = some t ∧ Fn t ∧ Nr (V t) (2 * (V p * V q - V r * V s)) (201 / 100 * U)) := by
  have pp := sq_nonneg (V p)
  have qq := sq_nonneg (V q)
  have rr := sq_nonneg (V r)
  have ss := sq_nonneg (V s)
  have k1 := sq_nonneg (V p - V q)
  have k2 := sq_nonneg (V p + V q)
  have k3 := sq_nonneg (V r - V s)
  have k4 := sq_nonneg (V r + V s)
  have hU := U_pos
  have hU1 : U ≤ 1 / 100000 := by decide +kernel
  obtain ⟨⟨t, ht, ft, t1, t2⟩, ⟨u, hu, fu, u1, u2⟩⟩ := pair_err fp fq fr fs (a := (V p * V p + V q * V q) / 2) (b := (V r * V r + V s * V s) / 2) (by grind) (by grind) (by grind) (by grind) (by grind) (by grind)
  have k : 4 * U * ((V p * V p + V q * V q) / 2 + (V r * V r + V s * V s) / 2) + 20 * (U * U) ≤ 201 / 100 * U := by
    have g1 := Rat.mul_le_mul_of_nonneg_left h (Rat.le_of_lt hU)
    have g2 := Rat.mul_le_mul_of_nonneg_left hU1 (Rat.le_of_lt hU)
    grind
  exact ⟨⟨t, ht, ft, ⟨by grind, by grind⟩⟩, ⟨u, hu, fu, ⟨by grind, by grind⟩⟩⟩
theorem dia_err {p r : Nat} (fp : Fn p) (fr : Fn r) (h : V p * V p + V r * V r ≤ 1 + 30 * U) :
    ∃ t, dgF (some p) (some r) = some t ∧ Fn t ∧ Nr (V t) (1 - 2 * (V p * V p + V r * V r)) (51 / 10 * U) := by
  have pp := sq_nonneg (V p)
  have rr := sq_nonneg (V r)
  have hU := U_pos
  have hU1 : U ≤ 1 / 100000 := by decide +kernel
  obtain ⟨⟨t, ht, ft, t1, t2⟩, _⟩ := pair_err fp fp fr fr (a := V p * V p) (b := V r * V r) Rat.le_refl (by grind) Rat.le_refl (by grind) (by grind) (by grind)
  obtain ⟨d, hd, fd, d1, d2⟩ := diag_err (p := p) (r := r) (V p * V p + V r * V r) Rat.le_refl (by grind) ft ⟨t1, t2⟩
  have k : 4 * U * (V p * V p + V r * V r) + 103 / 100 * U + 100 * (U * U) ≤ 51 / 10 * U := by
    have g1 := Rat.mul_le_mul_of_nonneg_left h (Rat.le_of_lt hU)
    have g2 := Rat.mul_le_mul_of_nonneg_left hU1 (Rat.le_of_lt hU)
    grind
  refine ⟨d, ?_, fd, ⟨by grind, by grind⟩⟩
  show Fl.fsub _ (smF (some p) (some p) (some r) (some r)) = _
  rw [show smF (some p) (some p) (some r) (some r) = some t from ht]
  exact hd
/-- A row of floats near a row of rationals. -/
structure RowOk (X : V3) (a b c : Rat) : Prop where
  v : ∃ x y z e f g, X = ⟨some x, some y, some z⟩ ∧ Fn x ∧ Fn y ∧ Fn z ∧ Nr (V x) a e ∧ Nr (V y) b f ∧ Nr (V z) c g ∧ 0 ≤ e ∧ 0 ≤ f ∧ 0 ≤ g ∧ e + f + g ≤ 93 / 10 * U
  sq : Nr (a * a + b * b + c * c) 1 (100 * U)
structure MatF where (a b c : V3)
def matF (w x y z : Option Nat) : MatF where
  a := ⟨dgF y z, lsF x y w z, smF x z w y⟩
  b := ⟨smF x y w z, dgF x z, lsF y z w x⟩
  c := ⟨lsF x z w y, smF y z w x, dgF x y⟩
/-- What the rotation's words fit. -/
structure RotOk (w x y z : Nat) : Prop where
  fw : Fn w
  fx : Fn x
  fy : Fn y
  fz : Fn z
  n : Nr (nrmQ (V w) (V x) (V y) (V z)) 1 (30 * U)
  k : Nr (4 * (1 - nrmQ (V w) (V x) (V y) (V z)) * (V x * V x + V y * V y + V z * V z)) 0 (91 * U)
theorem part_k {k s t e : Rat} (hk : Nr (k * s) 0 e) (h0 : 0 ≤ t) (h1 : t ≤ s) : Nr (k * t) 0 e := by
  obtain ⟨k1, k2⟩ := hk
  rcases Rat.le_total (a := 0) (b := k) with h | h
  · have g1 := Rat.mul_le_mul_of_nonneg_left h1 h
    have g2 := Rat.mul_nonneg h h0
    exact ⟨by grind, by grind⟩
  · have g1 := Rat.mul_le_mul_of_nonneg_left h1 (show 0 ≤ -k by grind)
    have g2 := Rat.mul_nonneg (show 0 ≤ -k by grind) h0
    exact ⟨by grind, by grind⟩
theorem row_sq {k t : Rat} {R : Rat} (h : R = 1 - k * t) (hk : Nr (k * t) 0 (91 * U)) : Nr R 1 (100 * U) := by
  have hU := U_pos
  obtain ⟨k1, k2⟩ := hk
  exact ⟨by grind, by grind⟩
theorem mat_rows {w x y z : Nat} (h : RotOk w x y z) :
    RowOk (matF (some w) (some x) (some y) (some z)).a (r11 (V w) (V x) (V y) (V z)) (r12 (V w) (V x) (V y) (V z)) (r13 (V w) (V x) (V y) (V z)) ∧
    RowOk (matF (some w) (some x) (some y) (some z)).b (r21 (V w) (V x) (V y) (V z)) (r22 (V w) (V x) (V y) (V z)) (r23 (V w) (V x) (V y) (V z)) ∧
    RowOk (matF (some w) (some x) (some y) (some z)).c (r31 (V w) (V x) (V y) (V z)) (r32 (V w) (V x) (V y) (V z)) (r33 (V w) (V x) (V y) (V z)) := by
  obtain ⟨fw, fx, fy, fz, ⟨n1, n2⟩, hk⟩ := h
  have hU := U_pos
  have ww := sq_nonneg (V w)
  have xx := sq_nonneg (V x)
  have yy := sq_nonneg (V y)
  have zz := sq_nonneg (V z)
  have q1 := row_sq (row1 (V w) (V x) (V y) (V z)) (part_k hk (t := V y * V y + V z * V z) (by grind) (by grind))
  have q2 := row_sq (row2 (V w) (V x) (V y) (V z)) (part_k hk (t := V x * V x + V z * V z) (by grind) (by grind))
  have q3 := row_sq (row3 (V w) (V x) (V y) (V z)) (part_k hk (t := V x * V x + V y * V y) (by grind) (by grind))
  clear hk
  unfold nrmQ at n1 n2
  obtain ⟨a1, h1, f1, e1⟩ := dia_err fy fz (by grind)
  obtain ⟨b2, h5, f5, e5⟩ := dia_err fx fz (by grind)
  obtain ⟨c3, h9, f9, e9⟩ := dia_err fx fy (by grind)
  obtain ⟨⟨b1, h4, f4, e4⟩, ⟨a2, h2, f2, e2⟩⟩ := off_err fx fy fw fz (by grind)
  obtain ⟨⟨a3, h3, f3, e3⟩, ⟨c1, h7, f7, e7⟩⟩ := off_err fx fz fw fy (by grind)
  obtain ⟨⟨c2, h8, f8, e8⟩, ⟨b3, h6, f6, e6⟩⟩ := off_err fy fz fw fx (by grind)
  have s1 : 51 / 10 * U + 201 / 100 * U + 201 / 100 * U ≤ 93 / 10 * U := by grind
  have s2 : 201 / 100 * U + 51 / 10 * U + 201 / 100 * U ≤ 93 / 10 * U := by grind
  have s3 : 201 / 100 * U + 201 / 100 * U + 51 / 10 * U ≤ 93 / 10 * U := by grind
  have t1 : 0 ≤ 51 / 10 * U := by grind
  have t2 : 0 ≤ 201 / 100 * U := by grind
  refine ⟨⟨⟨a1, a2, a3, _, _, _, ?_, f1, f2, f3, e1, e2, e3, t1, t2, t2, s1⟩, q1⟩, ⟨⟨b1, b2, b3, _, _, _, ?_, f4, f5, f6, e4, e5, e6, t2, t1, t2, s2⟩, q2⟩, ⟨⟨c1, c2, c3, _, _, _, ?_, f7, f8, f9, e7, e8, e9, t2, t2, t1, s3⟩, q3⟩⟩
  · show (⟨_, _, _⟩ : V3) = _; rw [h1, h2, h3]
  · show (⟨_, _, _⟩ : V3) = _; rw [h4, h5, h6]
  · show (⟨_, _, _⟩ : V3) = _; rw [h7, h8, h9]
end Go.Fe
/- A row of a rotation on a vector. Nothing of a program stands here. -/
set_option linter.unusedSimpArgs false
set_option linter.unusedVariables false
namespace Go.Fe
open Ieee Fl

/-! A row of a rotation on a vector. -/
theorem mul_le_both {a b A B : Rat} (a0 : 0 ≤ a) (b0 : 0 ≤ b) (h1 : a ≤ A) (h2 : b ≤ B) : a * b ≤ A * B :=
  Rat.le_trans (Rat.mul_le_mul_of_nonneg_right h1 b0) (Rat.mul_le_mul_of_nonneg_left h2 (Rat.le_trans a0 h1))
theorem ab_mul (x y : Rat) : x * y ≤ ab x * ab y ∧ -(ab x * ab y) ≤ x * y := by
  obtain ⟨a1, a2, _⟩ := ab_le x
  obtain ⟨b1, b2, _⟩ := ab_le y
  exact mul_size a1 (by grind) b1 (by grind)
/-- The square of what is near. -/
theorem sq_near {u a e : Rat} (h : Nr u a e) (h1 : a * a ≤ 1 + 100 * U) (he : e ≤ 93 / 10 * U) (e0 : 0 ≤ e) : u * u ≤ a * a + 22 / 10 * e := by
  obtain ⟨n1, n2⟩ := h
  have hU1 : U ≤ 1 / 100000 := by decide +kernel
  obtain ⟨a1, a2⟩ := abs_le_of_sq (x := a) (m := 101 / 100) (by decide +kernel) (by grind)
  obtain ⟨p, hp⟩ : ∃ p, u - a = p := ⟨_, rfl⟩
  have eu : u = a + p := by grind
  obtain ⟨m1, _⟩ := mul_size (a := a) (b := p) (A := 101 / 100) (B := e) a1 a2 (by grind) (by grind)
  obtain ⟨m2, _⟩ := mul_size (a := p) (b := p) (A := e) (B := 1 / 100) (by grind) (by grind) (by grind) (by grind)
  rw [eu]
  grind
theorem row_dot {X : V3} {a b c : Rat} (h : RowOk X a b c) {p q r : Nat} {m : Rat} (fp : Fn p) (fq : Fn q) (fr : Fn r) (hv : V p * V p + V q * V q + V r * V r ≤ m * m)
    (hm : m ≤ two 700) (hs : (m = 0 ∧ V p = 0 ∧ V q = 0 ∧ V r = 0) ∨ two (-700) ≤ m) :
    ∃ t, Tr.dt X ⟨some p, some q, some r⟩ = some t ∧ Fn t ∧ Nr (V t) (a * V p + b * V q + c * V r) (125 / 10 * U * m) := by
  obtain ⟨⟨x, y, z, e, f, g, rfl, fx, fy, fz, nx, ny, nz, e0, f0, g0, hefg⟩, ⟨s1, s2⟩⟩ := h
  have hU := U_pos
  have hU1 : U ≤ 1 / 100000 := by decide +kernel
  have m0 : 0 ≤ m := by
    rcases hs with ⟨h, _⟩ | h
    · rw [h]; exact Rat.le_refl
    · exact Rat.le_trans (Rat.le_of_lt (two_pos _)) h
  have aa := sq_nonneg a
  have bb := sq_nonneg b
  have cc := sq_nonneg c
  have pp := sq_nonneg (V p)
  have qq := sq_nonneg (V q)
  have rr := sq_nonneg (V r)
  have k1 := sq_near nx (by grind) (by grind) e0
  have k2 := sq_near ny (by grind) (by grind) f0
  have k3 := sq_near nz (by grind) (by grind) g0
  have cau := cauchy (ab (V x)) (ab (V y)) (ab (V z)) (ab (V p)) (ab (V q)) (ab (V r))
  simp only [ab_sq] at cau
  have mm := Rat.mul_nonneg m0 m0
  have x1 : V x * V x + V y * V y + V z * V z ≤ 1001 / 1000 * (1001 / 1000) := by grind
  have xx := sq_nonneg (V x)
  have yy := sq_nonneg (V y)
  have zz := sq_nonneg (V z)
  have k4 := mul_le_both (show 0 ≤ V x * V x + V y * V y + V z * V z by grind) (show 0 ≤ V p * V p + V q * V q + V r * V r by grind) x1 hv
  have k5 : 1001 / 1000 * (1001 / 1000) * (m * m) = 1001 / 1000 * m * (1001 / 1000 * m) := by grind
  rw [k5] at k4
  have tot := (abs_le_of_sq (m := 1001 / 1000 * m) (by grind) (Rat.le_trans cau k4)).1
  obtain ⟨A1, A2⟩ := ab_mul (V x) (V p)
  obtain ⟨B1, B2⟩ := ab_mul (V y) (V q)
  obtain ⟨C1, C2⟩ := ab_mul (V z) (V r)
  have g7 : two 700 ≤ 1 / 2 * two 800 := by decide +kernel
  have g8 : two (-800) ≤ two (-700) := two_le (by decide)
  obtain ⟨t, ht, ft, t1, t2⟩ := dot_s (s := m) fx fy fz fp fq fr A1 A2 B1 B2 C1 C2 (by grind) (by grind) (hs.imp (fun h => ⟨h.1, by rw [h.2.1]; grind, by rw [h.2.2.1]; grind, by rw [h.2.2.2]; grind⟩) (fun h => by grind))
  refine ⟨t, ht, ft, ?_⟩
  -- the matrix' own errors
  obtain ⟨p1, p2⟩ := abs_le_of_sq (x := V p) (m := m) m0 (by grind)
  obtain ⟨q1, q2⟩ := abs_le_of_sq (x := V q) (m := m) m0 (by grind)
  obtain ⟨r1, r2⟩ := abs_le_of_sq (x := V r) (m := m) m0 (by grind)
  obtain ⟨nx1, nx2⟩ := nx
  obtain ⟨ny1, ny2⟩ := ny
  obtain ⟨nz1, nz2⟩ := nz
  obtain ⟨u1, u2⟩ := mul_size (a := V x - a) (b := V p) (A := e) (B := m) nx1 (by grind) p1 p2
  obtain ⟨v1, v2⟩ := mul_size (a := V y - b) (b := V q) (A := f) (B := m) ny1 (by grind) q1 q2
  obtain ⟨w1, w2⟩ := mul_size (a := V z - c) (b := V r) (A := g) (B := m) nz1 (by grind) r1 r2
  have k6 := Rat.mul_le_mul_of_nonneg_right hefg m0
  have k7 := Rat.mul_le_mul_of_nonneg_left tot (Rat.le_of_lt hU)
  have Um := Rat.mul_nonneg (Rat.le_of_lt hU) m0
  have k8 : U * U * m ≤ 1 / 100000 * (U * m) := by
    have := Rat.mul_le_mul_of_nonneg_right hU1 Um
    grind
  clear cau k4 k5 k1 k2 k3 aa bb cc pp qq rr xx yy zz x1 mm hs hv s1 s2 A1 A2 B1 B2 C1 C2 p1 p2 q1 q2 r1 r2 nx1 nx2 ny1 ny2 nz1 nz2 g7 g8 hm tot
  generalize ab (V x) * ab (V p) + ab (V y) * ab (V q) + ab (V z) * ab (V r) = S at *
  have e1 : U * (1001 / 1000 * m) = 1001 / 1000 * (U * m) := by grind
  have e2 : 301 / 100 * U * S = 301 / 100 * (U * S) := by grind
  have e3 : 125 / 10 * U * m = 125 / 10 * (U * m) := by grind
  have e4 : 93 / 10 * U * m = 93 / 10 * (U * m) := by grind
  rw [e4] at k6
  rw [e3]
  rw [e2] at t1 t2
  rw [e1] at k7
  exact ⟨by grind, by grind⟩
end Go.Fe
/- Two coordinates turned by an angle: the error. Nothing of a program stands here. -/
set_option linter.unusedSimpArgs false
set_option linter.unusedVariables false
namespace Go.Fe
open Ieee Fl

/-! Two coordinates turned by an angle. -/
theorem two_s {a c b s : Nat} {A B m : Rat} (fa : Fn a) (fc : Fn c) (fb : Fn b) (fs : Fn s) (a1 : V a * V c ≤ A) (a2 : -A ≤ V a * V c) (b1 : V b * V s ≤ B) (b2 : -B ≤ V b * V s)
    (hb : A + B ≤ two 800) (s1 : m ≤ two 800) (hs : (m = 0 ∧ V a * V c = 0 ∧ V b * V s = 0) ∨ two (-800) ≤ m) :
    (∃ r, Fl.fsub (Fl.fmul (some a) (some c)) (Fl.fmul (some b) (some s)) = some r ∧ Fn r ∧ Nr (V r) (V a * V c - V b * V s) (201 / 100 * U * (A + B) + U * U * m)) ∧
    (∃ r, Fl.fadd (Fl.fmul (some a) (some c)) (Fl.fmul (some b) (some s)) = some r ∧ Fn r ∧ Nr (V r) (V a * V c + V b * V s) (201 / 100 * U * (A + B) + U * U * m)) := by
  have hU := U_pos
  have hU1 : U ≤ 1 / 100000 := by decide +kernel
  have UU0 := Rat.mul_nonneg (Rat.le_of_lt hU) (Rat.le_of_lt hU)
  have UU1 : U * U ≤ 1 / 1000 := by decide +kernel
  have A0 : 0 ≤ A := by grind
  have B0 : 0 ≤ B := by grind
  have h8 := two_pos 800
  have h9 : 1000 * two 800 ≤ two 850 := by decide +kernel
  have h10 : two 850 ≤ two 900 := two_le (by decide)
  have s0 : 0 ≤ m := by
    rcases hs with ⟨h, _⟩ | h
    · rw [h]; exact Rat.le_refl
    · exact Rat.le_trans (Rat.le_of_lt (two_pos _)) h
  obtain ⟨p, hp, fp, p1, p2⟩ := mul_s fa fc a1 a2 (by grind) (hs.imp (fun h => ⟨h.1, h.2.1⟩) id)
  obtain ⟨q, hq, fq, q1, q2⟩ := mul_s fb fs b1 b2 (by grind) (hs.imp (fun h => ⟨h.1, h.2.2⟩) id)
  have u1 := Rat.mul_le_mul_of_nonneg_right hU1 A0
  have u2 := Rat.mul_le_mul_of_nonneg_right hU1 B0
  have v1 := Rat.mul_nonneg (Rat.le_of_lt hU) A0
  have v2 := Rat.mul_nonneg (Rat.le_of_lt hU) B0
  have t1 := Rat.mul_le_mul_of_nonneg_right UU1 s0
  have t2 := Rat.mul_nonneg UU0 s0
  generalize V a * V c = X at *
  generalize V b * V s = Y at *
  obtain ⟨W, hW⟩ : ∃ W, U * U * m = W := ⟨_, rfl⟩
  have eW : 1 / 100 * (U * U) * m = 1 / 100 * W := by rw [← hW]; grind
  rw [eW] at p1 p2 q1 q2
  rw [hW] at t1 t2 ⊢
  have UW : U * W ≤ 1 / 100000 * W := Rat.mul_le_mul_of_nonneg_right hU1 t2
  have UA2 : U * (U * A) ≤ U * (1 / 100000 * A) := Rat.mul_le_mul_of_nonneg_left u1 (Rat.le_of_lt hU)
  have UB2 : U * (U * B) ≤ U * (1 / 100000 * B) := Rat.mul_le_mul_of_nonneg_left u2 (Rat.le_of_lt hU)
  have e1 : U * (A + B + U * A + U * B + 2 / 100 * W) = U * A + U * B + U * (U * A) + U * (U * B) + 2 / 100 * (U * W) := by grind
  have e3 : 201 / 100 * U * (A + B) = 201 / 100 * (U * A) + 201 / 100 * (U * B) := by grind
  rw [e3]
  constructor
  · obtain ⟨d, hd, fd, nd⟩ := sub_err fp fq (by grind) (by grind)
    obtain ⟨d1, d2⟩ := nd (A + B + U * A + U * B + 2 / 100 * W) (by grind) (by grind)
    rw [e1] at d1 d2
    refine ⟨d, ?_, fd, ⟨by grind, by grind⟩⟩
    show Fl.fsub (double.mul a c) (double.mul b s) = _
    rw [hp, hq]
    exact hd
  · obtain ⟨d, hd, fd, nd⟩ := add_err fp fq (by grind) (by grind)
    obtain ⟨d1, d2⟩ := nd (A + B + U * A + U * B + 2 / 100 * W) (by grind) (by grind)
    rw [e1] at d1 d2
    refine ⟨d, ?_, fd, ⟨by grind, by grind⟩⟩
    show Fl.fadd (double.mul a c) (double.mul b s) = _
    rw [hp, hq]
    exact hd
/-- A word that is near a cosine or a sine. -/
theorem twid_sq {c s : Nat} {C S : Rat} (nc : Nr (V c) C (34 / 100000000000000000)) (ns : Nr (V s) S (34 / 100000000000000000)) (hu : Nr (C * C + S * S) 1 (2 / 10000000000000000)) : V c * V c + V s * V s ≤ 1001 / 1000 * (1001 / 1000) := by
  obtain ⟨c1, c2⟩ := unit_le hu
  obtain ⟨s1, s2⟩ := unit_le (C := S) (S := C) (by obtain ⟨h1, h2⟩ := hu; exact ⟨by grind, by grind⟩)
  obtain ⟨a1, a2⟩ := nc
  obtain ⟨b1, b2⟩ := ns
  obtain ⟨u1, u2⟩ := hu
  obtain ⟨p, hp⟩ : ∃ p, V c - C = p := ⟨_, rfl⟩
  obtain ⟨q, hq⟩ : ∃ q, V s - S = q := ⟨_, rfl⟩
  have ec : V c = C + p := by grind
  have es : V s = S + q := by grind
  obtain ⟨m1, _⟩ := mul_size (a := C) (b := p) (A := 1001 / 1000) (B := 1 / 1000000) c1 c2 (by grind) (by grind)
  obtain ⟨m2, _⟩ := mul_size (a := S) (b := q) (A := 1001 / 1000) (B := 1 / 1000000) s1 s2 (by grind) (by grind)
  obtain ⟨m3, _⟩ := mul_size (a := p) (b := p) (A := 1 / 1000000) (B := 1 / 1000000) (by grind) (by grind) (by grind) (by grind)
  obtain ⟨m4, _⟩ := mul_size (a := q) (b := q) (A := 1 / 1000000) (B := 1 / 1000000) (by grind) (by grind) (by grind) (by grind)
  rw [ec, es]
  grind
theorem turn2_err {a b c s : Nat} {C S m : Rat} (fa : Fn a) (fb : Fn b) (fc : Fn c) (fs : Fn s) (nc : Nr (V c) C (34 / 100000000000000000)) (ns : Nr (V s) S (34 / 100000000000000000)) (hu : Nr (C * C + S * S) 1 (2 / 10000000000000000))
    (hv : V a * V a + V b * V b ≤ m * m) (hm : m ≤ two 700) (hs : (m = 0 ∧ V a = 0 ∧ V b = 0) ∨ two (-700) ≤ m) :
    ∃ x y, Fl.fsub (Fl.fmul (some a) (some c)) (Fl.fmul (some b) (some s)) = some x ∧ Fl.fadd (Fl.fmul (some a) (some s)) (Fl.fmul (some b) (some c)) = some y ∧ Fn x ∧ Fn y ∧
      Nr (V x) (V a * C - V b * S) (65 / 10 * U * m) ∧ Nr (V y) (V a * S + V b * C) (65 / 10 * U * m) := by
  have hU := U_pos
  have hU1 : U ≤ 1 / 100000 := by decide +kernel
  have m0 : 0 ≤ m := by
    rcases hs with ⟨h, _⟩ | h
    · rw [h]; exact Rat.le_refl
    · exact Rat.le_trans (Rat.le_of_lt (two_pos _)) h
  have mm := Rat.mul_nonneg m0 m0
  have aa := sq_nonneg (V a)
  have bb := sq_nonneg (V b)
  have ccp := sq_nonneg (V c)
  have ssp := sq_nonneg (V s)
  have tw := twid_sq nc ns hu
  have g7 : two 700 ≤ 1 / 2 * two 800 := by decide +kernel
  have g8 : two (-800) ≤ two (-700) := two_le (by decide)
  have a0 := (ab_le (V a)).2.2
  have b0 := (ab_le (V b)).2.2
  have c0 := (ab_le (V c)).2.2
  have s0 := (ab_le (V s)).2.2
  have k5 : 1001 / 1000 * (1001 / 1000) * (m * m) = 1001 / 1000 * m * (1001 / 1000 * m) := by grind
  have k4 := mul_le_both (show 0 ≤ V c * V c + V s * V s by grind) (show 0 ≤ V a * V a + V b * V b by grind) tw hv
  rw [k5] at k4
  have cau1 := cauchy (ab (V c)) (ab (V s)) 0 (ab (V a)) (ab (V b)) 0
  have cau2 := cauchy (ab (V s)) (ab (V c)) 0 (ab (V a)) (ab (V b)) 0
  simp only [ab_sq] at cau1 cau2
  have tot1 := (abs_le_of_sq (x := ab (V a) * ab (V c) + ab (V b) * ab (V s)) (m := 1001 / 1000 * m) (by grind) (by grind)).1
  have tot2 := (abs_le_of_sq (x := ab (V a) * ab (V s) + ab (V b) * ab (V c)) (m := 1001 / 1000 * m) (by grind) (by grind)).1
  have sum := (abs_le_of_sq (x := ab (V a) + ab (V b)) (m := 1415 / 1000 * m) (by grind) (by
    have := sq_nonneg (ab (V a) - ab (V b))
    have e1 := ab_sq (V a)
    have e2 := ab_sq (V b)
    grind)).1
  obtain ⟨A1, A2⟩ := ab_mul (V a) (V c)
  obtain ⟨B1, B2⟩ := ab_mul (V b) (V s)
  obtain ⟨A3, A4⟩ := ab_mul (V a) (V s)
  obtain ⟨B3, B4⟩ := ab_mul (V b) (V c)
  obtain ⟨⟨x, hx, fx, x1, x2⟩, _⟩ := two_s (m := m) fa fc fb fs A1 A2 B1 B2 (by grind) (by grind) (hs.imp (fun h => ⟨h.1, by rw [h.2.1]; grind, by rw [h.2.2]; grind⟩) (fun h => by grind))
  obtain ⟨_, ⟨y, hy, fy, y1, y2⟩⟩ := two_s (m := m) fa fs fb fc A3 A4 B3 B4 (by grind) (by grind) (hs.imp (fun h => ⟨h.1, by rw [h.2.1]; grind, by rw [h.2.2]; grind⟩) (fun h => by grind))
  refine ⟨x, y, hx, hy, fx, fy, ?_⟩
  have k3 : (34 / 100000000000000000 : Rat) ≤ 307 / 100 * U := by decide +kernel
  obtain ⟨c1, c2⟩ := nc
  obtain ⟨s1, s2⟩ := ns
  obtain ⟨ea1, ea2, _⟩ := ab_le (V a)
  obtain ⟨eb1, eb2, _⟩ := ab_le (V b)
  obtain ⟨p1, p2⟩ := mul_size (a := V a) (b := V c - C) (A := ab (V a)) (B := 307 / 100 * U) ea1 (by grind) (by grind) (by grind)
  obtain ⟨q1, q2⟩ := mul_size (a := V b) (b := V s - S) (A := ab (V b)) (B := 307 / 100 * U) eb1 (by grind) (by grind) (by grind)
  obtain ⟨r1, r2⟩ := mul_size (a := V a) (b := V s - S) (A := ab (V a)) (B := 307 / 100 * U) ea1 (by grind) (by grind) (by grind)
  obtain ⟨t1, t2⟩ := mul_size (a := V b) (b := V c - C) (A := ab (V b)) (B := 307 / 100 * U) eb1 (by grind) (by grind) (by grind)
  have Um := Rat.mul_nonneg (Rat.le_of_lt hU) m0
  have k8 : U * U * m ≤ 1 / 100000 * (U * m) := by
    have := Rat.mul_le_mul_of_nonneg_right hU1 Um
    grind
  have l1 := Rat.mul_le_mul_of_nonneg_left tot1 (Rat.le_of_lt hU)
  have l2 := Rat.mul_le_mul_of_nonneg_left tot2 (Rat.le_of_lt hU)
  have l3 := Rat.mul_le_mul_of_nonneg_left sum (Rat.le_of_lt hU)
  clear cau1 cau2 k4 k5 tw tot1 tot2 sum A1 A2 B1 B2 A3 A4 B3 B4 hs hv hx hy aa bb ccp ssp mm g7 g8 hm hu
  generalize ab (V a) * ab (V c) + ab (V b) * ab (V s) = Z1 at *
  generalize ab (V a) * ab (V s) + ab (V b) * ab (V c) = Z2 at *
  exact ⟨⟨by grind, by grind⟩, ⟨by grind, by grind⟩⟩
end Go.Fe
