/- Sums of three products with a scale for what underflows. Nothing of a program stands here. -/
import Derived.Test.YtdnclgpjcgamgaaDoorFe27
import Derived.Test.YtdnclgpjcgamgaaDoorFe20
set_option linter.unusedSimpArgs false
set_option linter.unusedVariables false
namespace Go.Fe
open Ieee

/-! Sums of three products, with a scale for what underflows. -/
theorem nearest_nn (mag : Nat) (place : Int) (hb : (mag : Rat) * two place ≤ two 900) : 0 ≤ V (double.nearest false mag place) := by
  rcases Nat.eq_zero_or_pos mag with h0 | h0
  · obtain ⟨_, _, _, z⟩ := nearest_err false mag place hb
    rw [z h0]; exact Rat.le_refl
  · obtain ⟨last, kept, _, _, hv, _⟩ := nearest_main false mag place h0 (two_lt_iff (Rat.le_trans (two_log h0 place) hb))
    rw [hv]
    have h := Rat.mul_nonneg (nat_nonneg kept) (Rat.le_of_lt (two_pos last))
    have e : sg false = 1 := rfl
    rw [e]
    grind
theorem sq_nn {x p : Nat} (hx : Fn x) (hb : V x * V x ≤ two 900) (hp : double.mul x x = some p) : 0 ≤ V p := by
  obtain ⟨s, m, i, e1, hi⟩ := hx
  have hm : double.mul x x = some (double.nearest false (m * m) (i + i)) := by
    unfold Format.mul
    rw [e1]
    show some (double.write (.number (s ^^ s) (m * m) (i + i))) = _
    rw [Bool.xor_self]
    rfl
  rw [hm] at hp
  rw [← Option.some.inj hp]
  refine nearest_nn _ _ ?_
  have hv : V x * V x = ((m * m : Nat) : Rat) * two (i + i) := by
    unfold V
    rw [e1, Rat.natCast_mul, two_add]
    show (sg s * (m : Rat) * two i) * (sg s * (m : Rat) * two i) = _
    rcases sg_cases s with h | h <;> rw [h] <;> grind
  rw [← hv]; exact hb
theorem mul_s {x y : Nat} {A s : Rat} (fx : Fn x) (fy : Fn y) (h1 : V x * V y ≤ A) (h2 : -A ≤ V x * V y) (hA : A ≤ two 850) (hs : (s = 0 ∧ V x * V y = 0) ∨ two (-800) ≤ s) :
    ∃ r, double.mul x y = some r ∧ Fn r ∧ Nr (V r) (V x * V y) (U * A + 1 / 100 * (U * U) * s) := by
  have k := two_le (show (850 : Int) ≤ 900 by decide)
  have hU := U_pos
  obtain ⟨r, hr, fr, hz, nr⟩ := mul_err fx fy (by grind) (by grind)
  refine ⟨r, hr, fr, ?_⟩
  have A0 : 0 ≤ A := by grind
  have UA := Rat.mul_nonneg (Rat.le_of_lt hU) A0
  rcases hs with ⟨h, h0⟩ | h
  · rw [hz h0, h0, h]
    exact ⟨by grind, by grind⟩
  · obtain ⟨n1, n2⟩ := nr A h1 (by grind)
    have k1 := Rat.mul_le_mul_of_nonneg_left h (show 0 ≤ 1 / 100 * (U * U) by
      have := Rat.mul_nonneg (Rat.le_of_lt hU) (Rat.le_of_lt hU)
      grind)
    have k2 : two (-1075) ≤ 1 / 100 * (U * U) * two (-800) := by decide +kernel
    exact ⟨by grind, by grind⟩
theorem dot_s {a b c x y z : Nat} {A B C s : Rat} (fa : Fn a) (fb : Fn b) (fc : Fn c) (fx : Fn x) (fy : Fn y) (fz : Fn z)
    (a1 : V a * V x ≤ A) (a2 : -A ≤ V a * V x) (b1 : V b * V y ≤ B) (b2 : -B ≤ V b * V y) (c1 : V c * V z ≤ C) (c2 : -C ≤ V c * V z)
    (hb : A + B + C ≤ two 800) (s1 : s ≤ two 800) (hs : (s = 0 ∧ V a * V x = 0 ∧ V b * V y = 0 ∧ V c * V z = 0) ∨ two (-800) ≤ s) :
    ∃ r, Fl.fadd (Fl.fadd (Fl.fmul (some a) (some x)) (Fl.fmul (some b) (some y))) (Fl.fmul (some c) (some z)) = some r ∧ Fn r ∧
      Nr (V r) (V a * V x + V b * V y + V c * V z) (301 / 100 * U * (A + B + C) + U * U * s) := by
  have hU := U_pos
  have hU1 : U ≤ 1 / 100000 := by decide +kernel
  have UU0 := Rat.mul_nonneg (Rat.le_of_lt hU) (Rat.le_of_lt hU)
  have UU1 : U * U ≤ 1 / 1000 := by decide +kernel
  have A0 : 0 ≤ A := by grind
  have B0 : 0 ≤ B := by grind
  have C0 : 0 ≤ C := by grind
  have h8 := two_pos 800
  have h9 : 1000 * two 800 ≤ two 850 := by decide +kernel
  have h10 : two 850 ≤ two 900 := two_le (by decide)
  have s0 : 0 ≤ s := by
    rcases hs with ⟨h, _⟩ | h
    · rw [h]; exact Rat.le_refl
    · exact Rat.le_trans (Rat.le_of_lt (two_pos _)) h
  obtain ⟨p, hp, fp, p1, p2⟩ := mul_s fa fx a1 a2 (by grind) (hs.imp (fun h => ⟨h.1, h.2.1⟩) id)
  obtain ⟨q, hq, fq, q1, q2⟩ := mul_s fb fy b1 b2 (by grind) (hs.imp (fun h => ⟨h.1, h.2.2.1⟩) id)
  obtain ⟨r, hr, fr, r1, r2⟩ := mul_s fc fz c1 c2 (by grind) (hs.imp (fun h => ⟨h.1, h.2.2.2⟩) id)
  have u1 := Rat.mul_le_mul_of_nonneg_right hU1 A0
  have u2 := Rat.mul_le_mul_of_nonneg_right hU1 B0
  have u3 := Rat.mul_le_mul_of_nonneg_right hU1 C0
  have v1 := Rat.mul_nonneg (Rat.le_of_lt hU) A0
  have v2 := Rat.mul_nonneg (Rat.le_of_lt hU) B0
  have v3 := Rat.mul_nonneg (Rat.le_of_lt hU) C0
  have t1 := Rat.mul_le_mul_of_nonneg_right UU1 s0
  have t2 := Rat.mul_nonneg UU0 s0
  generalize V a * V x = X at *
  generalize V b * V y = Y at *
  generalize V c * V z = Z at *
  obtain ⟨W, hW⟩ : ∃ W, U * U * s = W := ⟨_, rfl⟩
  have eW : 1 / 100 * (U * U) * s = 1 / 100 * W := by rw [← hW]; grind
  rw [eW] at p1 p2 q1 q2 r1 r2
  rw [hW] at t1 t2 ⊢
  have UW : U * W ≤ 1 / 100000 * W := Rat.mul_le_mul_of_nonneg_right hU1 t2
  have UA2 : U * (U * A) ≤ U * (1 / 100000 * A) := Rat.mul_le_mul_of_nonneg_left u1 (Rat.le_of_lt hU)
  have UB2 : U * (U * B) ≤ U * (1 / 100000 * B) := Rat.mul_le_mul_of_nonneg_left u2 (Rat.le_of_lt hU)
  have UC2 : U * (U * C) ≤ U * (1 / 100000 * C) := Rat.mul_le_mul_of_nonneg_left u3 (Rat.le_of_lt hU)
  have UW0 := Rat.mul_nonneg (Rat.le_of_lt hU) t2
  obtain ⟨d, hd, fd, nd⟩ := add_err fp fq (by grind) (by grind)
  obtain ⟨d1, d2⟩ := nd (A + B + U * A + U * B + 2 / 100 * W) (by grind) (by grind)
  have e1 : U * (A + B + U * A + U * B + 2 / 100 * W) = U * A + U * B + U * (U * A) + U * (U * B) + 2 / 100 * (U * W) := by grind
  rw [e1] at d1 d2
  have D1 : V d - (X + Y) ≤ 20001 / 10000 * (U * A) + 20001 / 10000 * (U * B) + 3 / 100 * W := by grind
  have D2 : (X + Y) - V d ≤ 20001 / 10000 * (U * A) + 20001 / 10000 * (U * B) + 3 / 100 * W := by grind
  obtain ⟨f, hf, ff, nf⟩ := add_err fd fr (by grind) (by grind)
  obtain ⟨f1, f2⟩ := nf (A + B + C + 3 * (U * A) + 3 * (U * B) + 3 * (U * C) + 5 / 100 * W) (by grind) (by grind)
  have e2 : U * (A + B + C + 3 * (U * A) + 3 * (U * B) + 3 * (U * C) + 5 / 100 * W) = U * A + U * B + U * C + 3 * (U * (U * A)) + 3 * (U * (U * B)) + 3 * (U * (U * C)) + 5 / 100 * (U * W) := by grind
  rw [e2] at f1 f2
  refine ⟨f, ?_, ff, ?_⟩
  · show Fl.fadd (Fl.fadd (double.mul a x) (double.mul b y)) (double.mul c z) = _
    rw [hp, hq, hr]
    show Fl.fadd (double.add p q) (some r) = some f
    rw [hd]
    exact hf
  · have e3 : 301 / 100 * U * (A + B + C) = 301 / 100 * (U * A) + 301 / 100 * (U * B) + 301 / 100 * (U * C) := by grind
    rw [e3]
    exact ⟨by grind, by grind⟩
theorem len_s {x y z : Nat} {T s : Rat} (fx : Fn x) (fy : Fn y) (fz : Fn z) (hT : V x * V x + V y * V y + V z * V z = T) (hb : T ≤ two 800) (s1 : s ≤ two 800)
    (hs : (s = 0 ∧ V x * V x = 0 ∧ V y * V y = 0 ∧ V z * V z = 0) ∨ two (-800) ≤ s) :
    ∃ n, Fl.fsqrt (Fl.fadd (Fl.fadd (Fl.fmul (some x) (some x)) (Fl.fmul (some y) (some y))) (Fl.fmul (some z) (some z))) = some n ∧ Fn n ∧ 0 ≤ V n ∧
      Nr (V n * V n) T (62 / 10 * U * T + 2 * (U * U) * s) := by
  have xx := sq_nonneg (V x)
  have yy := sq_nonneg (V y)
  have zz := sq_nonneg (V z)
  have h9 : 1000 * two 800 ≤ two 900 := by decide +kernel
  have h8 := two_pos 800
  obtain ⟨b, hb1, fb, b1, b2⟩ := dot_s (s := s) fx fy fz fx fy fz (A := V x * V x) (B := V y * V y) (C := V z * V z) Rat.le_refl (by grind) Rat.le_refl (by grind) Rat.le_refl (by grind) (by grind) s1 hs
  have hU := U_pos
  have hU1 : U ≤ 1 / 100000 := by decide +kernel
  have UU0 := Rat.mul_nonneg (Rat.le_of_lt hU) (Rat.le_of_lt hU)
  have UU1 : U * U ≤ 1 / 1000 := by decide +kernel
  have T0 : 0 ≤ T := by grind
  have s0 : 0 ≤ s := by
    rcases hs with ⟨h, _⟩ | h
    · rw [h]; exact Rat.le_refl
    · exact Rat.le_trans (Rat.le_of_lt (two_pos _)) h
  have t1 := Rat.mul_le_mul_of_nonneg_right UU1 s0
  have t2 := Rat.mul_nonneg UU0 s0
  have UT := Rat.mul_le_mul_of_nonneg_right hU1 T0
  have UT0 := Rat.mul_nonneg (Rat.le_of_lt hU) T0
  -- the sum is none below nought
  have nn : 0 ≤ V b := by
    obtain ⟨p, hp, fp, _⟩ := mul_err fx fx (by grind) (by grind)
    obtain ⟨q, hq, fq, _⟩ := mul_err fy fy (by grind) (by grind)
    obtain ⟨r, hr, fr, _⟩ := mul_err fz fz (by grind) (by grind)
    obtain ⟨p', hp', _, p1, p2⟩ := mul_s (s := s) fx fx (A := V x * V x) Rat.le_refl (by grind) (by have : two 800 ≤ two 850 := two_le (by decide); grind) (hs.imp (fun h => ⟨h.1, h.2.1⟩) id)
    obtain ⟨q', hq', _, q1, q2⟩ := mul_s (s := s) fy fy (A := V y * V y) Rat.le_refl (by grind) (by have : two 800 ≤ two 850 := two_le (by decide); grind) (hs.imp (fun h => ⟨h.1, h.2.2.1⟩) id)
    obtain ⟨r', hr', _, r1, r2⟩ := mul_s (s := s) fz fz (A := V z * V z) Rat.le_refl (by grind) (by have : two 800 ≤ two 850 := two_le (by decide); grind) (hs.imp (fun h => ⟨h.1, h.2.2.2⟩) id)
    have ep : p' = p := Option.some.inj (hp'.symm.trans hp)
    have eq : q' = q := Option.some.inj (hq'.symm.trans hq)
    have er : r' = r := Option.some.inj (hr'.symm.trans hr)
    subst ep eq er
    have p0 := sq_nn fx (by grind) hp
    have q0 := sq_nn fy (by grind) hq
    have r0 := sq_nn fz (by grind) hr
    have m1 := Rat.mul_le_mul_of_nonneg_right hU1 xx
    have m2 := Rat.mul_le_mul_of_nonneg_right hU1 yy
    have m3 := Rat.mul_le_mul_of_nonneg_right hU1 zz
    generalize V x * V x = X at *
    generalize V y * V y = Y at *
    generalize V z * V z = Z at *
    obtain ⟨d, hd, fd, nd⟩ := add_err fp fq (by grind) (by grind)
    obtain ⟨d1, d2⟩ := nd (V p' + V q') Rat.le_refl (by grind)
    have g1 := Rat.mul_le_mul_of_nonneg_right hU1 (show 0 ≤ V p' + V q' by grind)
    obtain ⟨f, hf, ff, nf⟩ := add_err fd fr (by grind) (by grind)
    obtain ⟨f1, f2⟩ := nf (V d + V r') Rat.le_refl (by grind)
    have g2 := Rat.mul_le_mul_of_nonneg_right hU1 (show 0 ≤ V d + V r' by grind)
    have e : some f = some b := by
      rw [← hb1]
      show _ = Fl.fadd (Fl.fadd (double.mul x x) (double.mul y y)) (double.mul z z)
      rw [hp, hq, hr]
      show _ = Fl.fadd (double.add p' q') (some r')
      rw [hd]
      exact hf.symm
    rw [← Option.some.inj e]
    grind
  rw [hT] at b1 b2
  obtain ⟨n, hn, fn, n0, k1, k2⟩ := sqrt_err3 fb nn (by grind)
  refine ⟨n, ?_, fn, n0, ?_⟩
  · rw [hb1]; exact hn
  · have N0 := sq_nonneg (V n)
    generalize V n * V n = N at *
    obtain ⟨W, hW⟩ : ∃ W, U * U * s = W := ⟨_, rfl⟩
    have eW : 2 * (U * U) * s = 2 * W := by rw [← hW]; grind
    rw [hW] at b1 b2 t1 t2
    rw [eW]
    generalize V b = B at *
    have q1 : U * B ≤ U * (10001 / 10000 * T + W) := Rat.mul_le_mul_of_nonneg_left (by grind) (Rat.le_of_lt hU)
    have N1 : N ≤ 10002 / 10000 * T + 11 / 10 * W := by
      have q2 : U * W ≤ 1 / 100000 * W := Rat.mul_le_mul_of_nonneg_right hU1 t2
      grind
    have q3 : U * N ≤ U * (10002 / 10000 * T + 11 / 10 * W) := Rat.mul_le_mul_of_nonneg_left N1 (Rat.le_of_lt hU)
    have q4 : U * W ≤ 1 / 100000 * W := Rat.mul_le_mul_of_nonneg_right hU1 t2
    exact ⟨by grind, by grind⟩
end Go.Fe
