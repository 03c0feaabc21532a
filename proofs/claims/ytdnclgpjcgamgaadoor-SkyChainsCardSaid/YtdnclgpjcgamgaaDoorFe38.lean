/- Two coordinates turned by an angle: the error. Nothing of a program stands here. -/
import Derived.Test.YtdnclgpjcgamgaaDoorFe31
set_option linter.unusedSimpArgs false
set_option linter.unusedVariables false
namespace Go.Fe
open Ieee Fl

/-! Two coordinates turned by an angle. -/
theorem two_s {a c b s : Nat} {A B m : Rat} (fa : Fn a) (fc : Fn c) (fb : Fn b) (fs : Fn s) (a1 : V a * V c ≤ A) (a2 : -A ≤ V a * V c) (b1 : V b * V s ≤ B) (b2 : -B ≤ V b * V s)
    (hb : A + B ≤ two 800) (s1 : m ≤ two 800) (hs : (m = 0 ∧ V a * V c = 0 ∧ V b * V s = 0) ∨ two (-800) ≤ m) :
    (∃ r, Fl.fsub (Fl.fmul (some a) (some c)) (Fl.fmul (some b) (some s)) = some r ∧ Fn r ∧ Nr (V r) (V a * V c - V b * V s) (201 / 100 * U * (A + B) + U * U * m)) ∧
    (∃ r, Fl.fadd (Fl.fmul (some a) (some c)) (Fl.fmul (some b) (some s)) = some r ∧ Fn r ∧ Nr (V r) (V a * V c + V b * V s) (201 / 100 * U * (A + B) + U * U * m)) := by
  have hU := U_pos
  have hU1 : U ≤ 1 / 100000 := by decide +kernel
  have UU0 := Rat.mul_nonneg (Rat.le_of_lt hU) (Rat.le_of_lt hU)
  have UU1 : U * U ≤ 1 / 1000 := by decide +kernel
  have A0 : 0 ≤ A := by grind
  have B0 : 0 ≤ B := by grind
  have h8 := two_pos 800
  have h9 : 1000 * two 800 ≤ two 850 := by decide +kernel
  have h10 : two 850 ≤ two 900 := two_le (by decide)
  have s0 : 0 ≤ m := by
    rcases hs with ⟨h, _⟩ | h
    · rw [h]; exact Rat.le_refl
    · exact Rat.le_trans (Rat.le_of_lt (two_pos _)) h
  obtain ⟨p, hp, fp, p1, p2⟩ := mul_s fa fc a1 a2 (by grind) (hs.imp (fun h => ⟨h.1, h.2.1⟩) id)
  obtain ⟨q, hq, fq, q1, q2⟩ := mul_s fb fs b1 b2 (by grind) (hs.imp (fun h => ⟨h.1, h.2.2⟩) id)
  have u1 := Rat.mul_le_mul_of_nonneg_right hU1 A0
  have u2 := Rat.mul_le_mul_of_nonneg_right hU1 B0
  have v1 := Rat.mul_nonneg (Rat.le_of_lt hU) A0
  have v2 := Rat.mul_nonneg (Rat.le_of_lt hU) B0
  have t1 := Rat.mul_le_mul_of_nonneg_right UU1 s0
  have t2 := Rat.mul_nonneg UU0 s0
  generalize V a * V c = X at *
  generalize V b * V s = Y at *
  obtain ⟨W, hW⟩ : ∃ W, U * U * m = W := ⟨_, rfl⟩
  have eW : 1 / 100 * (U * U) * m = 1 / 100 * W := by rw [← hW]; grind
  rw [eW] at p1 p2 q1 q2
  rw [hW] at t1 t2 ⊢
  have UW : U * W ≤ 1 / 100000 * W := Rat.mul_le_mul_of_nonneg_right hU1 t2
  have UA2 : U * (U * A) ≤ U * (1 / 100000 * A) := Rat.mul_le_mul_of_nonneg_left u1 (Rat.le_of_lt hU)
  have UB2 : U * (U * B) ≤ U * (1 / 100000 * B) := Rat.mul_le_mul_of_nonneg_left u2 (Rat.le_of_lt hU)
  have e1 : U * (A + B + U * A + U * B + 2 / 100 * W) = U * A + U * B + U * (U * A) + U * (U * B) + 2 / 100 * (U * W) := by grind
  have e3 : 201 / 100 * U * (A + B) = 201 / 100 * (U * A) + 201 / 100 * (U * B) := by grind
  rw [e3]
  constructor
  · obtain ⟨d, hd, fd, nd⟩ := sub_err fp fq (by grind) (by grind)
    obtain ⟨d1, d2⟩ := nd (A + B + U * A + U * B + 2 / 100 * W) (by grind) (by grind)
    rw [e1] at d1 d2
    refine ⟨d, ?_, fd, ⟨by grind, by grind⟩⟩
    show Fl.fsub (double.mul a c) (double.mul b s) = _
    rw [hp, hq]
    exact hd
  · obtain ⟨d, hd, fd, nd⟩ := add_err fp fq (by grind) (by grind)
    obtain ⟨d1, d2⟩ := nd (A + B + U * A + U * B + 2 / 100 * W) (by grind) (by grind)
    rw [e1] at d1 d2
    refine ⟨d, ?_, fd, ⟨by grind, by grind⟩⟩
    show Fl.fadd (double.mul a c) (double.mul b s) = _
    rw [hp, hq]
    exact hd
/-- A word that is near a cosine or a sine. -/
theorem twid_sq {c s : Nat} {C S : Rat} (nc : Nr (V c) C (34 / 100000000000000000)) (ns : Nr (V s) S (34 / 100000000000000000)) (hu : Nr (C * C + S * S) 1 (2 / 10000000000000000)) : V c * V c + V s * V s ≤ 1001 / 1000 * (1001 / 1000) := by
  obtain ⟨c1, c2⟩ := unit_le hu
  obtain ⟨s1, s2⟩ := unit_le (C := S) (S := C) (by obtain ⟨h1, h2⟩ := hu; exact ⟨by grind, by grind⟩)
  obtain ⟨a1, a2⟩ := nc
  obtain ⟨b1, b2⟩ := ns
  obtain ⟨u1, u2⟩ := hu
  obtain ⟨p, hp⟩ : ∃ p, V c - C = p := ⟨_, rfl⟩
  obtain ⟨q, hq⟩ : ∃ q, V s - S = q := ⟨_, rfl⟩
  have ec : V c = C + p := by grind
  have es : V s = S + q := by grind
  obtain ⟨m1, _⟩ := mul_size (a := C) (b := p) (A := 1001 / 1000) (B := 1 / 1000000) c1 c2 (by grind) (by grind)
  obtain ⟨m2, _⟩ := mul_size (a := S) (b := q) (A := 1001 / 1000) (B := 1 / 1000000) s1 s2 (by grind) (by grind)
  obtain ⟨m3, _⟩ := mul_size (a := p) (b := p) (A := 1 / 1000000) (B := 1 / 1000000) (by grind) (by grind) (by grind) (by grind)
  obtain ⟨m4, _⟩ := mul_size (a := q) (b := q) (A := 1 / 1000000) (B := 1 / 1000000) (by grind) (by grind) (by grind) (by grind)
  rw [ec, es]
  grind
theorem turn2_err {a b c s : Nat} {C S m : Rat} (fa : Fn a) (fb : Fn b) (fc : Fn c) (fs : Fn s) (nc : Nr (V c) C (34 / 100000000000000000)) (ns : Nr (V s) S (34 / 100000000000000000)) (hu : Nr (C * C + S * S) 1 (2 / 10000000000000000))
    (hv : V a * V a + V b * V b ≤ m * m) (hm : m ≤ two 700) (hs : (m = 0 ∧ V a = 0 ∧ V b = 0) ∨ two (-700) ≤ m) :
    ∃ x y, Fl.fsub (Fl.fmul (some a) (some c)) (Fl.fmul (some b) (some s)) = some x ∧ Fl.fadd (Fl.fmul (some a) (some s)) (Fl.fmul (some b) (some c)) = some y ∧ Fn x ∧ Fn y ∧
      Nr (V x) (V a * C - V b * S) (65 / 10 * U * m) ∧ Nr (V y) (V a * S + V b * C) (65 / 10 * U * m) := by
  have hU := U_pos
  have hU1 : U ≤ 1 / 100000 := by decide +kernel
  have m0 : 0 ≤ m := by
    rcases hs with ⟨h, _⟩ | h
    · rw [h]; exact Rat.le_refl
    · exact Rat.le_trans (Rat.le_of_lt (two_pos _)) h
  have mm := Rat.mul_nonneg m0 m0
  have aa := sq_nonneg (V a)
  have bb := sq_nonneg (V b)
  have ccp := sq_nonneg (V c)
  have ssp := sq_nonneg (V s)
  have tw := twid_sq nc ns hu
  have g7 : two 700 ≤ 1 / 2 * two 800 := by decide +kernel
  have g8 : two (-800) ≤ two (-700) := two_le (by decide)
  have a0 := (ab_le (V a)).2.2
  have b0 := (ab_le (V b)).2.2
  have c0 := (ab_le (V c)).2.2
  have s0 := (ab_le (V s)).2.2
  have k5 : 1001 / 1000 * (1001 / 1000) * (m * m) = 1001 / 1000 * m * (1001 / 1000 * m) := by grind
  have k4 := mul_le_both (show 0 ≤ V c * V c + V s * V s by grind) (show 0 ≤ V a * V a + V b * V b by grind) tw hv
  rw [k5] at k4
  have cau1 := cauchy (ab (V c)) (ab (V s)) 0 (ab (V a)) (ab (V b)) 0
  have cau2 := cauchy (ab (V s)) (ab (V c)) 0 (ab (V a)) (ab (V b)) 0
  simp only [ab_sq] at cau1 cau2
  have tot1 := (abs_le_of_sq (x := ab (V a) * ab (V c) + ab (V b) * ab (V s)) (m := 1001 / 1000 * m) (by grind) (by grind)).1
  have tot2 := (abs_le_of_sq (x := ab (V a) * ab (V s) + ab (V b) * ab (V c)) (m := 1001 / 1000 * m) (by grind) (by grind)).1
  have sum := (abs_le_of_sq (x := ab (V a) + ab (V b)) (m := 1415 / 1000 * m) (by grind) (by
    have := sq_nonneg (ab (V a) - ab (V b))
    have e1 := ab_sq (V a)
    have e2 := ab_sq (V b)
    grind)).1
  obtain ⟨A1, A2⟩ := ab_mul (V a) (V c)
  obtain ⟨B1, B2⟩ := ab_mul (V b) (V s)
  obtain ⟨A3, A4⟩ := ab_mul (V a) (V s)
  obtain ⟨B3, B4⟩ := ab_mul (V b) (V c)
  obtain ⟨⟨x, hx, fx, x1, x2⟩, _⟩ := two_s (m := m) fa fc fb fs A1 A2 B1 B2 (by grind) (by grind) (hs.imp (fun h => ⟨h.1, by rw [h.2.1]; grind, by rw [h.2.2]; grind⟩) (fun h => by grind))
  obtain ⟨_, ⟨y, hy, fy, y1, y2⟩⟩ := two_s (m := m) fa fs fb fc A3 A4 B3 B4 (by grind) (by grind) (hs.imp (fun h => ⟨h.1, by rw [h.2.1]; grind, by rw [h.2.2]; grind⟩) (fun h => by grind))
  refine ⟨x, y, hx, hy, fx, fy, ?_⟩
  have k3 : (34 / 100000000000000000 : Rat) ≤ 307 / 100 * U := by decide +kernel
  obtain ⟨c1, c2⟩ := nc
  obtain ⟨s1, s2⟩ := ns
  obtain ⟨ea1, ea2, _⟩ := ab_le (V a)
  obtain ⟨eb1, eb2, _⟩ := ab_le (V b)
  obtain ⟨p1, p2⟩ := mul_size (a := V a) (b := V c - C) (A := ab (V a)) (B := 307 / 100 * U) ea1 (by grind) (by grind) (by grind)
  obtain ⟨q1, q2⟩ := mul_size (a := V b) (b := V s - S) (A := ab (V b)) (B := 307 / 100 * U) eb1 (by grind) (by grind) (by grind)
  obtain ⟨r1, r2⟩ := mul_size (a := V a) (b := V s - S) (A := ab (V a)) (B := 307 / 100 * U) ea1 (by grind) (by grind) (by grind)
  obtain ⟨t1, t2⟩ := mul_size (a := V b) (b := V c - C) (A := ab (V b)) (B := 307 / 100 * U) eb1 (by grind) (by grind) (by grind)
  have Um := Rat.mul_nonneg (Rat.le_of_lt hU) m0
  have k8 : U * U * m ≤ 1 / 100000 * (U * m) := by
    have := Rat.mul_le_mul_of_nonneg_right hU1 Um
    grind
  have l1 := Rat.mul_le_mul_of_nonneg_left tot1 (Rat.le_of_lt hU)
  have l2 := Rat.mul_le_mul_of_nonneg_left tot2 (Rat.le_of_lt hU)
  have l3 := Rat.mul_le_mul_of_nonneg_left sum (Rat.le_of_lt hU)
  clear cau1 cau2 k4 k5 tw tot1 tot2 sum A1 A2 B1 B2 A3 A4 B3 B4 hs hv hx hy aa bb ccp ssp mm g7 g8 hm hu
  generalize ab (V a) * ab (V c) + ab (V b) * ab (V s) = Z1 at *
  generalize ab (V a) * ab (V s) + ab (V b) * ab (V c) = Z2 at *
  exact ⟨⟨by grind, by grind⟩, ⟨by grind, by grind⟩⟩
end Go.Fe
