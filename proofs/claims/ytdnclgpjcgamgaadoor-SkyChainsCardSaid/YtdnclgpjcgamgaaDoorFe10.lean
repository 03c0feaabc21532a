/- The first quarter: what halving finds of an angle. Nothing of a program stands here. -/
import Derived.Test.YtdnclgpjcgamgaaDoorFe8
set_option linter.unusedSimpArgs false
set_option linter.unusedVariables false
namespace Go.Fe
open Ieee
/-! Where the cosine falls. -/
theorem csR_expz (x : Rat) : csR x = 1 + V 13826050856027422720 * (x * x) ^ 1 + V 4586165620538955093 * (x * x) ^ 2 + V 13787419979223755799 * (x * x) ^ 3 + V 4537941361671905306 * (x * x) ^ 4 + V 13732177094651715420 * (x * x) ^ 5 + V 4477122120089393304 * (x * x) ^ 6 + V 13666517717442657437 * (x * x) ^ 7 + V 4407590220077447199 * (x * x) ^ 8 := by
  unfold csR serR Tr.evenC horR horR horR horR horR horR horR horR
  grind
theorem csR_fall {x y : Rat} (h0 : 0 ≤ x) (h1 : x ≤ y) (h2 : y ≤ 7854 / 10000) : csR y - csR x ≤ -((y * y - x * x) * (44 / 100)) := by
  have hz0 : 0 ≤ x * x := Rat.mul_nonneg h0 h0
  have hy : 0 ≤ y := Rat.le_trans h0 h1
  have hz1 : x * x ≤ y * y := by
    have q1 := Rat.mul_le_mul_of_nonneg_left h1 h0
    have q2 := Rat.mul_le_mul_of_nonneg_right h1 hy
    grind
  have hz2 : y * y ≤ 617 / 1000 := by
    obtain ⟨s1, _⟩ := mul_size (a := y) (b := y) (A := 7854 / 10000) (B := 7854 / 10000) (by grind) (by grind) (by grind) (by grind)
    have : (7854 / 10000 * (7854 / 10000) : Rat) ≤ 617 / 1000 := by decide +kernel
    grind
  rw [csR_expz, csR_expz]
  generalize x * x = z at hz0 hz1 ⊢
  generalize y * y = w at hz1 hz2 ⊢
  have i1 := Hs_id z w 1
  obtain ⟨_, u1, v1⟩ := Hs_bd hz0 hz1 hz2 0
  have t0 := term_eq (c := V 13826050856027422720) i1
  have i2 := Hs_id z w 2
  obtain ⟨_, u2, v2⟩ := Hs_bd hz0 hz1 hz2 1
  have t1 := term_eq (c := V 4586165620538955093) i2
  have i3 := Hs_id z w 3
  obtain ⟨_, u3, v3⟩ := Hs_bd hz0 hz1 hz2 2
  have t2 := term_eq (c := V 13787419979223755799) i3
  have i4 := Hs_id z w 4
  obtain ⟨_, u4, v4⟩ := Hs_bd hz0 hz1 hz2 3
  have t3 := term_eq (c := V 4537941361671905306) i4
  have i5 := Hs_id z w 5
  obtain ⟨_, u5, v5⟩ := Hs_bd hz0 hz1 hz2 4
  have t4 := term_eq (c := V 13732177094651715420) i5
  have i6 := Hs_id z w 6
  obtain ⟨_, u6, v6⟩ := Hs_bd hz0 hz1 hz2 5
  have t5 := term_eq (c := V 4477122120089393304) i6
  have i7 := Hs_id z w 7
  obtain ⟨_, u7, v7⟩ := Hs_bd hz0 hz1 hz2 6
  have t6 := term_eq (c := V 13666517717442657437) i7
  have i8 := Hs_id z w 8
  obtain ⟨_, u8, v8⟩ := Hs_bd hz0 hz1 hz2 7
  have t7 := term_eq (c := V 4407590220077447199) i8
  have g0 : V 13826050856027422720 ≤ 0 := by decide +kernel
  have b0 := mul_dn g0 v1
  have g1 : 0 ≤ V 4586165620538955093 := by decide +kernel
  have b1 := mul_up g1 u2
  have g2 : V 13787419979223755799 ≤ 0 := by decide +kernel
  have b2 := mul_dn g2 v3
  have g3 : 0 ≤ V 4537941361671905306 := by decide +kernel
  have b3 := mul_up g3 u4
  have g4 : V 13732177094651715420 ≤ 0 := by decide +kernel
  have b4 := mul_dn g4 v5
  have g5 : 0 ≤ V 4477122120089393304 := by decide +kernel
  have b5 := mul_up g5 u6
  have g6 : V 13666517717442657437 ≤ 0 := by decide +kernel
  have b6 := mul_dn g6 v7
  have g7 : 0 ≤ V 4407590220077447199 := by decide +kernel
  have b7 := mul_up g7 u8
  have one : Hs 1 z w = 1 := by unfold Hs Hs; rw [Rat.pow_zero]; grind
  have nu : V 13826050856027422720 + (V 4586165620538955093 * (((1 + 1 : Nat) : Rat) * (617 / 1000) ^ 1)+V 4537941361671905306 * (((3 + 1 : Nat) : Rat) * (617 / 1000) ^ 3)+V 4477122120089393304 * (((5 + 1 : Nat) : Rat) * (617 / 1000) ^ 5)+V 4407590220077447199 * (((7 + 1 : Nat) : Rat) * (617 / 1000) ^ 7)) ≤ -(44 / 100) := by decide +kernel
  have hwz : 0 ≤ w - z := by grind
  generalize hq : V 13826050856027422720 * Hs 1 z w + V 4586165620538955093 * Hs 2 z w + V 13787419979223755799 * Hs 3 z w + V 4537941361671905306 * Hs 4 z w + V 13732177094651715420 * Hs 5 z w + V 4477122120089393304 * Hs 6 z w + V 13666517717442657437 * Hs 7 z w + V 4407590220077447199 * Hs 8 z w = q
  have q1 : q ≤ -(44 / 100) := by
    rw [← hq, one]
    clear hq t0 t1 t2 t3 t4 t5 t6 t7 i1 i2 i3 i4 i5 i6 i7 i8
    grind
  have q3 := Rat.mul_le_mul_of_nonneg_left q1 hwz
  have e : (1 + V 13826050856027422720 * w ^ 1 + V 4586165620538955093 * w ^ 2 + V 13787419979223755799 * w ^ 3 + V 4537941361671905306 * w ^ 4 + V 13732177094651715420 * w ^ 5 + V 4477122120089393304 * w ^ 6 + V 13666517717442657437 * w ^ 7 + V 4407590220077447199 * w ^ 8) - (1 + V 13826050856027422720 * z ^ 1 + V 4586165620538955093 * z ^ 2 + V 13787419979223755799 * z ^ 3 + V 4537941361671905306 * z ^ 4 + V 13732177094651715420 * z ^ 5 + V 4477122120089393304 * z ^ 6 + V 13666517717442657437 * z ^ 7 + V 4407590220077447199 * z ^ 8) = (w - z) * q := by
    rw [← hq]
    clear q1 q3 hq nu one hwz g0 b0 u1 v1 i1 g1 b1 u2 v2 i2 g2 b2 u3 v3 i3 g3 b3 u4 v4 i4 g4 b4 u5 v5 i5 g5 b5 u6 v6 i6 g6 b6 u7 v7 i7 g7 b7 u8 v8 i8
    generalize V 13826050856027422720 * w ^ 1 = Y0 at t0 ⊢
    generalize V 13826050856027422720 * z ^ 1 = X0 at t0 ⊢
    generalize V 13826050856027422720 * Hs 1 z w = H0 at t0 ⊢
    generalize V 4586165620538955093 * w ^ 2 = Y1 at t1 ⊢
    generalize V 4586165620538955093 * z ^ 2 = X1 at t1 ⊢
    generalize V 4586165620538955093 * Hs 2 z w = H1 at t1 ⊢
    generalize V 13787419979223755799 * w ^ 3 = Y2 at t2 ⊢
    generalize V 13787419979223755799 * z ^ 3 = X2 at t2 ⊢
    generalize V 13787419979223755799 * Hs 3 z w = H2 at t2 ⊢
    generalize V 4537941361671905306 * w ^ 4 = Y3 at t3 ⊢
    generalize V 4537941361671905306 * z ^ 4 = X3 at t3 ⊢
    generalize V 4537941361671905306 * Hs 4 z w = H3 at t3 ⊢
    generalize V 13732177094651715420 * w ^ 5 = Y4 at t4 ⊢
    generalize V 13732177094651715420 * z ^ 5 = X4 at t4 ⊢
    generalize V 13732177094651715420 * Hs 5 z w = H4 at t4 ⊢
    generalize V 4477122120089393304 * w ^ 6 = Y5 at t5 ⊢
    generalize V 4477122120089393304 * z ^ 6 = X5 at t5 ⊢
    generalize V 4477122120089393304 * Hs 6 z w = H5 at t5 ⊢
    generalize V 13666517717442657437 * w ^ 7 = Y6 at t6 ⊢
    generalize V 13666517717442657437 * z ^ 7 = X6 at t6 ⊢
    generalize V 13666517717442657437 * Hs 7 z w = H6 at t6 ⊢
    generalize V 4407590220077447199 * w ^ 8 = Y7 at t7 ⊢
    generalize V 4407590220077447199 * z ^ 8 = X7 at t7 ⊢
    generalize V 4407590220077447199 * Hs 8 z w = H7 at t7 ⊢
    grind
  rw [e]
  grind
theorem csR_mono {x y : Rat} (h0 : 0 ≤ x) (h1 : x ≤ y) (h2 : y ≤ 7854 / 10000) : csR y ≤ csR x := by
  have h := csR_fall h0 h1 h2
  have q1 := Rat.mul_le_mul_of_nonneg_left h1 h0
  have q2 := Rat.mul_le_mul_of_nonneg_right h1 (Rat.le_trans h0 h1)
  grind
theorem csR_zero : csR 0 = 1 := by unfold csR serR; grind
theorem snR_zero : snR 0 = 0 := by unfold snR; grind
theorem csR_lo {x : Rat} (h0 : 0 ≤ x) (h2 : x ≤ 7854 / 10000) : 707 / 1000 ≤ csR x ∧ csR x ≤ 1 := by
  have h := csR_mono h0 h2 Rat.le_refl
  have k : (707 / 1000 : Rat) ≤ csR (7854 / 10000) := by decide +kernel
  have h3 := csR_mono Rat.le_refl h0 h2
  rw [csR_zero] at h3
  exact ⟨Rat.le_trans k h, h3⟩
theorem snR_lo {x : Rat} (h0 : 0 ≤ x) (h2 : x ≤ 7854 / 10000) : x * (69 / 100) ≤ snR x ∧ snR x ≤ 708 / 1000 := by
  obtain ⟨h3, _⟩ := snR_step Rat.le_refl h0 h2
  rw [snR_zero] at h3
  obtain ⟨h4, _⟩ := snR_step h0 h2 Rat.le_refl
  have k : snR (7854 / 10000) ≤ 708 / 1000 := by decide +kernel
  have h5 := Rat.mul_nonneg (show 0 ≤ 7854 / 10000 - x by grind) (show (0 : Rat) ≤ 69 / 100 by decide +kernel)
  exact ⟨by grind, by grind⟩

/-! The first quarter: sine and cosine polynomials rise and fall; what halving finds. -/
theorem quarter_one {m : Int} (h0 : 0 ≤ m) (h1 : m < 162000000000) : sinR m = snR ((m : Rat) * rad) ∧ cosR m = csR ((m : Rat) * rad) := by
  have n1 : Tr.nrm m = m := by unfold Tr.nrm; omega
  have q1 : Tr.qrt m = 0 := by unfold Tr.qrt; rw [n1]; omega
  have r1 : Tr.rst m = m := by unfold Tr.rst; rw [n1, q1]; omega
  unfold sinR cosR quadR
  rw [q1, r1]
  exact ⟨rfl, rfl⟩
theorem quarter_two {m : Int} (h0 : 162000000000 ≤ m) (h1 : m ≤ 324000000000) : sinR m = csR (((324000000000 - m : Int) : Rat) * rad) ∧ cosR m = snR (((324000000000 - m : Int) : Rat) * rad) := by
  have n1 : Tr.nrm m = m := by unfold Tr.nrm; omega
  have q1 : Tr.qrt m = 1 := by unfold Tr.qrt; rw [n1]; omega
  have r1 : Tr.rst m = -(324000000000 - m) := by unfold Tr.rst; rw [n1, q1]; omega
  unfold sinR cosR quadR
  rw [q1, r1, Rat.intCast_neg, show -((324000000000 - m : Int) : Rat) * rad = -(((324000000000 - m : Int) : Rat) * rad) by grind, csR_neg, snR_neg]
  refine ⟨rfl, ?_⟩
  show - -snR _ = _
  grind
theorem arg_in {n : Int} (h0 : 0 ≤ n) (h1 : n ≤ 162000000000) : 0 ≤ (n : Rat) * rad ∧ (n : Rat) * rad ≤ 7854 / 10000 := by
  have hr := Rat.le_of_lt rad_pos
  have hm : 162000000000 * rad ≤ 7854 / 10000 := by decide +kernel
  have p1 : (n : Rat) * rad ≤ 162000000000 * rad := Rat.mul_le_mul_of_nonneg_right (rat_int h1) hr
  exact ⟨Rat.mul_nonneg (rat_int h0) hr, Rat.le_trans p1 hm⟩
theorem arg_succ (n : Int) : ((n + 1 : Int) : Rat) * rad = (n : Rat) * rad + rad := by rw [Rat.intCast_add]; show ((n : Rat) + 1) * rad = _; grind
/-- One step in the first quarter. -/
theorem quarter_step {m : Int} (h0 : 0 ≤ m) (h1 : m < 324000000000) :
    0 ≤ sinR (m + 1) - sinR m ∧ 0 ≤ cosR m - cosR (m + 1) ∧ (m < 162000000000 → rad * (69 / 100) ≤ sinR (m + 1) - sinR m) ∧ (162000000000 ≤ m → rad * (69 / 100) ≤ cosR m - cosR (m + 1)) := by
  have hr := rad_pos
  have h69 : 0 ≤ rad * (69 / 100) := by decide +kernel
  by_cases a : m + 1 < 162000000000
  · obtain ⟨s1, c1⟩ := quarter_one h0 (by omega)
    obtain ⟨s2, c2⟩ := quarter_one (m := m + 1) (by omega) a
    obtain ⟨i1, i2⟩ := arg_in h0 (by omega)
    obtain ⟨j1, j2⟩ := arg_in (n := m + 1) (by omega) (by omega)
    rw [s1, c1, s2, c2]
    have e := arg_succ m
    obtain ⟨p1, _⟩ := snR_step (x := (m : Rat) * rad) (y := ((m + 1 : Int) : Rat) * rad) i1 (by rw [e]; grind) j2
    have p2 := csR_mono (x := (m : Rat) * rad) (y := ((m + 1 : Int) : Rat) * rad) i1 (by rw [e]; grind) j2
    have e2 : ((m + 1 : Int) : Rat) * rad - (m : Rat) * rad = rad := by rw [e]; grind
    rw [e2] at p1
    exact ⟨Rat.le_trans h69 p1, by grind, fun _ => p1, fun h => by omega⟩
  · by_cases b : m = 161999999999
    · subst b
      have k1 : rad * (69 / 100) ≤ sinR (161999999999 + 1) - sinR 161999999999 := by decide +kernel
      have k2 : 0 ≤ cosR 161999999999 - cosR (161999999999 + 1) := by decide +kernel
      exact ⟨Rat.le_trans h69 k1, k2, fun _ => k1, fun h => by omega⟩
    · obtain ⟨s1, c1⟩ := quarter_two (m := m) (by omega) (by omega)
      obtain ⟨s2, c2⟩ := quarter_two (m := m + 1) (by omega) (by omega)
      obtain ⟨i1, i2⟩ := arg_in (n := 324000000000 - (m + 1)) (by omega) (by omega)
      obtain ⟨j1, j2⟩ := arg_in (n := 324000000000 - m) (by omega) (by omega)
      rw [s1, c1, s2, c2]
      have e := arg_succ (324000000000 - (m + 1))
      rw [show (324000000000 - (m + 1) + 1 : Int) = 324000000000 - m by omega] at e
      obtain ⟨p1, _⟩ := snR_step (x := ((324000000000 - (m + 1) : Int) : Rat) * rad) (y := ((324000000000 - m : Int) : Rat) * rad) i1 (by rw [e]; grind) j2
      have p2 := csR_mono (x := ((324000000000 - (m + 1) : Int) : Rat) * rad) (y := ((324000000000 - m : Int) : Rat) * rad) i1 (by rw [e]; grind) j2
      have e2 : ((324000000000 - m : Int) : Rat) * rad - ((324000000000 - (m + 1) : Int) : Rat) * rad = rad := by rw [e]; grind
      rw [e2] at p1
      exact ⟨by grind, Rat.le_trans h69 p1, fun h => by omega, fun _ => p1⟩
/-- Sine and cosine in the first quarter. -/
theorem quarter_in {m : Int} (h0 : 0 ≤ m) (h1 : m ≤ 324000000000) : 0 ≤ sinR m ∧ sinR m ≤ 1 ∧ 0 ≤ cosR m ∧ cosR m ≤ 1 ∧ (m ≤ 162000000000 → 54 / 100 ≤ cosR m) ∧ (162000000000 ≤ m → 707 / 1000 ≤ sinR m) := by
  by_cases a : m < 162000000000
  · obtain ⟨s1, c1⟩ := quarter_one h0 a
    obtain ⟨i1, i2⟩ := arg_in h0 (by omega)
    obtain ⟨p1, p2⟩ := snR_lo i1 i2
    obtain ⟨q1, q2⟩ := csR_lo i1 i2
    have := Rat.mul_nonneg i1 (show (0 : Rat) ≤ 69 / 100 by decide +kernel)
    rw [s1, c1]
    exact ⟨by grind, by grind, by grind, q2, fun _ => by grind, fun h => by omega⟩
  · obtain ⟨s1, c1⟩ := quarter_two (m := m) (by omega) h1
    obtain ⟨i1, i2⟩ := arg_in (n := 324000000000 - m) (by omega) (by omega)
    obtain ⟨p1, p2⟩ := snR_lo i1 i2
    obtain ⟨q1, q2⟩ := csR_lo i1 i2
    have := Rat.mul_nonneg i1 (show (0 : Rat) ≤ 69 / 100 by decide +kernel)
    rw [s1, c1]
    refine ⟨by grind, q2, by grind, by grind, fun h => ?_, fun _ => q1⟩
    have e : m = 162000000000 := by omega
    subst e
    have k : (54 / 100 : Rat) ≤ snR (((324000000000 - 162000000000 : Int) : Rat) * rad) := by decide +kernel
    exact k
def gR (t m : Int) : Rat := sinR m * cosR t - cosR m * sinR t
theorem gR_mono {t : Int} (t0 : 0 ≤ t) (t1 : t ≤ 324000000000) : ∀ (n : Nat) (m : Int), 0 ≤ m → m + n ≤ 324000000000 → gR t m ≤ gR t (m + n)
  | 0, m, _, _ => by rw [show m + ((0 : Nat) : Int) = m by omega]; exact Rat.le_refl
  | n + 1, m, h0, h1 => by
    have ih := gR_mono t0 t1 n m h0 (by omega)
    obtain ⟨s, c, _, _⟩ := quarter_step (m := m + n) (by omega) (by omega)
    obtain ⟨a1, _, a2, _⟩ := quarter_in t0 t1
    have q1 := Rat.mul_nonneg s a2
    have q2 := Rat.mul_nonneg c a1
    rw [show m + ((n + 1 : Nat) : Int) = m + n + 1 by omega]
    unfold gR at ih ⊢
    grind
theorem gR_next {t : Int} (t0 : 0 ≤ t) (t1 : t < 324000000000) : rad * (37 / 100) ≤ gR t (t + 1) := by
  obtain ⟨s, c, s2, c2⟩ := quarter_step t0 t1
  obtain ⟨a1, _, a2, _, a3, a4⟩ := quarter_in t0 (Int.le_of_lt t1)
  have hr := rad_pos
  by_cases h : t < 162000000000
  · have q1 := s2 h
    have q2 := a3 (by omega)
    have q3 := Rat.mul_le_mul_of_nonneg_right q1 a2
    have q4 := Rat.mul_le_mul_of_nonneg_left q2 (show 0 ≤ rad * (69 / 100) by decide +kernel)
    have q5 := Rat.mul_nonneg c a1
    have q6 : rad * (37 / 100) ≤ rad * (69 / 100) * (54 / 100) := by decide +kernel
    unfold gR
    grind
  · have q1 := c2 (by omega)
    have q2 := a4 (by omega)
    have q3 := Rat.mul_le_mul_of_nonneg_right q1 a1
    have q4 := Rat.mul_le_mul_of_nonneg_left q2 (show 0 ≤ rad * (69 / 100) by decide +kernel)
    have q5 := Rat.mul_nonneg s a2
    have q6 : rad * (37 / 100) ≤ rad * (69 / 100) * (707 / 1000) := by decide +kernel
    unfold gR
    grind
theorem gR_prev {t : Int} (t0 : 1 ≤ t) (t1 : t ≤ 324000000000) : gR t (t - 1) ≤ -(rad * (37 / 100)) := by
  obtain ⟨s, c, s2, c2⟩ := quarter_step (m := t - 1) (by omega) (by omega)
  obtain ⟨a1, _, a2, _, a3, a4⟩ := quarter_in (m := t) (by omega) t1
  rw [show t - 1 + 1 = t by omega] at s c s2 c2
  have hr := rad_pos
  by_cases h : t ≤ 162000000000
  · have q1 := s2 (by omega)
    have q2 := a3 h
    have q3 := Rat.mul_le_mul_of_nonneg_right q1 a2
    have q4 := Rat.mul_le_mul_of_nonneg_left q2 (show 0 ≤ rad * (69 / 100) by decide +kernel)
    have q5 := Rat.mul_nonneg c a1
    have q6 : rad * (37 / 100) ≤ rad * (69 / 100) * (54 / 100) := by decide +kernel
    unfold gR
    grind
  · have q1 := c2 (by omega)
    have q2 := a4 (by omega)
    have q3 := Rat.mul_le_mul_of_nonneg_right q1 a1
    have q4 := Rat.mul_le_mul_of_nonneg_left q2 (show 0 ≤ rad * (69 / 100) by decide +kernel)
    have q5 := Rat.mul_nonneg s a2
    have q6 : rad * (37 / 100) ≤ rad * (69 / 100) * (707 / 1000) := by decide +kernel
    unfold gR
    grind
theorem gR_far {t m : Int} (t0 : 0 ≤ t) (t1 : t ≤ 324000000000) (m0 : 0 ≤ m) (m1 : m ≤ 324000000000) : (t < m → rad * (37 / 100) ≤ gR t m) ∧ (m < t → gR t m ≤ -(rad * (37 / 100))) := by
  refine ⟨fun h => ?_, fun h => ?_⟩
  · have h1 := gR_next t0 (by omega)
    have h2 := gR_mono t0 t1 (m - (t + 1)).toNat (t + 1) (by omega) (by omega)
    rw [show t + 1 + ((m - (t + 1)).toNat : Int) = m by omega] at h2
    exact Rat.le_trans h1 h2
  · have h1 := gR_prev (t := t) (by omega) t1
    have h2 := gR_mono t0 t1 (t - 1 - m).toNat m m0 (by omega)
    rw [show m + ((t - 1 - m).toNat : Int) = t - 1 by omega] at h2
    exact Rat.le_trans h2 h1
/-- The angle that halving finds: that of the point, or one less. -/
theorem ang_near {u w : Nat} {t : Int} {ρ : Rat} (t0 : 0 ≤ t) (t1 : t ≤ 324000000000) (r0 : 3 / 10 ≤ ρ) (r1 : ρ ≤ 11 / 10)
    (hu : Ap (some u) (ρ * cosR t) (1 / 100000000000000) (11 / 10)) (hw : Ap (some w) (ρ * sinR t) (1 / 100000000000000) (11 / 10)) :
    Tr.bis (Tr.under (some u) (some w)) 0 324000000001 = t ∨ Tr.bis (Tr.under (some u) (some w)) 0 324000000001 = t - 1 := by
  have test : ∀ m : Int, 0 ≤ m → m ≤ 324000000000 → (t < m → Tr.under (some u) (some w) m = false) ∧ (m < t → Tr.under (some u) (some w) m = true) := fun m m0 m1 => by
    have P1 : Ap (Fl.fmul (Tr.sinA m) (some u)) (sinR m * (ρ * cosR t)) (2 / 100000000000000) (3 / 2) := Ap.mul (sin_ap m) hu (by decide +kernel) (by decide +kernel) (by decide +kernel)
    have P2 : Ap (Fl.fmul (Tr.cosA m) (some w)) (cosR m * (ρ * sinR t)) (2 / 100000000000000) (3 / 2) := Ap.mul (cos_ap m) hw (by decide +kernel) (by decide +kernel) (by decide +kernel)
    obtain ⟨_, _, _, a, ha, fa, ⟨a1, a2⟩⟩ := P1
    obtain ⟨_, _, _, b, hb, fb, ⟨b1, b2⟩⟩ := P2
    obtain ⟨g1, g2⟩ := gR_far t0 t1 m0 m1
    have e : sinR m * (ρ * cosR t) - cosR m * (ρ * sinR t) = ρ * gR t m := by unfold gR; grind
    have hk : (4 / 100000000000000 : Rat) < 3 / 10 * (rad * (37 / 100)) := by decide +kernel
    have hp : 0 ≤ rad * (37 / 100) := by decide +kernel
    have q0 := Rat.mul_le_mul_of_nonneg_right r0 hp
    unfold Tr.under
    rw [ha, hb, fle_val fa fb]
    refine ⟨fun h => ?_, fun h => ?_⟩
    · have q1 := Rat.mul_le_mul_of_nonneg_left (g1 h) (show 0 ≤ ρ by grind)
      simp only [decide_eq_false_iff_not]
      grind
    · have q1 := Rat.mul_le_mul_of_nonneg_left (g2 h) (show 0 ≤ ρ by grind)
      simp only [decide_eq_true_eq]
      grind
  obtain ⟨x0, x1, x2, x3⟩ := bis_spec (Tr.under (some u) (some w)) 324000000001 0 324000000001 (by decide) (by decide)
  generalize Tr.bis (Tr.under (some u) (some w)) 0 324000000001 = x at x0 x1 x2 x3 ⊢
  have h1 : x ≤ t := by
    by_cases h : x ≤ t
    · exact h
    · have := (test x x0 (by omega)).1 (by omega)
      rcases x2 with e | e
      · omega
      · rw [this] at e; cases e
  have h2 : t - 1 ≤ x := by
    by_cases h : t - 1 ≤ x
    · exact h
    · have := (test (x + 1) (by omega) (by omega)).2 (by omega)
      rcases x3 with e | e
      · omega
      · rw [this] at e; cases e
  omega
end Go.Fe
