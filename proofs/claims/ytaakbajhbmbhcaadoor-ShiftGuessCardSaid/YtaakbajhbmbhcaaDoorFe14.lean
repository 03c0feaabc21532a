/- The first quarter: what halving finds of an angle. Nothing of a program stands here. -/
import Derived.Test.YtaakbajhbmbhcaaDoorFe8
set_option linter.unusedSimpArgs false
set_option linter.unusedVariables false
namespace Go.Fe
open Ieee
/-! Where the cosine falls. -/
theorem csR_expz (x : Rat) : csR x = 1 + V 13826050856027422720 * (x * x) ^ 1 + V 4586165620538955093 * (x * x) ^ 2 + V 13787419979223755799 * (x * x) ^ 3 + V 4537941361671905306 * (x * x) ^ 4 + V 13732177094651715420 * (x * x) ^ 5 + V 4477122120089393304 * (x * x) ^ 6 + V 13666517717442657437 * (x * x) ^ 7 + V 4407590220077447199 * (x * x) ^ 8 := by
  unfold csR serR Tr.evenC horR horR horR horR horR horR horR horR
  grind
theorem csR_fall {x y : Rat} (h0 : 0 ≤ x) (h1 : x ≤ y) (h2 : y ≤ 7854 / 10000) : csR y - csR x ≤ -((y * y - x * x) * (44 / 100)) := by
  have hz0 : 0 ≤ x * x := Rat.mul_nonneg h0 h0
  have hy : 0 ≤ y := Rat.le_trans h0 h1
  have hz1 : x * x ≤ y * y := by
    have q1 := Rat.mul_le_mul_of_nonneg_left h1 h0
    have q2 := Rat.mul_le_mul_of_nonneg_right h1 hy
    grind
  have hz2 : y * y ≤ 617 / 1000 := by
    obtain ⟨s1, _⟩ := mul_size (a := y) (b := y) (A := 7854 / 10000) (B := 7854 / 10000) (by grind) (by grind) (by grind) (by grind)
    have : (7854 / 10000 * (7854 / 10000) : Rat) ≤ 617 / 1000 := by decide +kernel
    grind
  rw [csR_expz, csR_expz]
  generalize x * x = z at hz0 hz1 ⊢
  generalize y * y = w at hz1 hz2 ⊢
  have i1 := Hs_id z w 1
  obtain ⟨_, u1, v1⟩ := Hs_bd hz0 hz1 hz2 0
  have t0 := term_eq (c := V 13826050856027422720) i1
  have i2 := Hs_id z w 2
  obtain ⟨_, u2, v2⟩ := Hs_bd hz0 hz1 hz2 1
  have t1 := term_eq (c := V 4586165620538955093) i2
  have i3 := Hs_id z w 3
  obtain ⟨_, u3, v3⟩ := Hs_bd hz0 hz1 hz2 2
  have t2 := term_eq (c := V 13787419979223755799) i3
  have i4 := Hs_id z w 4
  obtain ⟨_, u4, v4⟩ := Hs_bd hz0 hz1 hz2 3
  have t3 := term_eq (c := V 4537941361671905306) i4
  have i5 := Hs_id z w 5
  obtain ⟨_, u5, v5⟩ := Hs_bd hz0 hz1 hz2 4
  have t4 := term_eq (c := V 13732177094651715420) i5
  have i6 := Hs_id z w 6
  obtain ⟨_, u6, v6⟩ := Hs_bd hz0 hz1 hz2 5
  have t5 := term_eq (c := V 4477122120089393304) i6
  have i7 := Hs_id z w 7
  obtain ⟨_, u7, v7⟩ := Hs_bd hz0 hz1 hz2 6
  have t6 := term_eq (c := V 13666517717442657437) i7
  have i8 := Hs_id z w 8
  obtain ⟨_, u8, v8⟩ := Hs_bd hz0 hz1 hz2 7
  have t7 := term_eq (c := V 4407590220077447199) i8
  have g0 : V 13826050856027422720 ≤ 0 := by decide +kernel
  have b0 := mul_dn g0 v1
  have g1 : 0 ≤ V 4586165620538955093 := by decide +kernel
  have b1 := mul_up g1 u2
  have g2 : V 13787419979223755799 ≤ 0 := by decide +kernel
  have b2 := mul_dn g2 v3
  have g3 : 0 ≤ V 4537941361671905306 := by decide +kernel
  have b3 := mul_up g3 u4
  have g4 : V 13732177094651715420 ≤ 0 := by decide +kernel
  have b4 := mul_dn g4 v5
  have g5 : 0 ≤ V 4477122120089393304 := by decide +kernel
  have b5 := mul_up g5 u6
  have g6 : V 13666517717442657437 ≤ 0 := by decide +kernel
  have b6 := mul_dn g6 v7
  have g7 : 0 ≤ V 4407590220077447199 := by decide +kernel
  have b7 := mul_up g7 u8
  have one : Hs 1 z w = 1 := by unfold Hs Hs; rw [Rat.pow_zero]; grind
  have nu : V 13826050856027422720 + (V 4586165620538955093 * (((1 + 1 : Nat) : Rat) * (617 / 1000) ^ 1)+V 4537941361671905306 * (((3 + 1 : Nat) : Rat) * (617 / 1000) ^ 3)+V 4477122120089393304 * (((5 + 1 : Nat) : Rat) * (617 / 1000) ^ 5)+V 4407590220077447199 * (((7 + 1 : Nat) : Rat) * (617 / 1000) ^ 7)) ≤ -(44 / 100) := by decide +kernel
  have hwz : 0 ≤ w - z := by grind
  generalize hq : V 13826050856027422720 * Hs 1 z w + V 4586165620538955093 * Hs 2 z w + V 13787419979223755799 * Hs 3 z w + V 4537941361671905306 * Hs 4 z w + V 13732177094651715420 * Hs 5 z w + V 4477122120089393304 * Hs 6 z w + V 13666517717442657437 * Hs 7 z w + V 4407590220077447199 * Hs 8 z w = q
  have q1 : q ≤ -(44 / 100) := by
    rw [← hq, one]
    clear hq t0 t1 t2 t3 t4 t5 t6 t7 i1 i2 i3 i4 i5 i6 i7 i8
    grind
  have q3 := Rat.mul_le_mul_of_nonneg_left q1 hwz
  have e : (1 + V 13826050856027422720 * w ^ 1 + V 4586165620538955093 * w ^ 2 + V 13787419979223755799 * w ^ 3 + V 4537941361671905306 * w ^ 4 + V 13732177094651715420 * w ^ 5 + V 4477122120089393304 * w ^ 6 + V 13666517717442657437 * w ^ 7 + V 4407590220077447199 * w ^ 8) - (1 + V 13826050856027422720 * z ^ 1 + V 4586165620538955093 * z ^ 2 + V 13787419979223755799 * z ^ 3 + V 4537941361671905306 * z ^ 4 + V 13732177094651715420 * z ^ 5 + V 4477122120089393304 * z ^ 6 + V 13666517717442657437 * z ^ 7 + V 4407590220077447199 * z ^ 8) = (w - z) * q := by
    rw [← hq]
    clear q1 q3 hq nu one hwz g0 b0 u1 v1 i1 g1 b1 u2 v2 i2 g2 b2 u3 v3 i3 g3 b3 u4 v4 i4 g4 b4 u5 v5 i5 g5 b5 u6 v6 i6 g6 b6 u7 v7 i7 g7 b7 u8 v8 i8
    generalize V 13826050856027422720 * w ^ 1 = Y0 at t0 ⊢
    generalize V 13826050856027422720 * z ^ 1 = X0 at t0 ⊢
    generalize V 13826050856027422720 * Hs 1 z w = H0 at t0 ⊢
    generalize V 4586165620538955093 * w ^ 2 = Y1 at t1 ⊢
    generalize V 4586165620538955093 * z ^ 2 = X1 at t1 ⊢
    generalize V 4586165620538955093 * Hs 2 z w = H1 at t1 ⊢
    generalize V 13787419979223755799 * w ^ 3 = Y2 at t2 ⊢
    generalize V 13787419979223755799 * z ^ 3 = X2 at t2 ⊢
    generalize V 13787419979223755799 * Hs 3 z w = H2 at t2 ⊢
    generalize V 4537941361671905306 * w ^ 4 = Y3 at t3 ⊢
    generalize V 4537941361671905306 * z ^ 4 = X3 at t3 ⊢
    generalize V 4537941361671905306 * Hs 4 z w = H3 at t3 ⊢
    generalize V 13732177094651715420 * w ^ 5 = Y4 at t4 ⊢
    generalize V 13732177094651715420 * z ^ 5 = X4 at t4 ⊢
    generalize V 13732177094651715420 * Hs 5 z w = H4 at t4 ⊢
    generalize V 4477122120089393304 * w ^ 6 = Y5 at t5 ⊢
    generalize V 4477122120089393304 * z ^ 6 = X5 at t5 ⊢
    generalize V 4477122120089393304 * Hs 6 z w = H5 at t5 ⊢
    generalize V 13666517717442657437 * w ^ 7 = Y6 at t6 ⊢
    generalize V 13666517717442657437 * z ^ 7 = X6 at t6 ⊢
    generalize V 13666517717442657437 * Hs 7 z w = H6 at t6 ⊢
    generalize V 4407590220077447199 * w ^ 8 = Y7 at t7 ⊢
    generalize V 4407590220077447199 * z ^ 8 = X7 at t7 ⊢
    generalize V 4407590220077447199 * Hs 8 z w = H7 at t7 ⊢
    grind
  rw [e]
  grind
theorem csR_mono {x y : Rat} (h0 : 0 ≤ x) (h1 : x ≤ y) (h2 : y ≤ 7854 / 10000) : csR y ≤ csR x := by
  have h := csR_fall h0 h1 h2
  have q1 := Rat.mul_le_mul_of_nonneg_left h1 h0
  have q2 := Rat.mul_le_mul_of_nonneg_right h1 (Rat.le_trans h0 h1)
  grind
theorem csR_zero : csR 0 = 1 := by unfold csR serR; grind
theorem snR_zero : snR 0 = 0 := by unfold snR; grind
theorem csR_lo {x : Rat} (h0 : 0 ≤ x) (h2 : x ≤ 7854 / 10000) : 707 / 1000 ≤ csR x ∧ csR x ≤ 1 := by
  have h := csR_mono h0 h2 Rat.le_refl
  have k : (707 / 1000 : Rat) ≤ csR (7854 / 10000) := by decide +kernel
  have h3 := csR_mono Rat.le_refl h0 h2
  rw [csR_zero] at h3
  exact ⟨Rat.le_trans k h, h3⟩
theorem snR_lo {x : Rat} (h0 : 0 ≤ x) (h2 : x ≤ 7854 / 10000) : x * (69 / 100) ≤ snR x ∧ snR x ≤ 708 / 1000 := by
  obtain ⟨h3, _⟩ := snR_step Rat.le_refl h0 h2
  rw [snR_zero] at h3
  obtain ⟨h4, _⟩ := snR_step h0 h2 Rat.le_refl
  have k : snR (7854 / 10000) ≤ 708 / 1000 := by decide +kernel
  have h5 := Rat.mul_nonneg (show 0 ≤ 7854 / 10000 - x by grind) (show (0 : Rat) ≤ 69 / 100 by decide +kernel)
  exact ⟨by grind, by grind⟩

/-! The first quarter: sine and cosine polynomials rise and fall; what halving finds. -/
theorem quarter_one {m : Int} (h0 : 0 ≤ m) (h1 : m < 162000000000) : sinR m = snR ((m : Rat) * rad) ∧ cosR m = csR ((m : Rat) * rad) := by
  have n1 : Tr.nrm m = m := by unfold Tr.nrm; omega
  have q1 : Tr.qrt m = 0 := by unfold Tr.qrt; rw [n1]; omega
  have r1 : Tr.rst m = m := by unfold Tr.rst; rw [n1, q1]; omega
  unfold sinR cosR quadR
  rw [q1, r1]
  exact ⟨rfl, rfl⟩
theorem quarter_two {m : Int} (h0 : 162000000000 ≤ m) (h1 : m ≤ 324000000000) : sinR m = csR (((324000000000 - m : Int) : Rat) * rad) ∧ cosR m = snR (((324000000000 - m : Int) : Rat) * rad) := by
  have n1 : Tr.nrm m = m := by unfold Tr.nrm; omega
  have q1 : Tr.qrt m = 1 := by unfold Tr.qrt; rw [n1]; omega
  have r1 : Tr.rst m = -(324000000000 - m) := by unfold Tr.rst; rw [n1, q1]; omega
  unfold sinR cosR quadR
  rw [q1, r1, Rat.intCast_neg, show -((324000000000 - m : Int) : Rat) * rad = -(((324000000000 - m : Int) : Rat) * rad) by grind, csR_neg, snR_neg]
  refine ⟨rfl, ?_⟩
  show - -snR _ = _
  grind
theorem arg_in {n : Int} (h0 : 0 ≤ n) (h1 : n ≤ 162000000000) : 0 ≤ (n : Rat) * rad ∧ (n : Rat) * rad ≤ 7854 / 10000 := by
  have hr := Rat.le_of_lt rad_pos
  have hm : 162000000000 * rad ≤ 7854 / 10000 := by decide +kernel
  have p1 : (n : Rat) * rad ≤ 162000000000 * rad := Rat.mul_le_mul_of_nonneg_right (rat_int h1) hr
  exact ⟨Rat.mul_nonneg (rat_int h0) hr, Rat.le_trans p1 hm⟩
theorem arg_succ (n : Int) : ((n + 1 : Int) : Rat) * rad = (n : Rat) * rad + rad := by rw [Rat.intCast_add]; show ((n : Rat) + 1) * rad = _; grind
/-- One step in the first quarter. -/
theorem quarter_step {m : Int} (h0 : 0 ≤ m) (h1 : m < 324000000000) :
    0 ≤ sinR (m + 1) - sinR m ∧ 0 ≤ cosR m - cosR (m + 1) ∧ (m < 162000000000 → rad * (69 / 100) ≤ sinR (m + 1) - sinR m) ∧ (162000000000 ≤ m → rad * (69 / 100) ≤ cosR m - cosR (m + 1)) := by
  have hr := rad_pos
  have h69 : 0 ≤ rad * (69 / 100) := by decide +kernel
  by_cases a : m + 1 < 162000000000
  · obtain ⟨s1, c1⟩ := quarter_one h0 (by omega)
    obtain ⟨s2, c2⟩ := quarter_one (m := m + 1) (by omega) a
    obtain ⟨i1, i2⟩ := arg_in h0 (by omega)
    obtain ⟨j1, j2⟩ := arg_in (n := m + 1) (by omega) (by omega)
    rw [s1, c1, s2, c2]
    have e := arg_succ m
    obtain ⟨p1, _⟩ := snR_step (x := (m : Rat) * rad) (y := ((m + 1 : Int) : Rat) * rad) i1 (by rw [e]; grind) j2
    have p2 := csR_mono (x := (m : Rat) * rad) (y := ((m + 1 : Int) : Rat) * rad) i1 (by rw [e]; grind) j2
    have e2 : ((m + 1 : Int) : Rat) * rad - (m : Rat) * rad = rad := by rw [e]; grind
    rw [e2] at p1
    exact ⟨Rat.le_trans h69 p1, by grind, fun _ => p1, fun h => by omega⟩
  · by_cases b : m = 161999999999
    · subst b
      have k1 : rad * (69 / 100) ≤ sinR (161999999999 + 1) - sinR 161999999999 := by decide +kernel
      have k2 : 0 ≤ cosR 161999999999 - cosR (161999999999 + 1) := by decide +kernel
      exact ⟨Rat.le_trans h69 k1, k2, fun _ => k1, fun h => by omega⟩
    · obtain ⟨s1, c1⟩ := quarter_two (m := m) (by omega) (by omega)
      obtain ⟨s2, c2⟩ := quarter_two (m := m + 1) (by omega) (by omega)
      obtain ⟨i1, i2⟩ := arg_in (n := 324000000000 - (m + 1)) (by omega) (by omega)
      obtain ⟨j1, j2⟩ := arg_in (n := 324000000000 - m) (by omega) (by omega)
      rw [s1, c1, s2, c2]
      have e := arg_succ (324000000000 - (m + 1))
      rw [show (324000000000 - (m + 1) + 1 : Int) = 324000000000 - m by omega] at e
      obtain ⟨p1, _⟩ := snR_step (x := ((324000000000 - (m + 1) : Int) : Rat) * rad) (y := ((324000000000 - m : Int) : Rat) * rad) i1 (by rw [e]; grind) j2
      have p2 := csR_mono (x := ((324000000000 - (m + 1) : Int) : Rat) * rad) (y := ((324000000000 - m : Int) : Rat) * rad) i1 (by rw [e]; grind) j2
      have e2 : ((324000000000 - m : Int) : Rat) * rad - ((324000000000 - (m + 1) : Int) : Rat) * rad = rad := by rw [e]; grind
      rw [e2] at p1
      exact ⟨by grind, Rat.le_trans h69 p1, fun h => by omega, fun _ => p1⟩
/-- Sine and cosine in the first quarter. -/
theorem quarter_in {m : Int} (h0 : 0 ≤ m) (h1 : m ≤ 324000000000) : 0 ≤ sinR m ∧ sinR m ≤ 1 ∧ 0 ≤ cosR m ∧ cosR m ≤ 1 ∧ (m ≤ 162000000000 → 54 / 100 ≤ cosR m) ∧ (162000000000 ≤ m → 707 / 1000 ≤ sinR m) := by
  by_cases a : m < 162000000000
  · obtain ⟨s1, c1⟩ := quarter_one h0 a
    obtain ⟨i1, i2⟩ := arg_in h0 (by omega)
    obtain ⟨p1, p2⟩ := snR_lo i1 i2
    obtain ⟨q1, q2⟩ := csR_lo i1 i2
    have := Rat.mul_nonneg i1 (show (0 : Rat) ≤ 69 / 100 by decide +kernel)
    rw [s1, c1]
    exact ⟨by grind, by grind, by grind, q2, fun _ => by grind, fun h => by omega⟩
  · obtain ⟨s1, c1⟩ := quarter_two (m := m) (by omega) h1
    obtain ⟨i1, i2⟩ := arg_in (n := 324000000000 - m) (by omega) (by omega)
    obtain ⟨p1, p2⟩ := snR_lo i1 i2
    obtain ⟨q1, q2⟩ := csR_lo i1 i2
    have := Rat.mul_nonneg i1 (show (0 : Rat) ≤ 69 / 100 by decide +kernel)
    rw [s1, c1]
    refine ⟨by grind, q2, by grind, by grind, fun h => ?_, fun _ => q1⟩
    have e : m = 162000000000 := by omega
    subst e
    have k : (54 / 100 : Rat) ≤ snR (((324000000000 - 162000000000 : Int) : Rat) * rad) := by decide +kernel
    exact k
def gR (t m : Int) : Rat := sinR m * cosR t - cosR m * sinR t
theorem gR_mono {t : Int} (t0 : 0 ≤ t) (t1 : t ≤ 324000000000) : ∀ (n : Nat) (m : Int), 0 ≤ m → m + n ≤ 324000000000 → gR t m ≤ gR t (m + n)
  | 0, m, _, _ => by rw [show m + ((0 : Nat) : Int) = m by omega]; exact Rat.le_refl
  | n + 1, m, h0, h1 => by
    have ih := gR_mono t0 t1 n m h0 (by omega)
    obtain ⟨s, c, _, _⟩ := quarter_step (m := m + n) (by omega) (by omega)
    obtain ⟨a1, _, a2, _⟩ := quarter_in t0 t1
    have q1 := Rat.mul_nonneg s a2
    have q2 := Rat.mul_nonneg c a1
    rw [show m + ((n + 1 : Nat) : Int) = m + n + 1 by omega]
    unfold gR at ih ⊢
    grind
theorem gR_next {t : Int} (t0 : 0 ≤ t) (t1 : t < 324000000000) : rad * (37 / 100) ≤ gR t (t + 1) := by
  obtain ⟨s, c, s2, c2⟩ := quarter_step t0 t1
  obtain ⟨a1, _, a2, _, a3, a4⟩ := quarter_in t0 (Int.le_of_lt t1)
  have hr := rad_pos
  by_cases h : t < 162000000000
  · have q1 := s2 h
    have q2 := a3 (by omega)
    have q3 := Rat.mul_le_mul_of_nonneg_right q1 a2
    have q4 := Rat.mul_le_mul_of_nonneg_left q2 (show 0 ≤ rad * (69 / 100) by decide +kernel)
    have q5 := Rat.mul_nonneg c a1
    have q6 : rad * (37 / 100) ≤ rad * (69 / 100) * (54 / 100) := by decide +kernel
    unfold gR
    grind
  · have q1 := c2 (by omega)
    have q2 := a4 (by omega)
    have q3 := Rat.mul_le_mul_of_nonneg_right q1 a1
    have q4 := Rat.mul_le_mul_of_nonneg_left q2 (show 0 ≤ rad * (69 / 100) by decide +kernel)
    have q5 := Rat.mul_nonneg s a2
    have q6 : rad * (37 / 100) ≤ rad * (69 / 100) * (707 / 1000) := by decide +kernel
    unfold gR
    grind
theorem gR_prev {t : Int} (t0 : 1 ≤ t) (t1 : t ≤ 324000000000) : gR t (t - 1) ≤ -(rad * (37 / 100)) := by
  obtain ⟨s, c, s2, c2⟩ := quarter_step (m := t - 1) (by omega) (by omega)
  obtain ⟨a1, _, a2, _, a3, a4⟩ := quarter_in (m := t) (by omega) t1
  rw [show t - 1 + 1 = t by omega] at s c s2 c2
  have hr := rad_pos
  by_cases h : t ≤ 162000000000
  · have q1 := s2 (by omega)
    have q2 := a3 h
    have q3 := Rat.mul_le_mul_of_nonneg_right q1 a2
    have q4 := Rat.mul_le_mul_of_nonneg_left q2 (show 0 ≤ rad * (69 / 100) by decide +kernel)
    have q5 := Rat.mul_nonneg c a1
    have q6 : rad * (37 / 100) ≤ rad * (69 / 100) * (54 / 100) := by decide +kernel
    unfold gR
    grind
  · have q1 := c2 (by omega)
    have q2 := a4 (by omega)
    have q3 := Rat.mul_le_mul_of_nonneg_right q1 a1
    have q4 := Rat.mul_le_mul_of_nonneg_left q2 (show 0 ≤ rad * (69 / 100) by decide +kernel)
    have q5 := Rat.mul_nonneg s a2
    have q6 : rad * (37 / 100) ≤ rad * (69 / 100) * (707 / 1000) := by decide +kernel
    unfold gR
    grind
theorem gR_far {t m : Int} (t0 : 0 ≤ t) (t1 : t ≤ 324000000000) (m0 : 0 ≤ m) (m1 : m ≤ 324000000000) : (t < m → rad * (37 / 100) ≤ gR t m) ∧ (m < t → gR t m ≤ -(rad * (37 / 100))) := by
  refine ⟨fun h => ?_, fun h => ?_⟩
  · have h1 := gR_next t0 (by omega)
    have h2 := gR_mono t0 t1 (m - (t + 1)).toNat (t + 1) (by omega) (by omega)
    rw [show t + 1 + ((m - (t + 1)).toNat : Int) = m by omega] at h2
    exact Rat.le_trans h1 h2
  · have h1 := gR_prev (t := t) (by omega) t1
    have h2 := gR_mono t0 t1 (t - 1 - m).toNat m m0 (by omega)
    rw [show m + ((t - 1 - m).toNat : Int) = t - 1 by omega] at h2
    exact Rat.le_trans h2 h1
/-- The angle that halving finds: that of the point, or one less. -/
theorem ang_near {u w : Nat} {t : Int} {ρ : Rat} (t0 : 0 ≤ t) (t1 : t ≤ 324000000000) (r0 : 3 / 10 ≤ ρ) (r1 : ρ ≤ 11 / 10)
    (hu : Ap (some u) (ρ * cosR t) (1 / 100000000000000) (11 / 10)) (hw : Ap (some w) (ρ * sinR t) (1 / 100000000000000) (11 / 10)) :
    Tr.bis (Tr.under (some u) (some w)) 0 324000000001 = t ∨ Tr.bis (Tr.under (some u) (some w)) 0 324000000001 = t - 1 := by
  have test : ∀ m : Int, 0 ≤ m → m ≤ 324000000000 → (t < m → Tr.under (some u) (some w) m = false) ∧ (m < t → Tr.under (some u) (some w) m = true) := fun m m0 m1 => by
    have P1 : Ap (Fl.fmul (Tr.sinA m) (some u)) (sinR m * (ρ * cosR t)) (2 / 100000000000000) (3 / 2) := Ap.mul (sin_ap m) hu (by decide +kernel) (by decide +kernel) (by decide +kernel)
    have P2 : Ap (Fl.fmul (Tr.cosA m) (some w)) (cosR m * (ρ * sinR t)) (2 / 100000000000000) (3 / 2) := Ap.mul (cos_ap m) hw (by decide +kernel) (by decide +kernel) (by decide +kernel)
    obtain ⟨_, _, _, a, ha, fa, ⟨a1, a2⟩⟩ := P1
    obtain ⟨_, _, _, b, hb, fb, ⟨b1, b2⟩⟩ := P2
    obtain ⟨g1, g2⟩ := gR_far t0 t1 m0 m1
    have e : sinR m * (ρ * cosR t) - cosR m * (ρ * sinR t) = ρ * gR t m := by unfold gR; grind
    have hk : (4 / 100000000000000 : Rat) < 3 / 10 * (rad * (37 / 100)) := by decide +kernel
    have hp : 0 ≤ rad * (37 / 100) := by decide +kernel
    have q0 := Rat.mul_le_mul_of_nonneg_right r0 hp
    unfold Tr.under
    rw [ha, hb, fle_val fa fb]
    refine ⟨fun h => ?_, fun h => ?_⟩
    · have q1 := Rat.mul_le_mul_of_nonneg_left (g1 h) (show 0 ≤ ρ by grind)
      simp only [decide_eq_false_iff_not]
      grind
    · have q1 := Rat.mul_le_mul_of_nonneg_left (g2 h) (show 0 ≤ ρ by grind)
      simp only [decide_eq_true_eq]
      grind
  obtain ⟨x0, x1, x2, x3⟩ := bis_spec (Tr.under (some u) (some w)) 324000000001 0 324000000001 (by decide) (by decide)
  generalize Tr.bis (Tr.under (some u) (some w)) 0 324000000001 = x at x0 x1 x2 x3 ⊢
  have h1 : x ≤ t := by
    by_cases h : x ≤ t
    · exact h
    · have := (test x x0 (by omega)).1 (by omega)
      rcases x2 with e | e
      · omega
      · rw [this] at e; cases e
  have h2 : t - 1 ≤ x := by
    by_cases h : t - 1 ≤ x
    · exact h
    · have := (test (x + 1) (by omega) (by omega)).2 (by omega)
      rcases x3 with e | e
      · omega
      · rw [this] at e; cases e
  omega
end Go.Fe
/- Unit circle; square roots: near. Nothing of a program stands here. -/
set_option linter.unusedSimpArgs false
set_option linter.unusedVariables false
namespace Go.Fe
open Ieee

/-! Polynomials by their coefficients. -/
def ev : List Rat → Rat → Rat
  | [], _ => 0
  | c :: l, z => c + z * ev l z
def padd : List Rat → List Rat → List Rat
  | [], b => b
  | a, [] => a
  | x :: a, y :: b => (x + y) :: padd a b
def pscale (c : Rat) (l : List Rat) : List Rat := l.map (c * ·)
def pmul : List Rat → List Rat → List Rat
  | [], _ => []
  | x :: a, b => padd (pscale x b) (0 :: pmul a b)
theorem ev_padd (z : Rat) : ∀ a b : List Rat, ev (padd a b) z = ev a z + ev b z
  | [], b => by simp [padd, ev]; grind
  | x :: a, [] => by simp [padd, ev]; grind
  | x :: a, y :: b => by
    show (x + y) + z * ev (padd a b) z = (x + z * ev a z) + (y + z * ev b z)
    rw [ev_padd z a b]
    grind
theorem ev_pscale (c z : Rat) : ∀ l : List Rat, ev (pscale c l) z = c * ev l z
  | [] => by simp [pscale, ev]
  | x :: l => by
    show c * x + z * ev (pscale c l) z = c * (x + z * ev l z)
    rw [ev_pscale c z l]
    grind
theorem ev_pmul (z : Rat) : ∀ a b : List Rat, ev (pmul a b) z = ev a z * ev b z
  | [], b => by simp [pmul, ev]
  | x :: a, b => by
    show ev (padd (pscale x b) (0 :: pmul a b)) z = (x + z * ev a z) * ev b z
    rw [ev_padd, ev_pscale]
    show x * ev b z + (0 + z * ev (pmul a b) z) = _
    rw [ev_pmul z a b]
    grind
def ab (x : Rat) : Rat := if 0 ≤ x then x else -x
theorem ab_le (x : Rat) : x ≤ ab x ∧ -ab x ≤ x ∧ 0 ≤ ab x := by unfold ab; split <;> grind
def bdp : List Rat → Rat → Rat
  | [], _ => 0
  | c :: l, Z => ab c + Z * bdp l Z
theorem bdp_nonneg {Z : Rat} (hZ : 0 ≤ Z) : ∀ l : List Rat, 0 ≤ bdp l Z
  | [] => Rat.le_refl
  | c :: l => by
    have h := Rat.mul_nonneg hZ (bdp_nonneg hZ l)
    have h2 := (ab_le c).2.2
    show 0 ≤ ab c + Z * bdp l Z
    grind
theorem ev_bound {z Z : Rat} (h0 : 0 ≤ z) (h1 : z ≤ Z) : ∀ l : List Rat, ev l z ≤ bdp l Z ∧ -bdp l Z ≤ ev l z
  | [] => by simp [ev, bdp]
  | c :: l => by
    obtain ⟨i1, i2⟩ := ev_bound h0 h1 l
    obtain ⟨a1, a2, _⟩ := ab_le c
    have hb := bdp_nonneg (Rat.le_trans h0 h1) l
    obtain ⟨m1, m2⟩ := mul_size (a := z) (b := ev l z) (A := Z) (B := bdp l Z) h1 (by grind) i1 i2
    show c + z * ev l z ≤ ab c + Z * bdp l Z ∧ -(ab c + Z * bdp l Z) ≤ c + z * ev l z
    exact ⟨by grind, by grind⟩
theorem horR_ev (z : Rat) : ∀ l : List Nat, horR z l = ev (l.map V) z
  | [] => rfl
  | [c] => by show V c = V c + z * 0; grind
  | c :: d :: l => by
    show V c + z * horR z (d :: l) = V c + z * ev ((d :: l).map V) z
    rw [horR_ev z (d :: l)]
theorem serR_ev (cs : List Nat) (z : Rat) : serR cs z = ev (1 :: cs.map V) z := by
  unfold serR
  rw [horR_ev]
  rfl
def unitP : List Rat := padd (0 :: pmul (1 :: Tr.oddC.map V) (1 :: Tr.oddC.map V)) (padd (pmul (1 :: Tr.evenC.map V) (1 :: Tr.evenC.map V)) [-1])
theorem unit_ev (x : Rat) : snR x * snR x + csR x * csR x - 1 = ev unitP (x * x) := by
  unfold unitP
  rw [ev_padd, ev_padd, ev_pmul]
  show _ = (0 + x * x * ev (pmul _ _) (x * x)) + _
  rw [ev_pmul]
  unfold snR csR
  rw [serR_ev, serR_ev]
  show _ = _ + (_ + (-1 + x * x * 0))
  grind
theorem unit_size : bdp unitP (617 / 1000) ≤ 2 / 10000000000000000 := by decide +kernel
/-- The square of the sine and that of the cosine. -/
theorem unit_near {x : Rat} (h0 : -(7854 / 10000) ≤ x) (h1 : x ≤ 7854 / 10000) : Nr (snR x * snR x + csR x * csR x) 1 (2 / 10000000000000000) := by
  have hz : 0 ≤ x * x := by
    rcases Rat.le_total (a := 0) (b := x) with h | h
    · exact Rat.mul_nonneg h h
    · have := Rat.mul_nonneg (show 0 ≤ -x by grind) (show 0 ≤ -x by grind)
      grind
  have hz2 : x * x ≤ 617 / 1000 := by
    obtain ⟨s1, _⟩ := mul_size h1 h0 h1 h0
    have : (7854 / 10000 * (7854 / 10000) : Rat) ≤ 617 / 1000 := by decide +kernel
    grind
  obtain ⟨b1, b2⟩ := ev_bound hz hz2 unitP
  have hs := unit_size
  have he := unit_ev x
  exact ⟨by grind, by grind⟩
theorem sinR_unit (k : Int) : Nr (sinR k * sinR k + cosR k * cosR k) 1 (2 / 10000000000000000) := by
  obtain ⟨r1, r2⟩ := rst_in k
  have hr := Rat.le_of_lt rad_pos
  have hm : 162000000000 * rad ≤ 7854 / 10000 := by decide +kernel
  have p1 : (Tr.rst k : Rat) * rad ≤ 162000000000 * rad := Rat.mul_le_mul_of_nonneg_right (rat_int r2) hr
  have p2 : -162000000000 * rad ≤ (Tr.rst k : Rat) * rad := Rat.mul_le_mul_of_nonneg_right (rat_int r1) hr
  obtain ⟨u1, u2⟩ := unit_near (x := (Tr.rst k : Rat) * rad) (by grind) (by grind)
  unfold sinR cosR quadR
  split
  · exact ⟨by grind, by grind⟩
  · split
    · exact ⟨by grind, by grind⟩
    · split
      · exact ⟨by grind, by grind⟩
      · exact ⟨by grind, by grind⟩
/-! Square roots. -/
theorem rootFrom_spec (n : Nat) : ∀ (todo root : Nat), root * root ≤ n → n < (root + 2 ^ todo) * (root + 2 ^ todo) → Datum.rootFrom n todo root * Datum.rootFrom n todo root ≤ n ∧ n < (Datum.rootFrom n todo root + 1) * (Datum.rootFrom n todo root + 1)
  | 0, root, h1, h2 => ⟨h1, by show n < (root + 1) * (root + 1); simpa using h2⟩
  | todo + 1, root, h1, h2 => by
    unfold Datum.rootFrom
    simp only
    rw [Nat.shiftLeft_eq, Nat.one_mul]
    split
    · rename_i h
      exact rootFrom_spec n todo _ h (by rw [Nat.add_assoc, show 2 ^ todo + 2 ^ todo = 2 ^ (todo + 1) by rw [Nat.pow_succ]; omega]; exact h2)
    · rename_i h
      exact rootFrom_spec n todo _ h1 (by omega)
theorem root_start (n : Nat) : n < (0 + 2 ^ (n.log2 / 2 + 1)) * (0 + 2 ^ (n.log2 / 2 + 1)) := by
  rw [Nat.zero_add, ← Nat.pow_add]
  exact Nat.lt_of_lt_of_le Nat.lt_log2_self (Nat.pow_le_pow_right (by decide) (by omega))
/-- What a root is near: its square. -/
theorem sqrt_err3 {x : Nat} (hx : Fn x) (h0 : 0 ≤ V x) (hb : V x ≤ two 900) : ∃ r, double.sqrt x = some r ∧ Fn r ∧ 0 ≤ V r ∧ V x ≤ V r * V r * (1 + 31 / 10 * U) ∧ V r * V r ≤ V x * (1 + 31 / 10 * U) := by
  obtain ⟨s, m, i, hr, hi⟩ := hx
  have hU := U_pos
  unfold Format.sqrt
  rw [hr]
  have e52 : double.fractionBits + 2 = 54 := by decide
  rw [e52]
  have hv : V x = sg s * (m : Rat) * two i := by unfold V; rw [hr]; rfl
  unfold Datum.root
  simp only
  rcases Nat.eq_zero_or_pos m with hm | hm
  · subst hm
    rw [if_pos rfl]
    obtain ⟨r1, _, _, r4⟩ := nearest_err s 0 i (by
      have c0 : ((0 : Nat) : Rat) = 0 := rfl
      rw [c0, Rat.zero_mul]
      exact Rat.le_of_lt (two_pos _))
    have hz : V x = 0 := by
      rw [hv]
      have c0 : ((0 : Nat) : Rat) = 0 := rfl
      rw [c0]; grind
    refine ⟨_, rfl, r1, ?_, ?_, ?_⟩
    · show 0 ≤ V (double.nearest s 0 i); rw [r4 rfl]; exact Rat.le_refl
    · show V x ≤ V (double.nearest s 0 i) * V (double.nearest s 0 i) * _
      rw [r4 rfl, hz]; grind
    · show V (double.nearest s 0 i) * V (double.nearest s 0 i) ≤ _
      rw [r4 rfl, hz]; grind
  · rw [if_neg (by omega)]
    have hs : s = false := by
      cases s
      · rfl
      · exfalso
        rw [hv] at h0
        have h1 := Rat.mul_nonneg (nat_nonneg m) (Rat.le_of_lt (two_pos i))
        have h2 : (1 : Rat) * two i ≤ (m : Rat) * two i := Rat.mul_le_mul_of_nonneg_right (by exact rat_le hm) (Rat.le_of_lt (two_pos i))
        have h3 := two_pos i
        have h4 : sg true = -1 := rfl
        rw [h4] at h0
        grind
    subst hs
    rw [if_neg (by simp)]
    obtain ⟨m1, hm1⟩ : ∃ m1, 2 * 54 - m.log2 = m1 := ⟨_, rfl⟩
    rw [hm1]
    obtain ⟨more, hmore⟩ : ∃ more, m1 + ((i - (m1 : Int)) % 2).toNat = more := ⟨_, rfl⟩
    rw [hmore]
    obtain ⟨n, hn⟩ : ∃ n, m <<< more = n := ⟨_, rfl⟩
    rw [hn]
    rw [Nat.shiftLeft_eq] at hn
    obtain ⟨w1, w2⟩ := rootFrom_spec n (n.log2 / 2 + 1) 0 (Nat.zero_le _) (root_start n)
    obtain ⟨whole, hwhole⟩ : ∃ w, Datum.rootFrom n (n.log2 / 2 + 1) 0 = w := ⟨_, rfl⟩
    rw [hwhole] at w1 w2 ⊢
    clear hwhole
    obtain ⟨e, he⟩ : ∃ e : Int, i - (more : Int) = 2 * e := ⟨(i - (more : Int)) / 2, by omega⟩
    have hplace : (i - (more : Int)) / 2 - 1 = e - 1 := by omega
    rw [hplace]
    have hlow : 2 ^ 108 ≤ n := by
      have q1 : 2 ^ m.log2 * 2 ^ more ≤ m * 2 ^ more := Nat.mul_le_mul_right _ (Nat.log2_self_le (by omega))
      rw [← Nat.pow_add, hn] at q1
      exact Nat.le_trans (Nat.pow_le_pow_right (by decide) (by omega)) q1
    have hwh : 2 ^ 54 ≤ whole := by
      rcases Nat.lt_or_ge whole (2 ^ 54) with h | h
      · have h2 : (whole + 1) * (whole + 1) ≤ 2 ^ 54 * 2 ^ 54 := Nat.mul_le_mul h h
        rw [← Nat.pow_add] at h2
        exact absurd w2 (Nat.not_lt.2 (Nat.le_trans h2 hlow))
      · exact h
    obtain ⟨d, hd, hd2⟩ : ∃ d : Nat, (whole * whole != n).toNat = d ∧ ((d = 0 ∧ whole * whole = n) ∨ (d = 1 ∧ whole * whole < n)) := by
      by_cases h : whole * whole = n
      · exact ⟨0, by simp [h], .inl ⟨rfl, h⟩⟩
      · exact ⟨1, by simp [h], .inr ⟨rfl, by omega⟩⟩
    rw [hd]
    clear hd
    -- values
    have hvx : V x = (n : Rat) * (two e * two e) := by
      rw [hv]
      have h4 : sg false = 1 := rfl
      rw [h4, Rat.one_mul, ← hn, Rat.natCast_mul, ← two_add, Rat.mul_assoc (m : Rat) ((2 ^ more : Nat) : Rat), two_nat_mul, show e + e + (more : Int) = i by omega]
    obtain ⟨v, hv1⟩ : ∃ v, ((2 * whole + d : Nat) : Rat) * two (e - 1) = v := ⟨_, rfl⟩
    have hte : two e = 2 * two (e - 1) := by rw [show e = (e - 1) + 1 by omega, two_add, two_one, show e - 1 + 1 - 1 = e - 1 by omega, Rat.mul_comm]
    have htp := two_pos (e - 1)
    have hvv : v * v * 4 = ((2 * whole + d : Nat) : Rat) * ((2 * whole + d : Nat) : Rat) * (two e * two e) := by rw [← hv1, hte]; grind
    -- the square against n
    have hq1 : (2 * whole + d) * (2 * whole + d) ≤ 4 * n + 4 * (whole + 1) ∧ 4 * n ≤ (2 * whole + d) * (2 * whole + d) + 4 * (whole + 1) := by
      rcases hd2 with ⟨rfl, h⟩ | ⟨rfl, h⟩
      · rw [← h]
        constructor
        · have : (2 * whole + 0) * (2 * whole + 0) = 4 * (whole * whole) := by rw [Nat.add_zero, Nat.mul_mul_mul_comm]
          omega
        · have : (2 * whole + 0) * (2 * whole + 0) = 4 * (whole * whole) := by rw [Nat.add_zero, Nat.mul_mul_mul_comm]
          omega
      · have e1 : (2 * whole + 1) * (2 * whole + 1) = 4 * (whole * whole) + 4 * whole + 1 := by
          rw [Nat.add_mul, Nat.mul_add, Nat.one_mul, Nat.mul_one, Nat.mul_mul_mul_comm]; omega
        have e2 : (whole + 1) * (whole + 1) = whole * whole + 2 * whole + 1 := by
          rw [Nat.add_mul, Nat.mul_add, Nat.one_mul, Nat.mul_one]; omega
        omega
    have hsmall : (whole + 1) * 2 ^ 53 ≤ whole * whole := by
      have h1 : 2 ^ 54 * whole ≤ whole * whole := Nat.mul_le_mul_right _ hwh
      rw [show (2 : Nat) ^ 54 = 18014398509481984 by decide] at h1 hwh
      rw [show (2 : Nat) ^ 53 = 9007199254740992 by decide]
      omega
    have hU2 : U * ((2 ^ 53 : Nat) : Rat) = 1 := by decide +kernel
    have hww : (((whole + 1 : Nat) : Rat)) ≤ U * ((whole * whole : Nat) : Rat) := by
      have h1 := Rat.mul_le_mul_of_nonneg_left (rat_le hsmall) (Rat.le_of_lt hU)
      rw [Rat.natCast_mul] at h1
      generalize ((whole + 1 : Nat) : Rat) = a at h1 ⊢
      generalize ((2 ^ 53 : Nat) : Rat) = b at h1 hU2
      have h3 : U * (a * b) = a := by rw [show U * (a * b) = a * (U * b) by grind, hU2, Rat.mul_one]
      rw [h3] at h1
      exact h1
    have r1 := rat_le hq1.1
    have r2 := rat_le hq1.2
    have r3 := rat_le w1
    have r4 : ((4 * (whole * whole) : Nat) : Rat) ≤ (((2 * whole + d) * (2 * whole + d) : Nat) : Rat) := rat_le (by
      have h1 : (2 * whole) * (2 * whole) ≤ (2 * whole + d) * (2 * whole + d) := Nat.mul_le_mul (by omega) (by omega)
      rw [Nat.mul_mul_mul_comm] at h1
      omega)
    have hT : 0 ≤ two e * two e := Rat.mul_nonneg (Rat.le_of_lt (two_pos e)) (Rat.le_of_lt (two_pos e))
    have c4 : ((4 : Nat) : Rat) = 4 := rfl
    rw [Rat.natCast_add, Rat.natCast_mul 4 n, Rat.natCast_mul 4 (whole + 1), c4] at r1
    rw [Rat.natCast_add, Rat.natCast_mul 4 n, Rat.natCast_mul 4 (whole + 1), c4] at r2
    rw [Rat.natCast_mul 4 (whole * whole), c4] at r4
    have eqq : (((2 * whole + d) * (2 * whole + d) : Nat) : Rat) = ((2 * whole + d : Nat) : Rat) * ((2 * whole + d : Nat) : Rat) := Rat.natCast_mul _ _
    rw [← eqq] at hvv
    generalize (((2 * whole + d) * (2 * whole + d) : Nat) : Rat) = Q at r1 r2 r4 hvv
    have r3U := Rat.mul_le_mul_of_nonneg_left r3 (Rat.le_of_lt hU)
    have r4U := Rat.mul_le_mul_of_nonneg_left r4 (Rat.le_of_lt hU)
    have hpl : -1074 ≤ e - 1 := by clear hd2 hq1 hsmall w1 w2 hlow hwh hn; omega
    clear hr hm1 hmore hn he hplace hlow hwh hd2 hq1 hsmall w1 w2 e52 hv
    have f1 : v * v ≤ V x * (1 + U) := by
      rw [hvx]
      have k1 : Q ≤ 4 * ((n : Rat) * (1 + U)) := by grind
      have k2 := Rat.mul_le_mul_of_nonneg_right k1 hT
      generalize two e * two e = T at hvv k2 ⊢
      grind
    have f2 : V x ≤ v * v * (1 + U) := by
      rw [hvx]
      have k1 : 4 * (n : Rat) ≤ Q * (1 + U) := by grind
      have k2 := Rat.mul_le_mul_of_nonneg_right k1 hT
      generalize two e * two e = T at hvv k2 ⊢
      have k3 : Q * (1 + U) * T = v * v * 4 * (1 + U) := by rw [hvv]; grind
      rw [k3] at k2
      grind
    have hv0 : 0 ≤ v := by rw [← hv1]; exact Rat.mul_nonneg (nat_nonneg _) (Rat.le_of_lt htp)
    have hU1 : U ≤ 1 / 1000 := by decide +kernel
    have hvb : v ≤ two 900 := by
      by_cases h : v ≤ two 900
      · exact h
      · exfalso
        have h900 := big_900
        have q1 := Rat.mul_le_mul_of_nonneg_left (show 2 * two 900 ≤ v * two 900 by
          have := Rat.mul_le_mul_of_nonneg_left (show (2 : Rat) ≤ two 900 by grind) hv0
          have h5 : two 900 ≤ v := by grind
          have h6 := Rat.mul_le_mul_of_nonneg_right h5 (show 0 ≤ two 900 by grind)
          have h7 := Rat.mul_le_mul_of_nonneg_right (show (2 : Rat) ≤ two 900 by grind) (show 0 ≤ two 900 by grind)
          grind) (show (0 : Rat) ≤ 1 by decide)
        have q2 := Rat.mul_le_mul_of_nonneg_left (show two 900 ≤ v by grind) hv0
        have q3 := Rat.mul_le_mul_of_nonneg_right hb (show 0 ≤ 1 + U by grind)
        have q4 := Rat.mul_le_mul_of_nonneg_left hU1 (show 0 ≤ two 900 by grind)
        grind
    obtain ⟨rf, _, rn, _⟩ := nearest_err false (2 * whole + d) (e - 1) (by rw [hv1]; exact hvb)
    obtain ⟨n1, n2⟩ := rn hpl
    have hsg : sg false = 1 := rfl
    rw [hv1, hsg, Rat.one_mul] at n1 n2
    refine ⟨_, rfl, rf, ?_, ?_, ?_⟩
    all_goals
      show _ ≤ _
      have hn0 : 0 ≤ V (double.nearest false (2 * whole + d) (e - 1)) := by
        have := Rat.mul_nonneg (show 0 ≤ 1 - U by grind) hv0
        grind
    · exact hn0
    · show V x ≤ V (double.nearest false (2 * whole + d) (e - 1)) * V (double.nearest false (2 * whole + d) (e - 1)) * (1 + 31 / 10 * U)
      generalize V (double.nearest false (2 * whole + d) (e - 1)) = y at n1 n2 hn0 ⊢
      have k0 : 0 ≤ v * (1 - U) := Rat.mul_nonneg hv0 (by grind)
      have k1 : v * (1 - U) ≤ y := by grind
      have k2 := Rat.mul_le_mul_of_nonneg_left k1 k0
      have k3 := Rat.mul_le_mul_of_nonneg_right k1 hn0
      have k4 : v * (1 - U) * (v * (1 - U)) ≤ y * y := Rat.le_trans k2 k3
      have k5 := Rat.mul_le_mul_of_nonneg_right k4 (show 0 ≤ 1 + 31 / 10 * U by grind)
      have k6 : 0 ≤ v * v := Rat.mul_nonneg hv0 hv0
      have k7 : 1 + U ≤ (1 - U) * (1 - U) * (1 + 31 / 10 * U) := by decide +kernel
      have k8 := Rat.mul_le_mul_of_nonneg_left k7 k6
      grind
    · show V (double.nearest false (2 * whole + d) (e - 1)) * V (double.nearest false (2 * whole + d) (e - 1)) ≤ V x * (1 + 31 / 10 * U)
      generalize V (double.nearest false (2 * whole + d) (e - 1)) = y at n1 n2 hn0 ⊢
      have k0 : 0 ≤ v * (1 + U) := Rat.mul_nonneg hv0 (by grind)
      have k1 : y ≤ v * (1 + U) := by grind
      have k2 := Rat.mul_le_mul_of_nonneg_left k1 hn0
      have k3 := Rat.mul_le_mul_of_nonneg_right k1 k0
      have k4 : y * y ≤ v * (1 + U) * (v * (1 + U)) := Rat.le_trans k2 k3
      have k5 := Rat.mul_le_mul_of_nonneg_right f1 (show 0 ≤ (1 + U) * (1 + U) by decide +kernel)
      have k7 : (1 + U) * ((1 + U) * (1 + U)) ≤ 1 + 31 / 10 * U := by decide +kernel
      have k8 := Rat.mul_le_mul_of_nonneg_left k7 h0
      grind
theorem sqrt_err {x : Nat} (hx : Fn x) (h0 : 0 ≤ V x) (hb : V x ≤ two 900) : ∃ r, double.sqrt x = some r ∧ Fn r ∧ 0 ≤ V r ∧ V x ≤ V r * V r * (1 + 4 * U) ∧ V r * V r ≤ V x * (1 + 4 * U) := by
  obtain ⟨r, h1, h2, h3, h4, h5⟩ := sqrt_err3 hx h0 hb
  have k : (1 + 31 / 10 * U : Rat) ≤ 1 + 4 * U := by decide +kernel
  exact ⟨r, h1, h2, h3, Rat.le_trans h4 (Rat.mul_le_mul_of_nonneg_left k (Rat.mul_nonneg h3 h3)), Rat.le_trans h5 (Rat.mul_le_mul_of_nonneg_left k h0)⟩
end Go.Fe
/- Any whole angle brought to the first quarter. Nothing of a program stands here. -/
set_option linter.unusedSimpArgs false
set_option linter.unusedVariables false
namespace Go.Fe
open Ieee

/-! The angle of any point near a circle. -/
theorem fin_fn {w : Nat} (h : Fn w) : Tr.fin (some w) = true := by
  have z : V w - V w = 0 := by grind
  have h9 : (0 : Rat) ≤ two 900 := Rat.le_of_lt (two_pos _)
  obtain ⟨r, hr, rf, rn⟩ := sub_err h h (by rw [z]; exact h9) (by rw [z]; simpa using h9)
  obtain ⟨n1, n2⟩ := rn 0 (by rw [z]; exact Rat.le_refl) (by rw [z]; grind)
  have hv : V r = 0 := by rw [z, Rat.mul_zero] at n1 n2; grind
  have h1 : Fl.fsub (some w) (some w) = some r := hr
  unfold Tr.fin
  rw [h1]
  have h2 : Fl.ford (some r) (some 0) = some (if V r < V 0 then .lt else if V r = V 0 then .eq else .gt) := order_val rf fn_zero
  unfold Fl.feq
  rw [h2, hv, V_zero, if_neg (by decide +kernel), if_pos rfl]
  rfl
theorem feq_val {a : Nat} (ha : Fn a) : Fl.feq (some a) (some 0) = decide (V a = 0) := by
  have h2 : Fl.ford (some a) (some 0) = some (if V a < V 0 then .lt else if V a = V 0 then .eq else .gt) := order_val ha fn_zero
  unfold Fl.feq
  rw [h2, V_zero]
  by_cases h1 : V a < 0
  · rw [if_pos h1]; simp; grind
  · by_cases h3 : V a = 0
    · rw [if_neg h1, if_pos h3]; simp [h3]
    · rw [if_neg h1, if_neg h3]; simp [h3]
/-- What is above 0 of it. -/
theorem neg0_ap {w : Nat} {x e : Rat} (hf : Fn w) (hn : Nr (V w) x e) (e0 : 0 ≤ e) {y : Rat} (hy : 0 ≤ y) (hxy : (Fl.flt (some w) (some 0) = true → Nr (-x) y e) ∧ (Fl.flt (some w) (some 0) = false → Nr x y e)) (h1 : y ≤ 11 / 10) :
    ∃ u, Tr.fneg0 (some w) = some u ∧ Fn u ∧ Ap (some u) y (2 * e) (11 / 10) := by
  unfold Tr.fneg0
  obtain ⟨n1, n2⟩ := hn
  cases h : Fl.flt (some w) (some 0) with
  | true =>
    obtain ⟨p1, p2⟩ := hxy.1 h
    obtain ⟨nf, nv⟩ := neg_val hf
    refine ⟨_, rfl, nf, ⟨by grind, h1, by grind, _, rfl, nf, ⟨by rw [nv]; grind, by rw [nv]; grind⟩⟩⟩
  | false =>
    obtain ⟨p1, p2⟩ := hxy.2 h
    refine ⟨w, rfl, hf, ⟨by grind, h1, by grind, _, rfl, hf, ⟨by grind, by grind⟩⟩⟩
theorem sin_only_zero {t : Int} (t0 : 0 ≤ t) (t1 : t ≤ 324000000000) (h : sinR t ≤ 1 / 1000000000000) : t = 0 := by
  by_cases ht : t = 0
  · exact ht
  · exfalso
    have hz : sinR 0 = 0 := by decide +kernel
    obtain ⟨_, _, s, _⟩ := quarter_step (m := 0) (by omega) (by omega)
    have s1 := s (by omega)
    rw [hz, show (0 : Int) + 1 = 1 from rfl] at s1
    have mono : ∀ n : Nat, 1 + (n : Int) ≤ 324000000000 → sinR 1 ≤ sinR (1 + n) := by
      intro n
      induction n with
      | zero => intro _; exact Rat.le_refl
      | succ n ih =>
        intro hn
        have i := ih (by omega)
        obtain ⟨q, _⟩ := quarter_step (m := 1 + n) (by omega) (by omega)
        rw [show (1 + (n : Int) + 1) = 1 + ((n + 1 : Nat) : Int) by omega] at q
        grind
    have m1 := mono (t - 1).toNat (by omega)
    rw [show 1 + ((t - 1).toNat : Int) = t by omega] at m1
    have k : (1 / 1000000000000 : Rat) < rad * (69 / 100) := by decide +kernel
    grind
theorem cos_only_quarter {t : Int} (t0 : 0 ≤ t) (t1 : t ≤ 324000000000) (h : cosR t ≤ 1 / 1000000000000) : t = 324000000000 := by
  by_cases ht : t = 324000000000
  · exact ht
  · exfalso
    have hz : cosR 324000000000 = 0 := by decide +kernel
    obtain ⟨_, _, _, s⟩ := quarter_step (m := 323999999999) (by omega) (by omega)
    have s1 := s (by omega)
    rw [show (323999999999 : Int) + 1 = 324000000000 from rfl, hz] at s1
    have mono : ∀ n : Nat, 0 ≤ 323999999999 - (n : Int) → cosR 323999999999 ≤ cosR (323999999999 - n) := by
      intro n
      induction n with
      | zero => intro _; exact Rat.le_refl
      | succ n ih =>
        intro hn
        have i := ih (by omega)
        obtain ⟨_, q, _⟩ := quarter_step (m := 323999999999 - ((n + 1 : Nat) : Int)) (by omega) (by omega)
        rw [show (323999999999 - ((n + 1 : Nat) : Int) + 1) = 323999999999 - (n : Int) by omega] at q
        grind
    have m1 := mono (323999999999 - t).toNat (by omega)
    rw [show 323999999999 - ((323999999999 - t).toNat : Int) = t by omega] at m1
    have k : (1 / 1000000000000 : Rat) < rad * (69 / 100) := by decide +kernel
    grind
/-- Any whole angle, brought to the first quarter: which signs, which angle there. -/
structure Refl (n t : Int) (cx cy : Rat) : Prop where
  c : Nr (cosR n) (cx * cosR t) (1 / 1000000000000000)
  s : Nr (sinR n) (cy * sinR t) (1 / 1000000000000000)
theorem refl_of {n : Int} (h0 : 0 ≤ n) (h1 : n < 1296000000000) :
    (n ≤ 324000000000 ∧ Refl n n 1 1) ∨ (324000000000 < n ∧ n ≤ 648000000000 ∧ Refl n (648000000000 - n) (-1) 1) ∨
    (648000000000 < n ∧ n ≤ 972000000000 ∧ Refl n (n - 648000000000) (-1) (-1)) ∨ (972000000000 < n ∧ Refl n (1296000000000 - n) 1 (-1)) := by
  have same : ∀ {a b : Rat}, a = b → Nr a b (1 / 1000000000000000) := fun {a b} h => by
    subst h
    exact ⟨by have : (0 : Rat) ≤ 1 / 1000000000000000 := by decide +kernel
              grind, by have : (0 : Rat) ≤ 1 / 1000000000000000 := by decide +kernel
                        grind⟩
  have neg : ∀ a : Int, ((-a : Int) : Rat) * rad = -((a : Rat) * rad) := fun a => by rw [Rat.intCast_neg]; grind
  have nn : Tr.nrm n = n := by unfold Tr.nrm; omega
  by_cases a : n ≤ 324000000000
  · exact .inl ⟨a, ⟨same (by grind), same (by grind)⟩⟩
  by_cases b : n ≤ 648000000000
  · refine .inr (.inl ⟨by omega, b, ?_⟩)
    by_cases e : n = 486000000000
    · subst e; exact ⟨⟨by decide +kernel, by decide +kernel⟩, ⟨by decide +kernel, by decide +kernel⟩⟩
    obtain ⟨t, ht⟩ : ∃ t, 648000000000 - n = t := ⟨_, rfl⟩
    have nt : Tr.nrm t = t := by unfold Tr.nrm; omega
    rw [ht]
    by_cases f : n < 486000000000
    · have q1 : Tr.qrt n = 1 := by unfold Tr.qrt; rw [nn]; omega
      have q2 : Tr.qrt t = 1 := by unfold Tr.qrt; rw [nt]; omega
      have r1 : Tr.rst n = -(Tr.rst t) := by unfold Tr.rst; rw [nn, nt, q1, q2]; omega
      refine ⟨same ?_, same ?_⟩
      · unfold cosR quadR; rw [q1, q2, r1, neg, csR_neg, snR_neg]; show - -snR _ = -1 * -snR _; grind
      · unfold sinR quadR; rw [q1, q2, r1, neg, csR_neg, snR_neg]; show csR _ = 1 * csR _; grind
    · have q1 : Tr.qrt n = 2 := by unfold Tr.qrt; rw [nn]; omega
      have q2 : Tr.qrt t = 0 := by unfold Tr.qrt; rw [nt]; omega
      have r1 : Tr.rst n = -(Tr.rst t) := by unfold Tr.rst; rw [nn, nt, q1, q2]; omega
      refine ⟨same ?_, same ?_⟩
      · unfold cosR quadR; rw [q1, q2, r1, neg, csR_neg, snR_neg]; show -csR _ = -1 * csR _; grind
      · unfold sinR quadR; rw [q1, q2, r1, neg, csR_neg, snR_neg]; show - -snR _ = 1 * snR _; grind
  by_cases c : n ≤ 972000000000
  · refine .inr (.inr (.inl ⟨by omega, c, ?_⟩))
    obtain ⟨t, ht⟩ : ∃ t, n - 648000000000 = t := ⟨_, rfl⟩
    have nt : Tr.nrm t = t := by unfold Tr.nrm; omega
    rw [ht]
    by_cases f : t < 162000000000
    · have q1 : Tr.qrt n = 2 := by unfold Tr.qrt; rw [nn]; omega
      have q2 : Tr.qrt t = 0 := by unfold Tr.qrt; rw [nt]; omega
      have r1 : Tr.rst n = Tr.rst t := by unfold Tr.rst; rw [nn, nt, q1, q2]; omega
      refine ⟨same ?_, same ?_⟩
      · unfold cosR quadR; rw [q1, q2, r1]; show -csR _ = -1 * csR _; grind
      · unfold sinR quadR; rw [q1, q2, r1]; show -snR _ = -1 * snR _; grind
    · have q1 : Tr.qrt n = 3 := by unfold Tr.qrt; rw [nn]; omega
      have q2 : Tr.qrt t = 1 := by unfold Tr.qrt; rw [nt]; omega
      have r1 : Tr.rst n = Tr.rst t := by unfold Tr.rst; rw [nn, nt, q1, q2]; omega
      refine ⟨same ?_, same ?_⟩
      · unfold cosR quadR; rw [q1, q2, r1]; show snR _ = -1 * -snR _; grind
      · unfold sinR quadR; rw [q1, q2, r1]; show -csR _ = -1 * csR _; grind
  · refine .inr (.inr (.inr ⟨by omega, ?_⟩))
    by_cases e : n = 1134000000000
    · subst e; exact ⟨⟨by decide +kernel, by decide +kernel⟩, ⟨by decide +kernel, by decide +kernel⟩⟩
    obtain ⟨t, ht⟩ : ∃ t, 1296000000000 - n = t := ⟨_, rfl⟩
    have nt : Tr.nrm t = t := by unfold Tr.nrm; omega
    rw [ht]
    by_cases f : n < 1134000000000
    · have q1 : Tr.qrt n = 3 := by unfold Tr.qrt; rw [nn]; omega
      have q2 : Tr.qrt t = 1 := by unfold Tr.qrt; rw [nt]; omega
      have r1 : Tr.rst n = -(Tr.rst t) := by unfold Tr.rst; rw [nn, nt, q1, q2]; omega
      refine ⟨same ?_, same ?_⟩
      · unfold cosR quadR; rw [q1, q2, r1, neg, csR_neg, snR_neg]; show -snR _ = 1 * -snR _; grind
      · unfold sinR quadR; rw [q1, q2, r1, neg, csR_neg, snR_neg]; show -csR _ = -1 * csR _; grind
    · have q1 : Tr.qrt n = 4 := by unfold Tr.qrt; rw [nn]; omega
      have q2 : Tr.qrt t = 0 := by unfold Tr.qrt; rw [nt]; omega
      have r1 : Tr.rst n = -(Tr.rst t) := by unfold Tr.rst; rw [nn, nt, q1, q2]; omega
      refine ⟨same ?_, same ?_⟩
      · unfold cosR quadR; rw [q1, q2, r1, neg, csR_neg, snR_neg]; show csR _ = 1 * csR _; grind
      · unfold sinR quadR; rw [q1, q2, r1, neg, csR_neg, snR_neg]; show -snR _ = -1 * snR _; grind
end Go.Fe
