/- The root of a sum of squares. Nothing of a program stands here. -/
import Derived.Test.YtdnclgpjcgamgaaDoorFe15
set_option linter.unusedSimpArgs false
set_option linter.unusedVariables false
namespace Go.Fe
open Ieee

/-! A place, to its point and back. -/
/-- A root whose square is near a square. -/
theorem root_of_square {ρ R : Rat} (r0 : 3 / 10 ≤ ρ) (hR : 0 ≤ R) (h1 : R * R - ρ * ρ ≤ 46 / 10000000000000000 * ρ) (h2 : ρ * ρ - R * R ≤ 46 / 10000000000000000 * ρ) : Nr R ρ (3 / 1000000000000000) := by
  constructor
  · refine Rat.not_lt.mp fun h => ?_
    have k1 : 0 ≤ (R - ρ - 3 / 1000000000000000) * (R + ρ) := Rat.mul_nonneg (by grind) (by grind)
    have k2 : 3 / 1000000000000000 * (ρ + ρ) ≤ 3 / 1000000000000000 * (R + ρ) := Rat.mul_le_mul_of_nonneg_left (by grind) (by decide +kernel)
    grind
  · refine Rat.not_lt.mp fun h => ?_
    have k0 : 6 / 10 * ρ ≤ R := by
      refine Rat.not_lt.mp fun h => ?_
      have m1 : R * R ≤ 6 / 10 * ρ * (6 / 10 * ρ) := Rat.le_trans (Rat.mul_le_mul_of_nonneg_right (Rat.le_of_lt h) hR) (Rat.mul_le_mul_of_nonneg_left (Rat.le_of_lt h) (by grind))
      have m2 := Rat.mul_le_mul_of_nonneg_right r0 (show 0 ≤ ρ by grind)
      grind
    have k1 : 0 ≤ (ρ - R - 3 / 1000000000000000) * (R + ρ) := Rat.mul_nonneg (by grind) (by grind)
    have k2 : 3 / 1000000000000000 * (16 / 10 * ρ) ≤ 3 / 1000000000000000 * (R + ρ) := Rat.mul_le_mul_of_nonneg_left (by grind) (by decide +kernel)
    grind
theorem unit_le {C S : Rat} (h : Nr (C * C + S * S) 1 (2 / 10000000000000000)) : C ≤ 1001 / 1000 ∧ -(1001 / 1000) ≤ C := by
  have hs : 0 ≤ S * S := by
    rcases Rat.le_total (a := 0) (b := S) with h | h
    · exact Rat.mul_nonneg h h
    · have := Rat.mul_nonneg (show 0 ≤ -S by grind) (show 0 ≤ -S by grind)
      grind
  obtain ⟨h1, h2⟩ := h
  constructor
  · refine Rat.not_lt.mp fun h => ?_
    have k := Rat.mul_le_mul_of_nonneg_left (Rat.le_of_lt h) (show 0 ≤ C by grind)
    grind
  · refine Rat.not_lt.mp fun h => ?_
    have k := Rat.mul_le_mul_of_nonneg_left (show 1001 / 1000 ≤ -C by grind) (show 0 ≤ -C by grind)
    grind
theorem cos_tight (k : Int) : Ap (Tr.cosA k) (cosR k) (34 / 100000000000000000) (1001 / 1000) := by
  have hu := sinR_unit k
  obtain ⟨a, b⟩ := unit_le (C := cosR k) (S := sinR k) (by obtain ⟨h1, h2⟩ := hu; exact ⟨by grind, by grind⟩)
  obtain ⟨e0, _, _, v⟩ := cos_ap k
  exact ⟨e0, a, b, v⟩
theorem sin_tight (k : Int) : Ap (Tr.sinA k) (sinR k) (34 / 100000000000000000) (1001 / 1000) := by
  obtain ⟨a, b⟩ := unit_le (sinR_unit k)
  obtain ⟨e0, _, _, v⟩ := sin_ap k
  exact ⟨e0, a, b, v⟩
theorem sq_nonneg (x : Rat) : 0 ≤ x * x := by
  rcases Rat.le_total (a := 0) (b := x) with h | h
  · exact Rat.mul_nonneg h h
  · have := Rat.mul_nonneg (show 0 ≤ -x by grind) (show 0 ≤ -x by grind)
    grind
/-- The sum of the squares. -/
theorem squares_near {ρ C S X Y : Rat} (r0 : 3 / 10 ≤ ρ) (r1 : ρ ≤ 11 / 10) (hu : Nr (C * C + S * S) 1 (2 / 10000000000000000))
    (hx : Nr X (ρ * C) (8 / 10000000000000000)) (hy : Nr Y (ρ * S) (8 / 10000000000000000)) : Nr (X * X + Y * Y) (ρ * ρ) (35 / 10000000000000000 * ρ) := by
  obtain ⟨c1, c2⟩ := unit_le hu
  obtain ⟨s1, s2⟩ := unit_le (C := S) (S := C) (by obtain ⟨h1, h2⟩ := hu; exact ⟨by grind, by grind⟩)
  obtain ⟨x1, x2⟩ := hx
  obtain ⟨y1, y2⟩ := hy
  obtain ⟨u1, u2⟩ := hu
  obtain ⟨p, hp⟩ : ∃ p, X - ρ * C = p := ⟨_, rfl⟩
  obtain ⟨q, hq⟩ : ∃ q, Y - ρ * S = q := ⟨_, rfl⟩
  have eX : X = ρ * C + p := by grind
  have eY : Y = ρ * S + q := by grind
  have e : X * X + Y * Y - ρ * ρ = ρ * (ρ * (C * C + S * S - 1) + 2 * (C * p + S * q)) + (p * p + q * q) := by rw [eX, eY]; grind
  obtain ⟨a1, a2⟩ := mul_size (a := C) (b := p) (A := 1001 / 1000) (B := 8 / 10000000000000000) c1 c2 (by grind) (by grind)
  obtain ⟨b1, b2⟩ := mul_size (a := S) (b := q) (A := 1001 / 1000) (B := 8 / 10000000000000000) s1 s2 (by grind) (by grind)
  obtain ⟨d1, d2⟩ := mul_size (a := ρ) (b := C * C + S * S - 1) (A := 11 / 10) (B := 2 / 10000000000000000) r1 (by grind) u1 (by grind)
  obtain ⟨f1, f2⟩ := mul_size (a := p) (b := p) (A := 8 / 10000000000000000) (B := 8 / 10000000000000000) (by grind) (by grind) (by grind) (by grind)
  obtain ⟨g1, g2⟩ := mul_size (a := q) (b := q) (A := 8 / 10000000000000000) (B := 8 / 10000000000000000) (by grind) (by grind) (by grind) (by grind)
  obtain ⟨Z, hZ⟩ : ∃ Z, ρ * (C * C + S * S - 1) + 2 * (C * p + S * q) = Z := ⟨_, rfl⟩
  rw [hZ] at e
  have z1 : Z ≤ 345 / 100000000000000000 := by
    have k : (11 / 10 * (2 / 10000000000000000) + 2 * (1001 / 1000 * (8 / 10000000000000000) + 1001 / 1000 * (8 / 10000000000000000)) : Rat) ≤ 345 / 100000000000000000 := by decide +kernel
    grind
  have z2 : -(345 / 100000000000000000) ≤ Z := by
    have k : (11 / 10 * (2 / 10000000000000000) + 2 * (1001 / 1000 * (8 / 10000000000000000) + 1001 / 1000 * (8 / 10000000000000000)) : Rat) ≤ 345 / 100000000000000000 := by decide +kernel
    grind
  have m1 := Rat.mul_le_mul_of_nonneg_left z1 (show 0 ≤ ρ by grind)
  have m2 := Rat.mul_le_mul_of_nonneg_left z2 (show 0 ≤ ρ by grind)
  have k2 : (8 / 10000000000000000 * (8 / 10000000000000000) + 8 / 10000000000000000 * (8 / 10000000000000000) : Rat) ≤ 1 / 100000000000000000 * (3 / 10) := by decide +kernel
  exact ⟨by grind, by grind⟩
end Go.Fe
