/- The angle of any point near a circle. Nothing of a program stands here. -/
import Derived.Test.YtaakbajhbmbhcaaDoorFe14
set_option linter.unusedSimpArgs false
set_option linter.unusedVariables false
namespace Go.Fe
open Ieee

theorem abs_ap {w : Nat} {c y e : Rat} (hf : Fn w) (hc : c = 1 ∨ c = -1) (hn : Nr (V w) (c * y) e) (hy : 0 ≤ y) :
    ∃ u, Tr.fneg0 (some w) = some u ∧ Fn u ∧ Nr (V u) y e := by
  unfold Tr.fneg0
  rw [flt_val hf fn_zero, V_zero]
  obtain ⟨n1, n2⟩ := hn
  by_cases h : V w < 0
  · obtain ⟨nf, nv⟩ := neg_val hf
    rw [if_pos (by simpa using h)]
    refine ⟨_, rfl, nf, ?_⟩
    rw [nv]
    rcases hc with rfl | rfl
    · exact ⟨by grind, by grind⟩
    · exact ⟨by grind, by grind⟩
  · rw [if_neg (by simpa using h)]
    refine ⟨w, rfl, hf, ?_⟩
    rcases hc with rfl | rfl
    · exact ⟨by grind, by grind⟩
    · exact ⟨by grind, by grind⟩
/-- The angle that is found of a point near a circle. -/
theorem ang_any {x y : Nat} {k : Int} {ρ : Rat} (r0 : 3 / 10 ≤ ρ) (r1 : ρ ≤ 105 / 100) (fx : Fn x) (fy : Fn y)
    (nx : Nr (V x) (ρ * cosR k) (3 / 1000000000000000)) (ny : Nr (V y) (ρ * sinR k) (3 / 1000000000000000)) :
    ∃ r d : Int, Tr.ang (some y) (some x) = (r, true) ∧ (d = -1 ∨ d = 0 ∨ d = 1) ∧ r = Tr.nrm (k + d) := by
  obtain ⟨n, hn⟩ : ∃ n, Tr.nrm k = n := ⟨_, rfl⟩
  have hn2 : Tr.nrm n = n := by rw [← hn]; unfold Tr.nrm; omega
  have hn0 : 0 ≤ n ∧ n < 1296000000000 := by rw [← hn]; unfold Tr.nrm; omega
  have hc : cosR k = cosR n ∧ sinR k = sinR n := by
    unfold cosR sinR Tr.rst Tr.qrt
    rw [hn, hn2]
    exact ⟨rfl, rfl⟩
  rw [hc.1] at nx
  rw [hc.2] at ny
  -- what is left to be shown of a quarter
  have main : ∀ (t : Int) (cx cy : Rat), 0 ≤ t → t ≤ 324000000000 → (cx = 1 ∨ cx = -1) → (cy = 1 ∨ cy = -1) → Refl n t cx cy →
      ∃ lo : Int, (lo = t ∨ lo = t - 1) ∧ 0 ≤ lo ∧ (cx = 1 → V x < 0 → t = 324000000000) ∧ (cx = -1 → ¬ V x < 0 → t = 324000000000) ∧ (cy = 1 → V y < 0 → t = 0) ∧ (cy = -1 → ¬ V y < 0 → t = 0) ∧
        Tr.ang (some y) (some x) = (if V x < 0 ∧ V y < 0 then 648000000000 + lo else if V x < 0 then 648000000000 - lo else if V y < 0 then Tr.nrm (1296000000000 - lo) else lo, true) := fun t cx cy t0 t1 hcx hcy hr => by
    obtain ⟨⟨c1, c2⟩, ⟨s1, s2⟩⟩ := hr
    obtain ⟨b1, b2, b3, b4, _, _⟩ := quarter_in t0 t1
    have hρ : 0 ≤ ρ := by grind
    have px : Nr (V x) (cx * (ρ * cosR t)) (5 / 1000000000000000) := by
      obtain ⟨m1, m2⟩ := mul_size (a := ρ) (b := cosR n - cx * cosR t) (A := 105 / 100) (B := 1 / 1000000000000000) r1 (by grind) c1 (by grind)
      have e1 : ρ * (cosR n - cx * cosR t) = ρ * cosR n - cx * (ρ * cosR t) := by grind
      rw [e1] at m1 m2
      have k : (105 / 100 * (1 / 1000000000000000) : Rat) ≤ 2 / 1000000000000000 := by decide +kernel
      obtain ⟨q1, q2⟩ := nx
      exact ⟨by grind, by grind⟩
    have py : Nr (V y) (cy * (ρ * sinR t)) (5 / 1000000000000000) := by
      obtain ⟨m1, m2⟩ := mul_size (a := ρ) (b := sinR n - cy * sinR t) (A := 105 / 100) (B := 1 / 1000000000000000) r1 (by grind) s1 (by grind)
      have e1 : ρ * (sinR n - cy * sinR t) = ρ * sinR n - cy * (ρ * sinR t) := by grind
      rw [e1] at m1 m2
      have k : (105 / 100 * (1 / 1000000000000000) : Rat) ≤ 2 / 1000000000000000 := by decide +kernel
      obtain ⟨q1, q2⟩ := ny
      exact ⟨by grind, by grind⟩
    have x0 : 0 ≤ ρ * cosR t := Rat.mul_nonneg hρ b3
    have y0 : 0 ≤ ρ * sinR t := Rat.mul_nonneg hρ b1
    obtain ⟨u, hu, fu, un⟩ := abs_ap fx hcx px x0
    obtain ⟨w, hw, fw, wn⟩ := abs_ap fy hcy py y0
    have ux : ρ * cosR t ≤ 11 / 10 := by
      have := Rat.mul_le_mul_of_nonneg_left b4 hρ
      grind
    have uy : ρ * sinR t ≤ 11 / 10 := by
      have := Rat.mul_le_mul_of_nonneg_left b2 hρ
      grind
    have U1 : Ap (some u) (ρ * cosR t) (1 / 100000000000000) (11 / 10) := ⟨by decide +kernel, ux, by grind, u, rfl, fu, ⟨Rat.le_trans un.hi (by decide +kernel), Rat.le_trans un.lo (by decide +kernel)⟩⟩
    have W1 : Ap (some w) (ρ * sinR t) (1 / 100000000000000) (11 / 10) := ⟨by decide +kernel, uy, by grind, w, rfl, fw, ⟨Rat.le_trans wn.hi (by decide +kernel), Rat.le_trans wn.lo (by decide +kernel)⟩⟩
    have near := ang_near t0 t1 r0 (by grind) U1 W1
    obtain ⟨l0, _⟩ := bis_spec (Tr.under (some u) (some w)) 324000000001 0 324000000001 (by decide) (by decide)
    have qx : ρ * cosR t ≤ 5 / 1000000000000000 → t = 324000000000 := fun h => by
      refine cos_only_quarter t0 t1 ?_
      have h1 := Rat.mul_le_mul_of_nonneg_right r0 b3
      grind
    have qy : ρ * sinR t ≤ 5 / 1000000000000000 → t = 0 := fun h => by
      refine sin_only_zero t0 t1 ?_
      have h1 := Rat.mul_le_mul_of_nonneg_right r0 b1
      grind
    obtain ⟨px1, px2⟩ := px
    obtain ⟨py1, py2⟩ := py
    refine ⟨Tr.bis (Tr.under (some u) (some w)) 0 324000000001, near, l0, fun h hv => qx (by subst h; grind), fun h hv => qx (by subst h; grind), fun h hv => qy (by subst h; grind), fun h hv => qy (by subst h; grind), ?_⟩
    have nz : ¬ (V x = 0 ∧ V y = 0) := fun ⟨zx, zy⟩ => by
      have e1 : t = 324000000000 := qx (by rcases hcx with h | h <;> subst h <;> grind)
      have e2 : t = 0 := qy (by rcases hcy with h | h <;> subst h <;> grind)
      omega
    unfold Tr.ang
    rw [fin_fn fx, fin_fn fy, feq_val fx, feq_val fy, hu, hw, flt_val fx fn_zero, flt_val fy fn_zero, V_zero]
    rw [if_neg (by simpa using nz)]
    simp only [Bool.and_eq_true, decide_eq_true_eq]
  rcases refl_of hn0.1 hn0.2 with ⟨h1, hr⟩ | ⟨h1, h2, hr⟩ | ⟨h1, h2, hr⟩ | ⟨h1, hr⟩
  · obtain ⟨lo, hl, l0, a1, a2, a3, a4, e⟩ := main n 1 1 hn0.1 h1 (.inl rfl) (.inl rfl) hr
    have a1 := a1 rfl
    have a3 := a3 rfl
    rw [e]
    by_cases bx : V x < 0 <;> by_cases b : V y < 0
    · have := a1 bx; have := a3 b; omega
    · have ht := a1 bx
      rw [if_neg (fun h => b h.2), if_pos bx]
      refine ⟨_, 648000000000 - lo - n, rfl, by omega, ?_⟩
      unfold Tr.nrm at hn ⊢; omega
    · have ht := a3 b
      rw [if_neg (fun h => bx h.1), if_neg bx, if_pos b]
      refine ⟨_, 0, rfl, by omega, ?_⟩
      unfold Tr.nrm at hn ⊢; omega
    · rw [if_neg (fun h => bx h.1), if_neg bx, if_neg b]
      refine ⟨_, lo - n, rfl, by omega, ?_⟩
      unfold Tr.nrm at hn ⊢; omega
  · obtain ⟨lo, hl, l0, a1, a2, a3, a4, e⟩ := main (648000000000 - n) (-1) 1 (by omega) (by omega) (.inr rfl) (.inl rfl) hr
    have a2 := a2 rfl
    have a3 := a3 rfl
    rw [e]
    by_cases bx : V x < 0 <;> by_cases b : V y < 0
    · have := a3 b
      rw [if_pos ⟨bx, b⟩]
      refine ⟨_, 648000000000 + lo - n, rfl, by omega, ?_⟩
      unfold Tr.nrm at hn ⊢; omega
    · rw [if_neg (fun h => b h.2), if_pos bx]
      refine ⟨_, 648000000000 - lo - n, rfl, by omega, ?_⟩
      unfold Tr.nrm at hn ⊢; omega
    · have := a2 bx; have := a3 b; omega
    · have := a2 bx; omega
  · obtain ⟨lo, hl, l0, a1, a2, a3, a4, e⟩ := main (n - 648000000000) (-1) (-1) (by omega) (by omega) (.inr rfl) (.inr rfl) hr
    have a2 := a2 rfl
    have a4 := a4 rfl
    rw [e]
    by_cases bx : V x < 0 <;> by_cases b : V y < 0
    · rw [if_pos ⟨bx, b⟩]
      refine ⟨_, 648000000000 + lo - n, rfl, by omega, ?_⟩
      unfold Tr.nrm at hn ⊢; omega
    · have := a4 b; omega
    · have ht := a2 bx
      rw [if_neg (fun h => bx h.1), if_neg bx, if_pos b]
      refine ⟨_, 1296000000000 - lo - n, rfl, by omega, ?_⟩
      unfold Tr.nrm at hn ⊢; omega
    · have := a2 bx; have := a4 b; omega
  · obtain ⟨lo, hl, l0, a1, a2, a3, a4, e⟩ := main (1296000000000 - n) 1 (-1) (by omega) (by omega) (.inl rfl) (.inr rfl) hr
    have a1 := a1 rfl
    have a4 := a4 rfl
    rw [e]
    by_cases bx : V x < 0 <;> by_cases b : V y < 0
    · have ht := a1 bx; omega
    · have := a1 bx; have := a4 b; omega
    · rw [if_neg (fun h => bx h.1), if_neg bx, if_pos b]
      refine ⟨_, 1296000000000 - lo - n, rfl, by omega, ?_⟩
      unfold Tr.nrm at hn ⊢; omega
    · have := a4 b; omega
end Go.Fe
/- The root of a sum of squares. Nothing of a program stands here. -/
set_option linter.unusedSimpArgs false
set_option linter.unusedVariables false
namespace Go.Fe
open Ieee

/-! A place, to its point and back. -/
/-- A root whose square is near a square. -/
theorem root_of_square {ρ R : Rat} (r0 : 3 / 10 ≤ ρ) (hR : 0 ≤ R) (h1 : R * R - ρ * ρ ≤ 46 / 10000000000000000 * ρ) (h2 : ρ * ρ - R * R ≤ 46 / 10000000000000000 * ρ) : Nr R ρ (3 / 1000000000000000) := by
  constructor
  · refine Rat.not_lt.mp fun h => ?_
    have k1 : 0 ≤ (R - ρ - 3 / 1000000000000000) * (R + ρ) := Rat.mul_nonneg (by grind) (by grind)
    have k2 : 3 / 1000000000000000 * (ρ + ρ) ≤ 3 / 1000000000000000 * (R + ρ) := Rat.mul_le_mul_of_nonneg_left (by grind) (by decide +kernel)
    grind
  · refine Rat.not_lt.mp fun h => ?_
    have k0 : 6 / 10 * ρ ≤ R := by
      refine Rat.not_lt.mp fun h => ?_
      have m1 : R * R ≤ 6 / 10 * ρ * (6 / 10 * ρ) := Rat.le_trans (Rat.mul_le_mul_of_nonneg_right (Rat.le_of_lt h) hR) (Rat.mul_le_mul_of_nonneg_left (Rat.le_of_lt h) (by grind))
      have m2 := Rat.mul_le_mul_of_nonneg_right r0 (show 0 ≤ ρ by grind)
      grind
    have k1 : 0 ≤ (ρ - R - 3 / 1000000000000000) * (R + ρ) := Rat.mul_nonneg (by grind) (by grind)
    have k2 : 3 / 1000000000000000 * (16 / 10 * ρ) ≤ 3 / 1000000000000000 * (R + ρ) := Rat.mul_le_mul_of_nonneg_left (by grind) (by decide +kernel)
    grind
theorem unit_le {C S : Rat} (h : Nr (C * C + S * S) 1 (2 / 10000000000000000)) : C ≤ 1001 / 1000 ∧ -(1001 / 1000) ≤ C := by
  have hs : 0 ≤ S * S := by
    rcases Rat.le_total (a := 0) (b := S) with h | h
    · exact Rat.mul_nonneg h h
    · have := Rat.mul_nonneg (show 0 ≤ -S by grind) (show 0 ≤ -S by grind)
      grind
  obtain ⟨h1, h2⟩ := h
  constructor
  · refine Rat.not_lt.mp fun h => ?_
    have k := Rat.mul_le_mul_of_nonneg_left (Rat.le_of_lt h) (show 0 ≤ C by grind)
    grind
  · refine Rat.not_lt.mp fun h => ?_
    have k := Rat.mul_le_mul_of_nonneg_left (show 1001 / 1000 ≤ -C by grind) (show 0 ≤ -C by grind)
    grind
theorem cos_tight (k : Int) : Ap (Tr.cosA k) (cosR k) (34 / 100000000000000000) (1001 / 1000) := by
  have hu := sinR_unit k
  obtain ⟨a, b⟩ := unit_le (C := cosR k) (S := sinR k) (by obtain ⟨h1, h2⟩ := hu; exact ⟨by grind, by grind⟩)
  obtain ⟨e0, _, _, v⟩ := cos_ap k
  exact ⟨e0, a, b, v⟩
theorem sin_tight (k : Int) : Ap (Tr.sinA k) (sinR k) (34 / 100000000000000000) (1001 / 1000) := by
  obtain ⟨a, b⟩ := unit_le (sinR_unit k)
  obtain ⟨e0, _, _, v⟩ := sin_ap k
  exact ⟨e0, a, b, v⟩
theorem sq_nonneg (x : Rat) : 0 ≤ x * x := by
  rcases Rat.le_total (a := 0) (b := x) with h | h
  · exact Rat.mul_nonneg h h
  · have := Rat.mul_nonneg (show 0 ≤ -x by grind) (show 0 ≤ -x by grind)
    grind
/-- The sum of the squares. -/
theorem squares_near {ρ C S X Y : Rat} (r0 : 3 / 10 ≤ ρ) (r1 : ρ ≤ 11 / 10) (hu : Nr (C * C + S * S) 1 (2 / 10000000000000000))
    (hx : Nr X (ρ * C) (8 / 10000000000000000)) (hy : Nr Y (ρ * S) (8 / 10000000000000000)) : Nr (X * X + Y * Y) (ρ * ρ) (35 / 10000000000000000 * ρ) := by
  obtain ⟨c1, c2⟩ := unit_le hu
  obtain ⟨s1, s2⟩ := unit_le (C := S) (S := C) (by obtain ⟨h1, h2⟩ := hu; exact ⟨by grind, by grind⟩)
  obtain ⟨x1, x2⟩ := hx
  obtain ⟨y1, y2⟩ := hy
  obtain ⟨u1, u2⟩ := hu
  obtain ⟨p, hp⟩ : ∃ p, X - ρ * C = p := ⟨_, rfl⟩
  obtain ⟨q, hq⟩ : ∃ q, Y - ρ * S = q := ⟨_, rfl⟩
  have eX : X = ρ * C + p := by grind
  have eY : Y = ρ * S + q := by grind
  have e : X * X + Y * Y - ρ * ρ = ρ * (ρ * (C * C + S * S - 1) + 2 * (C * p + S * q)) + (p * p + q * q) := by rw [eX, eY]; grind
  obtain ⟨a1, a2⟩ := mul_size (a := C) (b := p) (A := 1001 / 1000) (B := 8 / 10000000000000000) c1 c2 (by grind) (by grind)
  obtain ⟨b1, b2⟩ := mul_size (a := S) (b := q) (A := 1001 / 1000) (B := 8 / 10000000000000000) s1 s2 (by grind) (by grind)
  obtain ⟨d1, d2⟩ := mul_size (a := ρ) (b := C * C + S * S - 1) (A := 11 / 10) (B := 2 / 10000000000000000) r1 (by grind) u1 (by grind)
  obtain ⟨f1, f2⟩ := mul_size (a := p) (b := p) (A := 8 / 10000000000000000) (B := 8 / 10000000000000000) (by grind) (by grind) (by grind) (by grind)
  obtain ⟨g1, g2⟩ := mul_size (a := q) (b := q) (A := 8 / 10000000000000000) (B := 8 / 10000000000000000) (by grind) (by grind) (by grind) (by grind)
  obtain ⟨Z, hZ⟩ : ∃ Z, ρ * (C * C + S * S - 1) + 2 * (C * p + S * q) = Z := ⟨_, rfl⟩
  rw [hZ] at e
  have z1 : Z ≤ 345 / 100000000000000000 := by
    have k : (11 / 10 * (2 / 10000000000000000) + 2 * (1001 / 1000 * (8 / 10000000000000000) + 1001 / 1000 * (8 / 10000000000000000)) : Rat) ≤ 345 / 100000000000000000 := by decide +kernel
    grind
  have z2 : -(345 / 100000000000000000) ≤ Z := by
    have k : (11 / 10 * (2 / 10000000000000000) + 2 * (1001 / 1000 * (8 / 10000000000000000) + 1001 / 1000 * (8 / 10000000000000000)) : Rat) ≤ 345 / 100000000000000000 := by decide +kernel
    grind
  have m1 := Rat.mul_le_mul_of_nonneg_left z1 (show 0 ≤ ρ by grind)
  have m2 := Rat.mul_le_mul_of_nonneg_left z2 (show 0 ≤ ρ by grind)
  have k2 : (8 / 10000000000000000 * (8 / 10000000000000000) + 8 / 10000000000000000 * (8 / 10000000000000000) : Rat) ≤ 1 / 100000000000000000 * (3 / 10) := by decide +kernel
  exact ⟨by grind, by grind⟩
end Go.Fe
