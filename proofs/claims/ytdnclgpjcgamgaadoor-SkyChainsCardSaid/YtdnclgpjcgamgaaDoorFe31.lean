/- A row of a rotation on a vector. Nothing of a program stands here. -/
import Derived.Test.YtdnclgpjcgamgaaDoorFe30
set_option linter.unusedSimpArgs false
set_option linter.unusedVariables false
namespace Go.Fe
open Ieee Fl

/-! A row of a rotation on a vector. -/
theorem mul_le_both {a b A B : Rat} (a0 : 0 ≤ a) (b0 : 0 ≤ b) (h1 : a ≤ A) (h2 : b ≤ B) : a * b ≤ A * B :=
  Rat.le_trans (Rat.mul_le_mul_of_nonneg_right h1 b0) (Rat.mul_le_mul_of_nonneg_left h2 (Rat.le_trans a0 h1))
theorem ab_mul (x y : Rat) : x * y ≤ ab x * ab y ∧ -(ab x * ab y) ≤ x * y := by
  obtain ⟨a1, a2, _⟩ := ab_le x
  obtain ⟨b1, b2, _⟩ := ab_le y
  exact mul_size a1 (by grind) b1 (by grind)
/-- The square of what is near. -/
theorem sq_near {u a e : Rat} (h : Nr u a e) (h1 : a * a ≤ 1 + 100 * U) (he : e ≤ 93 / 10 * U) (e0 : 0 ≤ e) : u * u ≤ a * a + 22 / 10 * e := by
  obtain ⟨n1, n2⟩ := h
  have hU1 : U ≤ 1 / 100000 := by decide +kernel
  obtain ⟨a1, a2⟩ := abs_le_of_sq (x := a) (m := 101 / 100) (by decide +kernel) (by grind)
  obtain ⟨p, hp⟩ : ∃ p, u - a = p := ⟨_, rfl⟩
  have eu : u = a + p := by grind
  obtain ⟨m1, _⟩ := mul_size (a := a) (b := p) (A := 101 / 100) (B := e) a1 a2 (by grind) (by grind)
  obtain ⟨m2, _⟩ := mul_size (a := p) (b := p) (A := e) (B := 1 / 100) (by grind) (by grind) (by grind) (by grind)
  rw [eu]
  grind
theorem row_dot {X : V3} {a b c : Rat} (h : RowOk X a b c) {p q r : Nat} {m : Rat} (fp : Fn p) (fq : Fn q) (fr : Fn r) (hv : V p * V p + V q * V q + V r * V r ≤ m * m)
    (hm : m ≤ two 700) (hs : (m = 0 ∧ V p = 0 ∧ V q = 0 ∧ V r = 0) ∨ two (-700) ≤ m) :
    ∃ t, Tr.dt X ⟨some p, some q, some r⟩ = some t ∧ Fn t ∧ Nr (V t) (a * V p + b * V q + c * V r) (125 / 10 * U * m) := by
  obtain ⟨⟨x, y, z, e, f, g, rfl, fx, fy, fz, nx, ny, nz, e0, f0, g0, hefg⟩, ⟨s1, s2⟩⟩ := h
  have hU := U_pos
  have hU1 : U ≤ 1 / 100000 := by decide +kernel
  have m0 : 0 ≤ m := by
    rcases hs with ⟨h, _⟩ | h
    · rw [h]; exact Rat.le_refl
    · exact Rat.le_trans (Rat.le_of_lt (two_pos _)) h
  have aa := sq_nonneg a
  have bb := sq_nonneg b
  have cc := sq_nonneg c
  have pp := sq_nonneg (V p)
  have qq := sq_nonneg (V q)
  have rr := sq_nonneg (V r)
  have k1 := sq_near nx (by grind) (by grind) e0
  have k2 := sq_near ny (by grind) (by grind) f0
  have k3 := sq_near nz (by grind) (by grind) g0
  have cau := cauchy (ab (V x)) (ab (V y)) (ab (V z)) (ab (V p)) (ab (V q)) (ab (V r))
  simp only [ab_sq] at cau
  have mm := Rat.mul_nonneg m0 m0
  have x1 : V x * V x + V y * V y + V z * V z ≤ 1001 / 1000 * (1001 / 1000) := by grind
  have xx := sq_nonneg (V x)
  have yy := sq_nonneg (V y)
  have zz := sq_nonneg (V z)
  have k4 := mul_le_both (show 0 ≤ V x * V x + V y * V y + V z * V z by grind) (show 0 ≤ V p * V p + V q * V q + V r * V r by grind) x1 hv
  have k5 : 1001 / 1000 * (1001 / 1000) * (m * m) = 1001 / 1000 * m * (1001 / 1000 * m) := by grind
  rw [k5] at k4
  have tot := (abs_le_of_sq (m := 1001 / 1000 * m) (by grind) (Rat.le_trans cau k4)).1
  obtain ⟨A1, A2⟩ := ab_mul (V x) (V p)
  obtain ⟨B1, B2⟩ := ab_mul (V y) (V q)
  obtain ⟨C1, C2⟩ := ab_mul (V z) (V r)
  have g7 : two 700 ≤ 1 / 2 * two 800 := by decide +kernel
  have g8 : two (-800) ≤ two (-700) := two_le (by decide)
  obtain ⟨t, ht, ft, t1, t2⟩ := dot_s (s := m) fx fy fz fp fq fr A1 A2 B1 B2 C1 C2 (by grind) (by grind) (hs.imp (fun h => ⟨h.1, by rw [h.2.1]; grind, by rw [h.2.2.1]; grind, by rw [h.2.2.2]; grind⟩) (fun h => by grind))
  refine ⟨t, ht, ft, ?_⟩
  -- the matrix' own errors
  obtain ⟨p1, p2⟩ := abs_le_of_sq (x := V p) (m := m) m0 (by grind)
  obtain ⟨q1, q2⟩ := abs_le_of_sq (x := V q) (m := m) m0 (by grind)
  obtain ⟨r1, r2⟩ := abs_le_of_sq (x := V r) (m := m) m0 (by grind)
  obtain ⟨nx1, nx2⟩ := nx
  obtain ⟨ny1, ny2⟩ := ny
  obtain ⟨nz1, nz2⟩ := nz
  obtain ⟨u1, u2⟩ := mul_size (a := V x - a) (b := V p) (A := e) (B := m) nx1 (by grind) p1 p2
  obtain ⟨v1, v2⟩ := mul_size (a := V y - b) (b := V q) (A := f) (B := m) ny1 (by grind) q1 q2
  obtain ⟨w1, w2⟩ := mul_size (a := V z - c) (b := V r) (A := g) (B := m) nz1 (by grind) r1 r2
  have k6 := Rat.mul_le_mul_of_nonneg_right hefg m0
  have k7 := Rat.mul_le_mul_of_nonneg_left tot (Rat.le_of_lt hU)
  have Um := Rat.mul_nonneg (Rat.le_of_lt hU) m0
  have k8 : U * U * m ≤ 1 / 100000 * (U * m) := by
    have := Rat.mul_le_mul_of_nonneg_right hU1 Um
    grind
  clear cau k4 k5 k1 k2 k3 aa bb cc pp qq rr xx yy zz x1 mm hs hv s1 s2 A1 A2 B1 B2 C1 C2 p1 p2 q1 q2 r1 r2 nx1 nx2 ny1 ny2 nz1 nz2 g7 g8 hm tot
  generalize ab (V x) * ab (V p) + ab (V y) * ab (V q) + ab (V z) * ab (V r) = S at *
  have e1 : U * (1001 / 1000 * m) = 1001 / 1000 * (U * m) := by grind
  have e2 : 301 / 100 * U * S = 301 / 100 * (U * S) := by grind
  have e3 : 125 / 10 * U * m = 125 / 10 * (U * m) := by grind
  have e4 : 93 / 10 * U * m = 93 / 10 * (U * m) := by grind
  rw [e4] at k6
  rw [e3]
  rw [e2] at t1 t2
  rw [e1] at k7
  exact ⟨by grind, by grind⟩
end Go.Fe
