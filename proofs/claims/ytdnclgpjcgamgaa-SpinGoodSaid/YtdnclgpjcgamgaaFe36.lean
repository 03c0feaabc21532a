/- A unit and a rotation about an axis: near the unit sphere. Nothing of a program stands here. -/
import Derived.Test.YtdnclgpjcgamgaaFe35
import Derived.Test.YtdnclgpjcgamgaaFe28
import Derived.Test.YtdnclgpjcgamgaaFe24
set_option linter.unusedSimpArgs false
set_option linter.unusedVariables false
namespace Go.Fe
open Ieee Fl

/-! A unit, and a rotation about an axis. -/
theorem unit_sum4 {T N S : Rat} (n0 : 0 < N) (hn : Nr (N * N) T (75 / 10 * U * T)) (hT : 0 ≤ T) (hs : S * (N * N) = T) : Nr S 1 (76 / 10 * U) := by
  obtain ⟨h1, h2⟩ := hn
  have nn := Rat.mul_pos n0 n0
  generalize N * N = M at *
  have hU := U_pos
  have hU1 : U ≤ 1 / 1000 := by decide +kernel
  have UT := Rat.mul_nonneg (Rat.le_of_lt hU) hT
  have u1 : U * T ≤ 1 / 1000 * T := Rat.mul_le_mul_of_nonneg_right hU1 hT
  have T1 : T ≤ 101 / 100 * M := by grind
  have u2 : U * T ≤ U * (101 / 100 * M) := Rat.mul_le_mul_of_nonneg_left T1 (Rat.le_of_lt hU)
  have T2 : T ≤ M + 75 / 10 * (U * T) := by grind
  have u3 : U * T ≤ U * (M + 75 / 10 * (U * T)) := Rat.mul_le_mul_of_nonneg_left T2 (Rat.le_of_lt hU)
  have u4 : U * (U * T) ≤ U * (1 / 1000 * T) := Rat.mul_le_mul_of_nonneg_left u1 (Rat.le_of_lt hU)
  have u5 : U * (1 / 1000 * T) ≤ 1 / 1000 * (U * (101 / 100 * M)) := by grind
  constructor
  · refine Rat.not_lt.mp fun h => ?_
    have k := Rat.mul_pos (show 0 < S - 1 - 76 / 10 * U by grind) nn
    grind
  · refine Rat.not_lt.mp fun h => ?_
    have k := Rat.mul_pos (show 0 < 1 - S - 76 / 10 * U by grind) nn
    grind
/-- A part against the size. -/
theorem part_lim {x n T : Rat} (n0 : 0 < n) (hT : x * x ≤ T) (hn : T ≤ 2 * (n * n)) : ab x ≤ two 800 * n := by
  have a0 := (ab_le x).2.2
  have k : ab x * ab x ≤ 2 * n * (2 * n) := by
    rw [ab_sq]
    have := Rat.mul_pos n0 n0
    grind
  have k2 := (abs_le_of_sq (x := ab x) (m := 2 * n) (by grind) k).1
  have k3 := Rat.mul_le_mul_of_nonneg_right (show (2 : Rat) ≤ two 800 by decide +kernel) (Rat.le_of_lt n0)
  grind
theorem div_sq {x n : Rat} (n0 : 0 < n) : x / n * (x / n) * (n * n) = x * x := by
  have e : x / n * n = x := Rat.div_mul_cancel (by grind)
  have : x / n * (x / n) * (n * n) = (x / n * n) * (x / n * n) := by grind
  rw [this, e]
theorem part_all {x n : Nat} {S : Rat} (fx : Fn x) (fn : Fn n) (n0 : 0 < V n) (hb : ab (V x) ≤ two 800 * V n) (hS : V x / V n * (V x / V n) ≤ S) (S1 : S ≤ 2) :
    ∃ r, Fl.fdiv (some x) (some n) = some r ∧ Fn r ∧ Nr (V r * V r) (V x / V n * (V x / V n)) (33 / 10 * U * (V x / V n * (V x / V n)) + U * U) := by
  obtain ⟨r, hr, fr, nr⟩ := part_of fx fn n0 hb
  have h2 : ab (V x / V n) ≤ 2 := (abs_le_of_sq (x := ab (V x / V n)) (m := 2) (by decide) (by rw [ab_sq]; grind)).1
  exact ⟨r, hr, fr, part_sq rfl h2 nr⟩
theorem unit_rot {w x y z n : Nat} (fw : Fn w) (fx : Fn x) (fy : Fn y) (fz : Fn z) (mw : Md (V w)) (mx : Md (V x)) (my : Md (V y)) (mz : Md (V z))
    (hn : Fl.fsqrt (Fl.fadd (Fl.fadd (Fl.fadd (Fl.fmul (some w) (some w)) (Fl.fmul (some x) (some x))) (Fl.fmul (some y) (some y))) (Fl.fmul (some z) (some z))) = some n) (hz : V n ≠ 0) :
    ∃ a b c d, Fl.fdiv (some w) (some n) = some a ∧ Fl.fdiv (some x) (some n) = some b ∧ Fl.fdiv (some y) (some n) = some c ∧ Fl.fdiv (some z) (some n) = some d ∧ RotOk a b c d := by
  obtain ⟨n', hn', fn, n0', hsq⟩ := len4_err fw fx fy fz mw mx my mz
  have e : n' = n := Option.some.inj (hn'.symm.trans hn)
  subst e
  have n0 : 0 < V n' := by
    rcases Rat.le_iff_lt_or_eq.mp n0' with h | h
    · exact h
    · exact absurd h.symm hz
  have hU := U_pos
  have hU1 : U ≤ 1 / 1000000 := by decide +kernel
  have ww := sq_nonneg (V w)
  have xx := sq_nonneg (V x)
  have yy := sq_nonneg (V y)
  have zz := sq_nonneg (V z)
  have T0 : 0 ≤ V w * V w + V x * V x + V y * V y + V z * V z := by grind
  have T2 : V w * V w + V x * V x + V y * V y + V z * V z ≤ 2 * (V n' * V n') := by
    obtain ⟨h1, h2⟩ := hsq
    have := Rat.mul_le_mul_of_nonneg_right hU1 T0
    grind
  have d1 := div_sq (x := V w) n0
  have d2 := div_sq (x := V x) n0
  have d3 := div_sq (x := V y) n0
  have d4 := div_sq (x := V z) n0
  have q1 := sq_nonneg (V w / V n')
  have q2 := sq_nonneg (V x / V n')
  have q3 := sq_nonneg (V y / V n')
  have q4 := sq_nonneg (V z / V n')
  obtain ⟨S, hS⟩ : ∃ S, V w / V n' * (V w / V n') + V x / V n' * (V x / V n') + V y / V n' * (V y / V n') + V z / V n' * (V z / V n') = S := ⟨_, rfl⟩
  obtain ⟨s1, s2⟩ := unit_sum4 (S := S) n0 hsq T0 (by rw [← hS]; grind)
  have S2 : S ≤ 2 := by grind
  obtain ⟨a, ha, fa, a1, a2⟩ := part_all fw fn n0 (part_lim n0 (T := V w * V w + V x * V x + V y * V y + V z * V z) (by grind) T2) (S := S) (by grind) S2
  obtain ⟨b, hb, fb, b1, b2⟩ := part_all fx fn n0 (part_lim n0 (T := V w * V w + V x * V x + V y * V y + V z * V z) (by grind) T2) (S := S) (by grind) S2
  obtain ⟨c, hc, fc, c1, c2⟩ := part_all fy fn n0 (part_lim n0 (T := V w * V w + V x * V x + V y * V y + V z * V z) (by grind) T2) (S := S) (by grind) S2
  obtain ⟨d, hd, fd, e1, e2⟩ := part_all fz fn n0 (part_lim n0 (T := V w * V w + V x * V x + V y * V y + V z * V z) (by grind) T2) (S := S) (by grind) S2
  refine ⟨a, b, c, d, ha, hb, hc, hd, rot_of_n fa fb fc fd ?_⟩
  clear ha hb hc hd d1 d2 d3 d4
  unfold nrmQ
  have UU : U * U ≤ 1 / 1000000 * U := Rat.mul_le_mul_of_nonneg_right hU1 (Rat.le_of_lt hU)
  have US := Rat.mul_le_mul_of_nonneg_left S2 (Rat.le_of_lt hU)
  generalize V w / V n' * (V w / V n') = A at *
  generalize V x / V n' * (V x / V n') = B at *
  generalize V y / V n' * (V y / V n') = C at *
  generalize V z / V n' * (V z / V n') = D at *
  have eS : U * S = U * A + U * B + U * C + U * D := by rw [← hS]; grind
  exact ⟨by grind, by grind⟩
/-- A product's square. -/
theorem times_sq {s u : Nat} (fs : Fn s) (fu : Fn u) (h1 : V s * V s ≤ 2) (h2 : V u * V u ≤ 2) :
    ∃ r, Fl.fmul (some s) (some u) = some r ∧ Fn r ∧ Nr (V r * V r) (V s * V s * (V u * V u)) (21 / 10 * U * (V s * V s * (V u * V u)) + U * U) := by
  have hU := U_pos
  have hU1 : U ≤ 1 / 1000000 := by decide +kernel
  obtain ⟨s1, s2⟩ := abs_le_of_sq (x := V s) (m := 2) (by decide) (by grind)
  obtain ⟨u1, u2⟩ := abs_le_of_sq (x := V u) (m := 2) (by decide) (by grind)
  obtain ⟨m1, m2⟩ := mul_size s1 s2 u1 u2
  have k9 : (1000 : Rat) ≤ two 900 := by decide +kernel
  obtain ⟨r, hr, fr, _, nr⟩ := mul_err fs fu (by grind) (by grind)
  obtain ⟨a1, a2, a0⟩ := ab_le (V s * V u)
  obtain ⟨n1, n2⟩ := nr (ab (V s * V u)) a1 (by grind)
  refine ⟨r, hr, fr, ?_⟩
  have eP : V s * V s * (V u * V u) = V s * V u * (V s * V u) := by grind
  rw [eP]
  clear nr hr eP
  generalize V s * V u = P at *
  have aa := ab_sq P
  have ha : ab P ≤ 4 := (abs_le_of_sq (x := ab P) (m := 4) (by decide) (by rw [ab_sq]; exact Rat.le_trans (mul_size m1 m2 m1 m2).1 (by decide +kernel))).1
  obtain ⟨p, hp⟩ : ∃ p, V r - P = p := ⟨_, rfl⟩
  have er : V r = P + p := by grind
  have η0 := two_pos (-1075)
  have hη : two (-1075) ≤ 1 / 1000 * (U * U) := by decide +kernel
  generalize two (-1075) = η at *
  obtain ⟨x1, x2⟩ := mul_size (a := P) (b := p) (A := ab P) (B := U * ab P + η) a1 (by grind) (by grind) (by grind)
  obtain ⟨y1, y2⟩ := mul_size (a := p) (b := p) (A := U * ab P + η) (B := U * ab P + η) (by grind) (by grind) (by grind) (by grind)
  have k1 : ab P * η ≤ 4 * η := Rat.mul_le_mul_of_nonneg_right ha (Rat.le_of_lt η0)
  have PP := Rat.mul_nonneg a0 a0
  have k2 : U * (U * (ab P * ab P)) ≤ U * (1 / 1000000 * (ab P * ab P)) := Rat.mul_le_mul_of_nonneg_left (Rat.mul_le_mul_of_nonneg_right hU1 PP) (Rat.le_of_lt hU)
  have k3 : U * (ab P * η) ≤ 1 / 1000000 * (ab P * η) := Rat.mul_le_mul_of_nonneg_right hU1 (Rat.mul_nonneg a0 (Rat.le_of_lt η0))
  have k4 : η * η ≤ η * 1 := Rat.mul_le_mul_of_nonneg_left (by
    have : U * U ≤ 1 := by decide +kernel
    grind) (Rat.le_of_lt η0)
  have k5 := Rat.mul_nonneg (Rat.le_of_lt hU) PP
  have e2 : ab P * (U * ab P + η) = U * (ab P * ab P) + ab P * η := by grind
  have e3 : (U * ab P + η) * (U * ab P + η) = U * (U * (ab P * ab P)) + 2 * (U * (ab P * η)) + η * η := by grind
  rw [e2] at x1 x2
  rw [e3] at y1 y2
  rw [er]
  have e4 : U * (P * P) = U * (ab P * ab P) := by rw [aa]
  have e5 : (P + p) * (P + p) - P * P = 2 * (P * p) + p * p := by grind
  exact ⟨by grind, by grind⟩
theorem sq_gap {c C : Rat} (h : Nr c C (34 / 100000000000000000)) (h1 : C ≤ ab C) (h2 : -ab C ≤ C) : Nr (c * c) (C * C) (68 / 100000000000000000 * ab C + 1 / 1000 * U) := by
  obtain ⟨n1, n2⟩ := h
  obtain ⟨p, hp⟩ : ∃ p, c - C = p := ⟨_, rfl⟩
  obtain ⟨m1, m2⟩ := mul_size (a := C) (b := p) (A := ab C) (B := 34 / 100000000000000000) h1 h2 (by grind) (by grind)
  obtain ⟨m3, m4⟩ := mul_size (a := p) (b := p) (A := 34 / 100000000000000000) (B := 34 / 100000000000000000) (by grind) (by grind) (by grind) (by grind)
  have k : (34 / 100000000000000000 * (34 / 100000000000000000) : Rat) ≤ 1 / 1000 * U := by decide +kernel
  have e : c = C + p := by grind
  rw [e]
  exact ⟨by grind, by grind⟩
theorem about_rot {k : Int} {x y z n : Nat} (fx : Fn x) (fy : Fn y) (fz : Fn z) (mx : Md (V x)) (my : Md (V y)) (mz : Md (V z))
    (hn : Fl.fsqrt (Fl.fadd (Fl.fadd (Fl.fmul (some x) (some x)) (Fl.fmul (some y) (some y))) (Fl.fmul (some z) (some z))) = some n) (hz : V n ≠ 0) :
    ∃ a b c d, Tr.cosA k = some a ∧ Fl.fmul (Tr.sinA k) (Fl.fdiv (some x) (some n)) = some b ∧ Fl.fmul (Tr.sinA k) (Fl.fdiv (some y) (some n)) = some c ∧ Fl.fmul (Tr.sinA k) (Fl.fdiv (some z) (some n)) = some d ∧ RotOk a b c d := by
  obtain ⟨n', hn', fn, n0', hsq⟩ := len_err fx fy fz mx my mz
  have e : n' = n := Option.some.inj (hn'.symm.trans hn)
  subst e
  have n0 : 0 < V n' := by
    rcases Rat.le_iff_lt_or_eq.mp n0' with h | h
    · exact h
    · exact absurd h.symm hz
  have hU := U_pos
  have hU1 : U ≤ 1 / 1000000 := by decide +kernel
  have xx := sq_nonneg (V x)
  have yy := sq_nonneg (V y)
  have zz := sq_nonneg (V z)
  have T0 : 0 ≤ V x * V x + V y * V y + V z * V z := by grind
  have T2 : V x * V x + V y * V y + V z * V z ≤ 2 * (V n' * V n') := by
    obtain ⟨h1, h2⟩ := hsq
    have := Rat.mul_le_mul_of_nonneg_right hU1 T0
    grind
  have d2 := div_sq (x := V x) n0
  have d3 := div_sq (x := V y) n0
  have d4 := div_sq (x := V z) n0
  have q2 := sq_nonneg (V x / V n')
  have q3 := sq_nonneg (V y / V n')
  have q4 := sq_nonneg (V z / V n')
  obtain ⟨S, hS⟩ : ∃ S, V x / V n' * (V x / V n') + V y / V n' * (V y / V n') + V z / V n' * (V z / V n') = S := ⟨_, rfl⟩
  obtain ⟨s1, s2⟩ := unit_sum (S := S) n0 hsq T0 (by rw [← hS]; grind)
  have S2 : S ≤ 101 / 100 := by grind
  obtain ⟨b, hb, fb, b1, b2⟩ := part_all fx fn n0 (part_lim n0 (T := V x * V x + V y * V y + V z * V z) (by grind) T2) (S := S) (by grind) (by grind)
  obtain ⟨c, hc, fc, c1, c2⟩ := part_all fy fn n0 (part_lim n0 (T := V x * V x + V y * V y + V z * V z) (by grind) T2) (S := S) (by grind) (by grind)
  obtain ⟨d, hd, fd, e1, e2⟩ := part_all fz fn n0 (part_lim n0 (T := V x * V x + V y * V y + V z * V z) (by grind) T2) (S := S) (by grind) (by grind)
  have UU : U * U ≤ 1 / 1000000 * U := Rat.mul_le_mul_of_nonneg_right hU1 (Rat.le_of_lt hU)
  have US := Rat.mul_le_mul_of_nonneg_left S2 (Rat.le_of_lt hU)
  -- the axis' unit, as it is worked out
  obtain ⟨Q, hQ⟩ : ∃ Q, V b * V b + V c * V c + V d * V d = Q := ⟨_, rfl⟩
  have b0 := sq_nonneg (V b)
  have c0 := sq_nonneg (V c)
  have d0 := sq_nonneg (V d)
  have hQ1 : Nr Q 1 (98 / 10 * U) := by
    clear d2 d3 d4 T2 hsq hn hn'
    generalize V x / V n' * (V x / V n') = B at *
    generalize V y / V n' * (V y / V n') = C at *
    generalize V z / V n' * (V z / V n') = D at *
    have eS : U * S = U * B + U * C + U * D := by rw [← hS]; grind
    exact ⟨by grind, by grind⟩
  obtain ⟨Q1, Q2⟩ := hQ1
  -- the angle's parts
  obtain ⟨_, _, _, cw, hc1, fcw, ncw⟩ := cos_tight k
  obtain ⟨_, _, _, sw, hs1, fsw, nsw⟩ := sin_tight k
  obtain ⟨o1, o2⟩ := sinR_unit k
  have CC := sq_nonneg (cosR k)
  have SS := sq_nonneg (sinR k)
  obtain ⟨gc1, gc2⟩ := sq_gap ncw (ab_le _).1 (by have := (ab_le (cosR k)).2.1; grind)
  obtain ⟨gs1, gs2⟩ := sq_gap nsw (ab_le _).1 (by have := (ab_le (sinR k)).2.1; grind)
  have aC := (ab_le (cosR k)).2.2
  have aS := (ab_le (sinR k)).2.2
  have qC := ab_sq (cosR k)
  have qS := ab_sq (sinR k)
  have dif := sq_nonneg (ab (cosR k) - ab (sinR k))
  have k1 : (2 / 10000000000000000 : Rat) ≤ 19 / 10 * U := by decide +kernel
  have k2 : (68 / 100000000000000000 : Rat) ≤ 613 / 100 * U := by decide +kernel
  have sm := (abs_le_of_sq (x := ab (cosR k) + ab (sinR k)) (m := 1415 / 1000) (by decide +kernel) (by grind)).1
  have g3 := mul_le_both (a := 68 / 100000000000000000) (b := ab (cosR k) + ab (sinR k)) (by decide +kernel) (by grind) k2 sm
  have aS1 := (abs_le_of_sq (x := ab (sinR k)) (m := 101 / 100) (by decide +kernel) (by grind)).1
  have g4 := mul_le_both (a := 68 / 100000000000000000) (b := ab (sinR k)) (by decide +kernel) aS k2 aS1
  have w0 := sq_nonneg (V sw)
  have sw1 : V sw * V sw ≤ 1 + 10 * U := by grind
  obtain ⟨p, hp, fp, p1, p2⟩ := times_sq fsw fb (by grind) (by grind)
  obtain ⟨q, hq, fq, q1', q2'⟩ := times_sq fsw fc (by grind) (by grind)
  obtain ⟨r, hr, fr, r1, r2⟩ := times_sq fsw fd (by grind) (by grind)
  refine ⟨cw, p, q, r, hc1, by rw [hs1, hb]; exact hp, by rw [hs1, hc]; exact hq, by rw [hs1, hd]; exact hr, rot_of_n fcw fp fq fr ?_⟩
  clear hb hc hd d2 d3 d4 hp hq hr hc1 hs1 q2 q3 q4 b1 b2 c1 c2 e1 e2 hsq T2 T0 hn hn' s1 s2 hS S2 US xx yy zz
  unfold nrmQ
  obtain ⟨W, hW⟩ : ∃ W, V sw * V sw = W := ⟨_, rfl⟩
  rw [hW] at p1 p2 q1' q2' r1 r2 gs1 gs2 sw1 w0
  obtain ⟨m1, m2⟩ := mul_size (a := W) (b := Q - 1) (A := 1001 / 1000) (B := 98 / 10 * U) (by grind) (by grind) Q1 (by grind)
  obtain ⟨m3, m4⟩ := mul_size (a := W) (b := Q) (A := 1001 / 1000) (B := 1001 / 1000) (by grind) (by grind) (by grind) (by grind)
  have eWQ : W * Q = W * (V b * V b) + W * (V c * V c) + W * (V d * V d) := by rw [← hQ]; grind
  have UWQ := Rat.mul_le_mul_of_nonneg_left m3 (Rat.le_of_lt hU)
  have eU : U * (W * Q) = U * (W * (V b * V b)) + U * (W * (V c * V c)) + U * (W * (V d * V d)) := by rw [eWQ]; grind
  have sum1 : V p * V p + V q * V q + V r * V r - W ≤ 120 / 10 * U := by grind
  have sum2 : W - (V p * V p + V q * V q + V r * V r) ≤ 120 / 10 * U := by grind
  clear p1 p2 q1' q2' r1 r2 eWQ eU UWQ m1 m2 m3 m4
  exact ⟨by grind, by grind⟩
end Go.Fe
