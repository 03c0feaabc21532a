/- Quotients of floats: the error. Nothing of a program stands here. -/
import Derived.Test.YtaakbajhbmbhcaaDoorFe16
import Derived.Test.YtaakbajhbmbhcaaDoorFe20
set_option linter.unusedSimpArgs false
set_option linter.unusedVariables false
namespace Go.Fe
open Ieee

/-! Quotients. -/
/-- The whole numbers of a quotient: twice the quotient, with the digit for what is left. -/
theorem quot_near {D n : Nat} (hn : 0 < n) (hD : 2 ^ 53 * n ≤ D) :
    ∃ d, (D % n != 0).toNat = d ∧ (2 * (D / n) + d) * n ≤ 2 * D + n ∧ 2 * D ≤ (2 * (D / n) + d) * n + n ∧ d ≤ 1 := by
  have h1 := Nat.div_add_mod D n
  have h2 := Nat.mod_lt D hn
  have e : ∀ d, (2 * (D / n) + d) * n = 2 * (n * (D / n)) + d * n := fun d => by rw [Nat.add_mul, Nat.mul_assoc, Nat.mul_comm (D / n) n]
  by_cases h : D % n = 0
  · refine ⟨0, by simp [h], ?_, ?_, by omega⟩
    · rw [e]; omega
    · rw [e]; omega
  · refine ⟨1, by simp [h], ?_, ?_, by omega⟩
    · rw [e]; omega
    · rw [e]; omega
theorem div_err {x y : Nat} (hx : Fn x) (hy : Fn y) (h0 : V y ≠ 0) (h1 : ab (V x) ≤ two 800 * ab (V y)) :
    ∃ r, double.div x y = some r ∧ Fn r ∧ Nr (V r * V y) (V x) (16 / 10 * U * ab (V x) + two (-1075) * ab (V y)) := by
  obtain ⟨s, m, i, e1, hi⟩ := hx
  obtain ⟨t, n, j, e2, hj⟩ := hy
  have hU := U_pos
  have hvx : V x = sg s * ((m : Rat) * two i) := by unfold V; rw [e1]; unfold Vd; grind
  have hvy : V y = sg t * ((n : Rat) * two j) := by unfold V; rw [e2]; unfold Vd; grind
  have hn : 0 < n := by
    rcases Nat.eq_zero_or_pos n with h | h
    · subst h
      exfalso
      apply h0
      rw [hvy]
      have c0 : ((0 : Nat) : Rat) = 0 := rfl
      rw [c0]
      grind
    · exact h
  have X0 : 0 ≤ (m : Rat) * two i := Rat.mul_nonneg (nat_nonneg _) (Rat.le_of_lt (two_pos _))
  have Y0 : 0 < (n : Rat) * two j := by
    have h2 := Rat.mul_le_mul_of_nonneg_right (show (1 : Rat) ≤ (n : Rat) from rat_le hn) (Rat.le_of_lt (two_pos j))
    have := two_pos j
    grind
  have aX : ab (V x) = (m : Rat) * two i := by
    rw [hvx]; unfold ab
    rcases sg_cases s with h | h <;> rw [h] <;> split <;> grind
  have aY : ab (V y) = (n : Rat) * two j := by
    rw [hvy]; unfold ab
    rcases sg_cases t with h | h <;> rw [h] <;> split <;> grind
  rw [aX, aY] at h1 ⊢
  have e52 : double.fractionBits + 2 = 54 := by decide
  obtain ⟨more, hmore⟩ : ∃ more, 54 + n.log2 - m.log2 = more := ⟨_, rfl⟩
  obtain ⟨D, hDd⟩ : ∃ D, m * 2 ^ more = D := ⟨_, rfl⟩
  obtain ⟨q, hq⟩ : ∃ q, 2 * (D / n) + (D % n != 0).toNat = q := ⟨_, rfl⟩
  obtain ⟨pl, hpl⟩ : ∃ pl : Int, i - j - (more : Int) - 1 = pl := ⟨_, rfl⟩
  have hdiv : double.div x y = some (double.nearest (s ^^ t) q pl) := by
    unfold Format.div
    rw [e1, e2, e52]
    unfold Datum.quotient
    simp only
    rw [if_neg (by omega), hmore, Nat.shiftLeft_eq, hDd, hq, hpl]
    rfl
  -- the whole numbers
  have key : (q : Rat) * (n : Rat) - 2 * (D : Rat) ≤ U * (D : Rat) ∧ 2 * (D : Rat) - (q : Rat) * (n : Rat) ≤ U * (D : Rat) := by
    rcases Nat.eq_zero_or_pos m with hm | hm
    · have hD0 : D = 0 := by rw [← hDd, hm, Nat.zero_mul]
      have hq0 : q = 0 := by rw [← hq, hD0]; simp
      rw [hD0, hq0]
      have c0 : ((0 : Nat) : Rat) = 0 := rfl
      rw [c0]
      exact ⟨by grind, by grind⟩
    · have hDn : 2 ^ 53 * n ≤ D := by
        have k1 : 2 ^ m.log2 * 2 ^ more ≤ m * 2 ^ more := Nat.mul_le_mul_right _ (Nat.log2_self_le (by omega))
        rw [← Nat.pow_add, hDd] at k1
        have k2 : 2 ^ (53 + (n.log2 + 1)) ≤ D := Nat.le_trans (Nat.pow_le_pow_right (by decide) (by omega)) k1
        rw [Nat.pow_add] at k2
        have k3 : n < 2 ^ (n.log2 + 1) := Nat.lt_log2_self
        exact Nat.le_trans (Nat.mul_le_mul_left _ (Nat.le_of_lt k3)) k2
      obtain ⟨d, hd, d1, d2, _⟩ := quot_near hn hDn
      rw [hd] at hq
      rw [hq] at d1 d2
      have r1 := rat_le d1
      have r2 := rat_le d2
      have r3 := Rat.mul_le_mul_of_nonneg_left (rat_le hDn) (Rat.le_of_lt hU)
      have hU2 : U * ((2 ^ 53 : Nat) : Rat) = 1 := by decide +kernel
      rw [Rat.natCast_mul] at r3
      rw [Rat.natCast_add, Rat.natCast_mul, Rat.natCast_mul] at r1
      rw [Rat.natCast_add, Rat.natCast_mul, Rat.natCast_mul] at r2
      have c2 : ((2 : Nat) : Rat) = 2 := rfl
      rw [c2] at r1 r2
      have r4 : U * (((2 ^ 53 : Nat) : Rat) * (n : Rat)) = n := by rw [← Rat.mul_assoc, hU2, Rat.one_mul]
      rw [r4] at r3
      exact ⟨by grind, by grind⟩
  -- with the places
  obtain ⟨v, hv⟩ : ∃ v, (q : Rat) * two pl = v := ⟨_, rfl⟩
  have hv0 : 0 ≤ v := by rw [← hv]; exact Rat.mul_nonneg (nat_nonneg _) (Rat.le_of_lt (two_pos _))
  have hT := two_pos (pl + j)
  have ex : (m : Rat) * two i = 2 * (D : Rat) * two (pl + j) := by
    have k : (D : Rat) = (m : Rat) * ((2 ^ more : Nat) : Rat) := by rw [← hDd, Rat.natCast_mul]
    have k2 : ((2 ^ more : Nat) : Rat) * (two 1 * two (pl + j)) = two i := by rw [← two_add, two_nat_mul, show 1 + (pl + j) + (more : Int) = i by omega]
    rw [two_one] at k2
    rw [k, ← k2]
    grind
  have ev : v * ((n : Rat) * two j) = (q : Rat) * (n : Rat) * two (pl + j) := by rw [← hv, two_add]; grind
  have k1 := Rat.mul_le_mul_of_nonneg_right key.1 (Rat.le_of_lt hT)
  have k2 := Rat.mul_le_mul_of_nonneg_right key.2 (Rat.le_of_lt hT)
  obtain ⟨Xv, hXv⟩ : ∃ Xv, (m : Rat) * two i = Xv := ⟨_, rfl⟩
  obtain ⟨Yv, hYv⟩ : ∃ Yv, (n : Rat) * two j = Yv := ⟨_, rfl⟩
  rw [hXv] at ex hvx X0 h1 ⊢
  rw [hYv] at ev hvy Y0 h1 ⊢
  have f1 : 2 * (v * Yv - Xv) ≤ U * Xv := by rw [ev, ex]; grind
  have f2 : 2 * (Xv - v * Yv) ≤ U * Xv := by rw [ev, ex]; grind
  clear k1 k2 ev ex key hXv hYv
  have hU1 : U ≤ 1 / 1000 := by decide +kernel
  have UX := Rat.mul_le_mul_of_nonneg_right hU1 X0
  have hvb : v ≤ two 900 := by
    refine Rat.not_lt.mp fun h => ?_
    have g1 := Rat.mul_le_mul_of_nonneg_right (Rat.le_of_lt h) (Rat.le_of_lt Y0)
    have g2 : (2 : Rat) * two 800 ≤ two 900 := by decide +kernel
    have g3 := Rat.mul_le_mul_of_nonneg_right g2 (Rat.le_of_lt Y0)
    have g4 : 0 < two 800 * Yv := Rat.mul_pos (two_pos _) Y0
    grind
  obtain ⟨rf, rn, _, _⟩ := nearest_err (s ^^ t) q pl (by rw [hv]; exact hvb)
  rw [hv] at rn
  obtain ⟨n1, n2⟩ := rn
  refine ⟨_, hdiv, rf, ?_⟩
  generalize V (double.nearest (s ^^ t) q pl) = r at n1 n2 ⊢
  have m1 := Rat.mul_le_mul_of_nonneg_right n1 (Rat.le_of_lt Y0)
  have m2 := Rat.mul_le_mul_of_nonneg_right n2 (Rat.le_of_lt Y0)
  have uv1 : U * (v * Yv) ≤ U * (Xv + U * Xv) := Rat.mul_le_mul_of_nonneg_left (by have := Rat.mul_nonneg (Rat.le_of_lt hU) X0; grind) (Rat.le_of_lt hU)
  have uu : U * (U * Xv) ≤ U * (1 / 1000 * Xv) := Rat.mul_le_mul_of_nonneg_left UX (Rat.le_of_lt hU)
  have ux0 := Rat.mul_nonneg (Rat.le_of_lt hU) X0
  rw [hvx, hvy]
  generalize two (-1075) = η at *
  rw [sg_xor] at m1 m2
  rcases sg_cases s with hs | hs <;> rcases sg_cases t with ht | ht <;> rw [hs, ht] at m1 m2 <;> rw [hs, ht] <;> exact ⟨by grind, by grind⟩
end Go.Fe
/- A float by a size. Nothing of a program stands here. -/
set_option linter.unusedSimpArgs false
set_option linter.unusedVariables false
namespace Go.Fe
open Ieee

/-! A part of a unit: a float by a size. -/
/-- The square of what is near. -/
theorem part_sq {r u a : Rat} (ha : a = ab u) (hu : a ≤ 2) (h : Nr r u (16 / 10 * U * a + two (-1075))) : Nr (r * r) (u * u) (33 / 10 * U * (u * u) + U * U) := by
  obtain ⟨h1, h2⟩ := h
  have a0 : 0 ≤ a := by rw [ha]; exact (ab_le u).2.2
  have au : a * a = u * u := by rw [ha]; exact ab_sq u
  obtain ⟨u1, u2, _⟩ := ab_le u
  rw [← ha] at u1 u2
  obtain ⟨p, hp⟩ : ∃ p, r - u = p := ⟨_, rfl⟩
  have er : r = u + p := by grind
  have hη : two (-1075) ≤ 1 / 100 * (U * U) := by decide +kernel
  have η0 := two_pos (-1075)
  have hU := U_pos
  have hUs : U ≤ 1 / 1000 := by decide +kernel
  generalize two (-1075) = η at *
  have e : r * r - u * u = 2 * (u * p) + p * p := by rw [er]; grind
  obtain ⟨m1, m2⟩ := mul_size (a := u) (b := p) (A := a) (B := 16 / 10 * U * a + η) u1 (by grind) (by grind) (by grind)
  obtain ⟨n1, n2⟩ := mul_size (a := p) (b := p) (A := 16 / 10 * U * a + η) (B := 16 / 10 * U * a + η) (by grind) (by grind) (by grind) (by grind)
  have k1 : a * η ≤ 2 * η := Rat.mul_le_mul_of_nonneg_right hu (Rat.le_of_lt η0)
  have k2 : U * (U * (a * a)) ≤ U * (1 / 1000 * (a * a)) := Rat.mul_le_mul_of_nonneg_left (Rat.mul_le_mul_of_nonneg_right hUs (Rat.mul_nonneg a0 a0)) (Rat.le_of_lt hU)
  have k3 : U * (a * η) ≤ 1 / 1000 * (a * η) := Rat.mul_le_mul_of_nonneg_right hUs (Rat.mul_nonneg a0 (Rat.le_of_lt η0))
  have k4 : η * η ≤ η * 1 := Rat.mul_le_mul_of_nonneg_left (by
    have : U * U ≤ 1 := by decide +kernel
    grind) (Rat.le_of_lt η0)
  have k5 := Rat.mul_nonneg (Rat.le_of_lt hU) (Rat.mul_nonneg a0 a0)
  have e2 : a * (16 / 10 * U * a + η) = 16 / 10 * (U * (a * a)) + a * η := by grind
  have e3 : (16 / 10 * U * a + η) * (16 / 10 * U * a + η) = 256 / 100 * (U * (U * (a * a))) + 32 / 10 * (U * (a * η)) + η * η := by grind
  rw [e2] at m1 m2
  rw [e3] at n1 n2
  have e4 : U * (u * u) = U * (a * a) := by rw [au]
  exact ⟨by grind, by grind⟩
/-- The quotient by a size. -/
theorem part_of {x n : Nat} (fx : Fn x) (fn : Fn n) (n0 : 0 < V n) (hb : ab (V x) ≤ two 800 * V n) :
    ∃ r, Fl.fdiv (some x) (some n) = some r ∧ Fn r ∧ Nr (V r) (V x / V n) (16 / 10 * U * ab (V x / V n) + two (-1075)) := by
  have an : ab (V n) = V n := by unfold ab; rw [if_pos (Rat.le_of_lt n0)]
  obtain ⟨r, hr, fr, h1, h2⟩ := div_err fx fn (by grind) (by rw [an]; exact hb)
  rw [an] at h1 h2
  obtain ⟨u, hu⟩ : ∃ u, V x / V n = u := ⟨_, rfl⟩
  have hx : V x = u * V n := by rw [← hu]; exact (Rat.div_mul_cancel (by grind)).symm
  refine ⟨r, hr, fr, ?_⟩
  rw [hu]
  have hab : ab (V x) = ab u * V n := by
    rw [hx]
    unfold ab
    by_cases h : 0 ≤ u
    · rw [if_pos h, if_pos (Rat.mul_nonneg h (Rat.le_of_lt n0))]
    · have k : 0 < -u * V n := Rat.mul_pos (by grind) n0
      rw [if_neg h, if_neg (by grind)]
      grind
  rw [hab, hx] at h1 h2
  generalize V n = N at *
  constructor
  · refine Rat.not_lt.mp fun h => ?_
    have k := Rat.mul_pos (show 0 < V r - u - (16 / 10 * U * ab u + two (-1075)) by grind) n0
    grind
  · refine Rat.not_lt.mp fun h => ?_
    have k := Rat.mul_pos (show 0 < u - V r - (16 / 10 * U * ab u + two (-1075)) by grind) n0
    grind
end Go.Fe
