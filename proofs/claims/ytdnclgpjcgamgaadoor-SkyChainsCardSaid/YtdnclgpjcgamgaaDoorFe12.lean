/- Unit circle; square roots: near. Nothing of a program stands here. -/
import Derived.Test.YtdnclgpjcgamgaaDoorFe10
set_option linter.unusedSimpArgs false
set_option linter.unusedVariables false
namespace Go.Fe
open Ieee

/-! Polynomials by their coefficients. -/
def ev : List Rat → Rat → Rat
  | [], _ => 0
  | c :: l, z => c + z * ev l z
def padd : List Rat → List Rat → List Rat
  | [], b => b
  | a, [] => a
  | x :: a, y :: b => (x + y) :: padd a b
def pscale (c : Rat) (l : List Rat) : List Rat := l.map (c * ·)
def pmul : List Rat → List Rat → List Rat
  | [], _ => []
  | x :: a, b => padd (pscale x b) (0 :: pmul a b)
theorem ev_padd (z : Rat) : ∀ a b : List Rat, ev (padd a b) z = ev a z + ev b z
  | [], b => by simp [padd, ev]; grind
  | x :: a, [] => by simp [padd, ev]; grind
  | x :: a, y :: b => by
    show (x + y) + z * ev (padd a b) z = (x + z * ev a z) + (y + z * ev b z)
    rw [ev_padd z a b]
    grind
theorem ev_pscale (c z : Rat) : ∀ l : List Rat, ev (pscale c l) z = c * ev l z
  | [] => by simp [pscale, ev]
  | x :: l => by
    show c * x + z * ev (pscale c l) z = c * (x + z * ev l z)
    rw [ev_pscale c z l]
    grind
theorem ev_pmul (z : Rat) : ∀ a b : List Rat, ev (pmul a b) z = ev a z * ev b z
  | [], b => by simp [pmul, ev]
  | x :: a, b => by
    show ev (padd (pscale x b) (0 :: pmul a b)) z = (x + z * ev a z) * ev b z
    rw [ev_padd, ev_pscale]
    show x * ev b z + (0 + z * ev (pmul a b) z) = _
    rw [ev_pmul z a b]
    grind
def ab (x : Rat) : Rat := if 0 ≤ x then x else -x
theorem ab_le (x : Rat) : x ≤ ab x ∧ -ab x ≤ x ∧ 0 ≤ ab x := by unfold ab; split <;> grind
def bdp : List Rat → Rat → Rat
  | [], _ => 0
  | c :: l, Z => ab c + Z * bdp l Z
theorem bdp_nonneg {Z : Rat} (hZ : 0 ≤ Z) : ∀ l : List Rat, 0 ≤ bdp l Z
  | [] => Rat.le_refl
  | c :: l => by
    have h := Rat.mul_nonneg hZ (bdp_nonneg hZ l)
    have h2 := (ab_le c).2.2
    show 0 ≤ ab c + Z * bdp l Z
    grind
theorem ev_bound {z Z : Rat} (h0 : 0 ≤ z) (h1 : z ≤ Z) : ∀ l : List Rat, ev l z ≤ bdp l Z ∧ -bdp l Z ≤ ev l z
  | [] => by simp [ev, bdp]
  | c :: l => by
    obtain ⟨i1, i2⟩ := ev_bound h0 h1 l
    obtain ⟨a1, a2, _⟩ := ab_le c
    have hb := bdp_nonneg (Rat.le_trans h0 h1) l
    obtain ⟨m1, m2⟩ := mul_size (a := z) (b := ev l z) (A := Z) (B := bdp l Z) h1 (by grind) i1 i2
    show c + z * ev l z ≤ ab c + Z * bdp l Z ∧ -(ab c + Z * bdp l Z) ≤ c + z * ev l z
    exact ⟨by grind, by grind⟩
theorem horR_ev (z : Rat) : ∀ l : List Nat, horR z l = ev (l.map V) z
  | [] => rfl
  | [c] => by show V c = V c + z * 0; grind
  | c :: d :: l => by
    show V c + z * horR z (d :: l) = V c + z * ev ((d :: l).map V) z
    rw [horR_ev z (d :: l)]
theorem serR_ev (cs : List Nat) (z : Rat) : serR cs z = ev (1 :: cs.map V) z := by
  unfold serR
  rw [horR_ev]
  rfl
def unitP : List Rat := padd (0 :: pmul (1 :: Tr.oddC.map V) (1 :: Tr.oddC.map V)) (padd (pmul (1 :: Tr.evenC.map V) (1 :: Tr.evenC.map V)) [-1])
theorem unit_ev (x : Rat) : snR x * snR x + csR x * csR x - 1 = ev unitP (x * x) := by
  unfold unitP
  rw [ev_padd, ev_padd, ev_pmul]
  show _ = (0 + x * x * ev (pmul _ _) (x * x)) + _
  rw [ev_pmul]
  unfold snR csR
  rw [serR_ev, serR_ev]
  show _ = _ + (_ + (-1 + x * x * 0))
  grind
theorem unit_size : bdp unitP (617 / 1000) ≤ 2 / 10000000000000000 := by decide +kernel
/-- The square of the sine and that of the cosine. -/
theorem unit_near {x : Rat} (h0 : -(7854 / 10000) ≤ x) (h1 : x ≤ 7854 / 10000) : Nr (snR x * snR x + csR x * csR x) 1 (2 / 10000000000000000) := by
  have hz : 0 ≤ x * x := by
    rcases Rat.le_total (a := 0) (b := x) with h | h
    · exact Rat.mul_nonneg h h
    · have := Rat.mul_nonneg (show 0 ≤ -x by grind) (show 0 ≤ -x by grind)
      grind
  have hz2 : x * x ≤ 617 / 1000 := by
    obtain ⟨s1, _⟩ := mul_size h1 h0 h1 h0
    have : (7854 / 10000 * (7854 / 10000) : Rat) ≤ 617 / 1000 := by decide +kernel
    grind
  obtain ⟨b1, b2⟩ := ev_bound hz hz2 unitP
  have hs := unit_size
  have he := unit_ev x
  exact ⟨by grind, by grind⟩
theorem sinR_unit (k : Int) : Nr (sinR k * sinR k + cosR k * cosR k) 1 (2 / 10000000000000000) := by
  obtain ⟨r1, r2⟩ := rst_in k
  have hr := Rat.le_of_lt rad_pos
  have hm : 162000000000 * rad ≤ 7854 / 10000 := by decide +kernel
  have p1 : (Tr.rst k : Rat) * rad ≤ 162000000000 * rad := Rat.mul_le_mul_of_nonneg_right (rat_int r2) hr
  have p2 : -162000000000 * rad ≤ (Tr.rst k : Rat) * rad := Rat.mul_le_mul_of_nonneg_right (rat_int r1) hr
  obtain ⟨u1, u2⟩ := unit_near (x := (Tr.rst k : Rat) * rad) (by grind) (by grind)
  unfold sinR cosR quadR
  split
  · exact ⟨by grind, by grind⟩
  · split
    · exact ⟨by grind, by grind⟩
    · split
      · exact ⟨by grind, by grind⟩
      · exact ⟨by grind, by grind⟩
/-! Square roots. -/
theorem rootFrom_spec (n : Nat) : ∀ (todo root : Nat), root * root ≤ n → n < (root + 2 ^ todo) * (root + 2 ^ todo) → Datum.rootFrom n todo root * Datum.rootFrom n todo root ≤ n ∧ n < (Datum.rootFrom n todo root + 1) * (Datum.rootFrom n todo root + 1)
  | 0, root, h1, h2 => ⟨h1, by show n < (root + 1) * (root + 1); simpa using h2⟩
  | todo + 1, root, h1, h2 => by
    unfold Datum.rootFrom
    simp only
    rw [Nat.shiftLeft_eq, Nat.one_mul]
    split
    · rename_i h
      exact rootFrom_spec n todo _ h (by rw [Nat.add_assoc, show 2 ^ todo + 2 ^ todo = 2 ^ (todo + 1) by rw [Nat.pow_succ]; omega]; exact h2)
    · rename_i h
      exact rootFrom_spec n todo _ h1 (by omega)
theorem root_start (n : Nat) : n < (0 + 2 ^ (n.log2 / 2 + 1)) * (0 + 2 ^ (n.log2 / 2 + 1)) := by
  rw [Nat.zero_add, ← Nat.pow_add]
  exact Nat.lt_of_lt_of_le Nat.lt_log2_self (Nat.pow_le_pow_right (by decide) (by omega))
/-- What a root is near: its square. -/
theorem sqrt_err3 {x : Nat} (hx : Fn x) (h0 : 0 ≤ V x) (hb : V x ≤ two 900) : ∃ r, double.sqrt x = some r ∧ Fn r ∧ 0 ≤ V r ∧ V x ≤ V r * V r * (1 + 31 / 10 * U) ∧ V r * V r ≤ V x * (1 + 31 / 10 * U) := by
  obtain ⟨s, m, i, hr, hi⟩ := hx
  have hU := U_pos
  unfold Format.sqrt
  rw [hr]
  have e52 : double.fractionBits + 2 = 54 := by decide
  rw [e52]
  have hv : V x = sg s * (m : Rat) * two i := by unfold V; rw [hr]; rfl
  unfold Datum.root
  simp only
  rcases Nat.eq_zero_or_pos m with hm | hm
  · subst hm
    rw [if_pos rfl]
    obtain ⟨r1, _, _, r4⟩ := nearest_err s 0 i (by
      have c0 : ((0 : Nat) : Rat) = 0 := rfl
      rw [c0, Rat.zero_mul]
      exact Rat.le_of_lt (two_pos _))
    have hz : V x = 0 := by
      rw [hv]
      have c0 : ((0 : Nat) : Rat) = 0 := rfl
      rw [c0]; grind
    refine ⟨_, rfl, r1, ?_, ?_, ?_⟩
    · show 0 ≤ V (double.nearest s 0 i); rw [r4 rfl]; exact Rat.le_refl
    · show V x ≤ V (double.nearest s 0 i) * V (double.nearest s 0 i) * _
      rw [r4 rfl, hz]; grind
    · show V (double.nearest s 0 i) * V (double.nearest s 0 i) ≤ _
      rw [r4 rfl, hz]; grind
  · rw [if_neg (by omega)]
    have hs : s = false := by
      cases s
      · rfl
      · exfalso
        rw [hv] at h0
        have h1 := Rat.mul_nonneg (nat_nonneg m) (Rat.le_of_lt (two_pos i))
        have h2 : (1 : Rat) * two i ≤ (m : Rat) * two i := Rat.mul_le_mul_of_nonneg_right (by exact rat_le hm) (Rat.le_of_lt (two_pos i))
        have h3 := two_pos i
        have h4 : sg true = -1 := rfl
        rw [h4] at h0
        grind
    subst hs
    rw [if_neg (by simp)]
    obtain ⟨m1, hm1⟩ : ∃ m1, 2 * 54 - m.log2 = m1 := ⟨_, rfl⟩
    rw [hm1]
    obtain ⟨more, hmore⟩ : ∃ more, m1 + ((i - (m1 : Int)) % 2).toNat = more := ⟨_, rfl⟩
    rw [hmore]
    obtain ⟨n, hn⟩ : ∃ n, m <<< more = n := ⟨_, rfl⟩
    rw [hn]
    rw [Nat.shiftLeft_eq] at hn
    obtain ⟨w1, w2⟩ := rootFrom_spec n (n.log2 / 2 + 1) 0 (Nat.zero_le _) (root_start n)
    obtain ⟨whole, hwhole⟩ : ∃ w, Datum.rootFrom n (n.log2 / 2 + 1) 0 = w := ⟨_, rfl⟩
    rw [hwhole] at w1 w2 ⊢
    clear hwhole
    obtain ⟨e, he⟩ : ∃ e : Int, i - (more : Int) = 2 * e := ⟨(i - (more : Int)) / 2, by omega⟩
    have hplace : (i - (more : Int)) / 2 - 1 = e - 1 := by omega
    rw [hplace]
    have hlow : 2 ^ 108 ≤ n := by
      have q1 : 2 ^ m.log2 * 2 ^ more ≤ m * 2 ^ more := Nat.mul_le_mul_right _ (Nat.log2_self_le (by omega))
      rw [← Nat.pow_add, hn] at q1
      exact Nat.le_trans (Nat.pow_le_pow_right (by decide) (by omega)) q1
    have hwh : 2 ^ 54 ≤ whole := by
      rcases Nat.lt_or_ge whole (2 ^ 54) with h | h
      · have h2 : (whole + 1) * (whole + 1) ≤ 2 ^ 54 * 2 ^ 54 := Nat.mul_le_mul h h
        rw [← Nat.pow_add] at h2
        exact absurd w2 (Nat.not_lt.2 (Nat.le_trans h2 hlow))
      · exact h
    obtain ⟨d, hd, hd2⟩ : ∃ d : Nat, (whole * whole != n).toNat = d ∧ ((d = 0 ∧ whole * whole = n) ∨ (d = 1 ∧ whole * whole < n)) := by
      by_cases h : whole * whole = n
      · exact ⟨0, by simp [h], .inl ⟨rfl, h⟩⟩
      · exact ⟨1, by simp [h], .inr ⟨rfl, by omega⟩⟩
    rw [hd]
    clear hd
    -- values
    have hvx : V x = (n : Rat) * (two e * two e) := by
      rw [hv]
      have h4 : sg false = 1 := rfl
      rw [h4, Rat.one_mul, ← hn, Rat.natCast_mul, ← two_add, Rat.mul_assoc (m : Rat) ((2 ^ more : Nat) : Rat), two_nat_mul, show e + e + (more : Int) = i by omega]
    obtain ⟨v, hv1⟩ : ∃ v, ((2 * whole + d : Nat) : Rat) * two (e - 1) = v := ⟨_, rfl⟩
    have hte : two e = 2 * two (e - 1) := by rw [show e = (e - 1) + 1 by omega, two_add, two_one, show e - 1 + 1 - 1 = e - 1 by omega, Rat.mul_comm]
    have htp := two_pos (e - 1)
    have hvv : v * v * 4 = ((2 * whole + d : Nat) : Rat) * ((2 * whole + d : Nat) : Rat) * (two e * two e) := by rw [← hv1, hte]; grind
    -- the square against n
    have hq1 : (2 * whole + d) * (2 * whole + d) ≤ 4 * n + 4 * (whole + 1) ∧ 4 * n ≤ (2 * whole + d) * (2 * whole + d) + 4 * (whole + 1) := by
      rcases hd2 with ⟨rfl, h⟩ | ⟨rfl, h⟩
      · rw [← h]
        constructor
        · have : (2 * whole + 0) * (2 * whole + 0) = 4 * (whole * whole) := by rw [Nat.add_zero, Nat.mul_mul_mul_comm]
          omega
        · have : (2 * whole + 0) * (2 * whole + 0) = 4 * (whole * whole) := by rw [Nat.add_zero, Nat.mul_mul_mul_comm]
          omega
      · have e1 : (2 * whole + 1) * (2 * whole + 1) = 4 * (whole * whole) + 4 * whole + 1 := by
          rw [Nat.add_mul, Nat.mul_add, Nat.one_mul, Nat.mul_one, Nat.mul_mul_mul_comm]; omega
        have e2 : (whole + 1) * (whole + 1) = whole * whole + 2 * whole + 1 := by
          rw [Nat.add_mul, Nat.mul_add, Nat.one_mul, Nat.mul_one]; omega
        omega
    have hsmall : (whole + 1) * 2 ^ 53 ≤ whole * whole := by
      have h1 : 2 ^ 54 * whole ≤ whole * whole := Nat.mul_le_mul_right _ hwh
      rw [show (2 : Nat) ^ 54 = 18014398509481984 by decide] at h1 hwh
      rw [show (2 : Nat) ^ 53 = 9007199254740992 by decide]
      omega
    have hU2 : U * ((2 ^ 53 : Nat) : Rat) = 1 := by decide +kernel
    have hww : (((whole + 1 : Nat) : Rat)) ≤ U * ((whole * whole : Nat) : Rat) := by
      have h1 := Rat.mul_le_mul_of_nonneg_left (rat_le hsmall) (Rat.le_of_lt hU)
      rw [Rat.natCast_mul] at h1
      generalize ((whole + 1 : Nat) : Rat) = a at h1 ⊢
      generalize ((2 ^ 53 : Nat) : Rat) = b at h1 hU2
      have h3 : U * (a * b) = a := by rw [show U * (a * b) = a * (U * b) by grind, hU2, Rat.mul_one]
      rw [h3] at h1
      exact h1
    have r1 := rat_le hq1.1
    have r2 := rat_le hq1.2
    have r3 := rat_le w1
    have r4 : ((4 * (whole * whole) : Nat) : Rat) ≤ (((2 * whole + d) * (2 * whole + d) : Nat) : Rat) := rat_le (by
      have h1 : (2 * whole) * (2 * whole) ≤ (2 * whole + d) * (2 * whole + d) := Nat.mul_le_mul (by omega) (by omega)
      rw [Nat.mul_mul_mul_comm] at h1
      omega)
    have hT : 0 ≤ two e * two e := Rat.mul_nonneg (Rat.le_of_lt (two_pos e)) (Rat.le_of_lt (two_pos e))
    have c4 : ((4 : Nat) : Rat) = 4 := rfl
    rw [Rat.natCast_add, Rat.natCast_mul 4 n, Rat.natCast_mul 4 (whole + 1), c4] at r1
    rw [Rat.natCast_add, Rat.natCast_mul 4 n, Rat.natCast_mul 4 (whole + 1), c4] at r2
    rw [Rat.natCast_mul 4 (whole * whole), c4] at r4
    have eqq : (((2 * whole + d) * (2 * whole + d) : Nat) : Rat) = ((2 * whole + d : Nat) : Rat) * ((2 * whole + d : Nat) : Rat) := Rat.natCast_mul _ _
    rw [← eqq] at hvv
    generalize (((2 * whole + d) * (2 * whole + d) : Nat) : Rat) = Q at r1 r2 r4 hvv
    have r3U := Rat.mul_le_mul_of_nonneg_left r3 (Rat.le_of_lt hU)
    have r4U := Rat.mul_le_mul_of_nonneg_left r4 (Rat.le_of_lt hU)
    have hpl : -1074 ≤ e - 1 := by clear hd2 hq1 hsmall w1 w2 hlow hwh hn; omega
    clear hr hm1 hmore hn he hplace hlow hwh hd2 hq1 hsmall w1 w2 e52 hv
    have f1 : v * v ≤ V x * (1 + U) := by
      rw [hvx]
      have k1 : Q ≤ 4 * ((n : Rat) * (1 + U)) := by grind
      have k2 := Rat.mul_le_mul_of_nonneg_right k1 hT
      generalize two e * two e = T at hvv k2 ⊢
      grind
    have f2 : V x ≤ v * v * (1 + U) := by
      rw [hvx]
      have k1 : 4 * (n : Rat) ≤ Q * (1 + U) := by grind
      have k2 := Rat.mul_le_mul_of_nonneg_right k1 hT
      generalize two e * two e = T at hvv k2 ⊢
      have k3 : Q * (1 + U) * T = v * v * 4 * (1 + U) := by rw [hvv]; grind
      rw [k3] at k2
      grind
    have hv0 : 0 ≤ v := by rw [← hv1]; exact Rat.mul_nonneg (nat_nonneg _) (Rat.le_of_lt htp)
    have hU1 : U ≤ 1 / 1000 := by decide +kernel
    have hvb : v ≤ two 900 := by
      by_cases h : v ≤ two 900
      · exact h
      · exfalso
        have h900 := big_900
        have q1 := Rat.mul_le_mul_of_nonneg_left (show 2 * two 900 ≤ v * two 900 by
          have := Rat.mul_le_mul_of_nonneg_left (show (2 : Rat) ≤ two 900 by grind) hv0
          have h5 : two 900 ≤ v := by grind
          have h6 := Rat.mul_le_mul_of_nonneg_right h5 (show 0 ≤ two 900 by grind)
          have h7 := Rat.mul_le_mul_of_nonneg_right (show (2 : Rat) ≤ two 900 by grind) (show 0 ≤ two 900 by grind)
          grind) (show (0 : Rat) ≤ 1 by decide)
        have q2 := Rat.mul_le_mul_of_nonneg_left (show two 900 ≤ v by grind) hv0
        have q3 := Rat.mul_le_mul_of_nonneg_right hb (show 0 ≤ 1 + U by grind)
        have q4 := Rat.mul_le_mul_of_nonneg_left hU1 (show 0 ≤ two 900 by grind)
        grind
    obtain ⟨rf, _, rn, _⟩ := nearest_err false (2 * whole + d) (e - 1) (by rw [hv1]; exact hvb)
    obtain ⟨n1, n2⟩ := rn hpl
    have hsg : sg false = 1 := rfl
    rw [hv1, hsg, Rat.one_mul] at n1 n2
    refine ⟨_, rfl, rf, ?_, ?_, ?_⟩
    all_goals
      show _ ≤ _
      have hn0 : 0 ≤ V (double.nearest false (2 * whole + d) (e - 1)) := by
        have := Rat.mul_nonneg (show 0 ≤ 1 - U by grind) hv0
        grind
    · exact hn0
    · show V x ≤ V (double.nearest false (2 * whole + d) (e - 1)) * V (double.nearest false (2 * whole + d) (e - 1)) * (1 + 31 / 10 * U)
      generalize V (double.nearest false (2 * whole + d) (e - 1)) = y at n1 n2 hn0 ⊢
      have k0 : 0 ≤ v * (1 - U) := Rat.mul_nonneg hv0 (by grind)
      have k1 : v * (1 - U) ≤ y := by grind
      have k2 := Rat.mul_le_mul_of_nonneg_left k1 k0
      have k3 := Rat.mul_le_mul_of_nonneg_right k1 hn0
      have k4 : v * (1 - U) * (v * (1 - U)) ≤ y * y := Rat.le_trans k2 k3
      have k5 := Rat.mul_le_mul_of_nonneg_right k4 (show 0 ≤ 1 + 31 / 10 * U by grind)
      have k6 : 0 ≤ v * v := Rat.mul_nonneg hv0 hv0
      have k7 : 1 + U ≤ (1 - U) * (1 - U) * (1 + 31 / 10 * U) := by decide +kernel
      have k8 := Rat.mul_le_mul_of_nonneg_left k7 k6
      grind
    · show V (double.nearest false (2 * whole + d) (e - 1)) * V (double.nearest false (2 * whole + d) (e - 1)) ≤ V x * (1 + 31 / 10 * U)
      generalize V (double.nearest false (2 * whole + d) (e - 1)) = y at n1 n2 hn0 ⊢
      have k0 : 0 ≤ v * (1 + U) := Rat.mul_nonneg hv0 (by grind)
      have k1 : y ≤ v * (1 + U) := by grind
      have k2 := Rat.mul_le_mul_of_nonneg_left k1 hn0
      have k3 := Rat.mul_le_mul_of_nonneg_right k1 k0
      have k4 : y * y ≤ v * (1 + U) * (v * (1 + U)) := Rat.le_trans k2 k3
      have k5 := Rat.mul_le_mul_of_nonneg_right f1 (show 0 ≤ (1 + U) * (1 + U) by decide +kernel)
      have k7 : (1 + U) * ((1 + U) * (1 + U)) ≤ 1 + 31 / 10 * U := by decide +kernel
      have k8 := Rat.mul_le_mul_of_nonneg_left k7 h0
      grind
theorem sqrt_err {x : Nat} (hx : Fn x) (h0 : 0 ≤ V x) (hb : V x ≤ two 900) : ∃ r, double.sqrt x = some r ∧ Fn r ∧ 0 ≤ V r ∧ V x ≤ V r * V r * (1 + 4 * U) ∧ V r * V r ≤ V x * (1 + 4 * U) := by
  obtain ⟨r, h1, h2, h3, h4, h5⟩ := sqrt_err3 hx h0 hb
  have k : (1 + 31 / 10 * U : Rat) ≤ 1 + 4 * U := by decide +kernel
  exact ⟨r, h1, h2, h3, Rat.le_trans h4 (Rat.mul_le_mul_of_nonneg_left k (Rat.mul_nonneg h3 h3)), Rat.le_trans h5 (Rat.mul_le_mul_of_nonneg_left k h0)⟩
end Go.Fe
