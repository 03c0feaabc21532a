/- Twice a float: exact. Nothing of a program stands here. -/
import Derived.Test.YtaakbajhbmbhcaaDoorFe16
set_option linter.unusedSimpArgs false
set_option linter.unusedVariables false
namespace Go.Fe
open Ieee

/-! Twice a float: exact. -/
theorem read_small {w : Nat} {s : Bool} {m : Nat} {i : Int} (h : double.read w = .number s m i) : m < 9007199254740992 := by
  obtain ⟨f1, f2, f3, f4, f5⟩ := dbl
  unfold Format.read at h
  simp only [f1, f2, f3, f4, f5] at h
  by_cases h1 : w % 9223372036854775808 < 4503599627370496
  · rw [if_pos h1] at h
    injection h with _ h2 _
    omega
  · rw [if_neg h1] at h
    by_cases h3 : w % 9223372036854775808 < 9218868437227405312
    · rw [if_pos h3] at h
      injection h with _ h2 _
      omega
    · rw [if_neg h3] at h
      by_cases h4 : w % 9223372036854775808 = 9218868437227405312
      · rw [if_pos h4] at h; cases h
      · rw [if_neg h4] at h; cases h
theorem kept_of {k n : Nat} {t : Rat} (ht : 0 < t) (h1 : (k : Rat) * (2 * t) ≤ (n : Rat) * (2 * t) + t) (h2 : (n : Rat) * (2 * t) ≤ (k : Rat) * (2 * t) + t) : k = n := by
  rcases Nat.lt_trichotomy k n with h | h | h
  · exfalso
    have h3 : ((k + 1 : Nat) : Rat) ≤ (n : Rat) := rat_le h
    rw [Rat.natCast_add] at h3
    have c1 : ((1 : Nat) : Rat) = 1 := rfl
    rw [c1] at h3
    have h4 := Rat.mul_le_mul_of_nonneg_right h3 (show 0 ≤ 2 * t by grind)
    grind
  · exact h
  · exfalso
    have h3 : ((n + 1 : Nat) : Rat) ≤ (k : Rat) := rat_le h
    rw [Rat.natCast_add] at h3
    have c1 : ((1 : Nat) : Rat) = 1 := rfl
    rw [c1] at h3
    have h4 := Rat.mul_le_mul_of_nonneg_right h3 (show 0 ≤ 2 * t by grind)
    grind
theorem read_2 : double.read 4611686018427387904 = .number false 4503599627370496 (-51) := by decide +kernel
theorem mul_two {x : Nat} (hx : Fn x) (hb : V x ≤ two 800) (hb2 : -V x ≤ two 800) : ∃ r, Fl.fmul (Fl.fl 4611686018427387904) (some x) = some r ∧ Fn r ∧ V r = 2 * V x := by
  obtain ⟨s, m, i, hr, hi⟩ := hx
  have hm := read_small hr
  have hvx : V x = sg s * ((m : Rat) * two i) := by unfold V; rw [hr]; unfold Vd; grind
  have e1 : Fl.fl 4611686018427387904 = some 4611686018427387904 := by decide +kernel
  rw [e1]
  show ∃ r, double.mul 4611686018427387904 x = some r ∧ _
  have hmul : double.mul 4611686018427387904 x = some (double.nearest s (4503599627370496 * m) (-51 + i)) := by
    unfold Format.mul
    rw [read_2, hr]
    show some (double.write (.number (false ^^ s) (4503599627370496 * m) (-51 + i))) = _
    rw [Bool.false_xor]
    rfl
  refine ⟨_, hmul, ?_⟩
  have X0 : 0 ≤ (m : Rat) * two i := Rat.mul_nonneg (nat_nonneg _) (Rat.le_of_lt (two_pos _))
  have ev : ((4503599627370496 * m : Nat) : Rat) * two (-51 + i) = 2 * ((m : Rat) * two i) := by
    have k : ((4503599627370496 : Nat) : Rat) * (two (-51 + i)) = two (i + 1) := by
      rw [show (4503599627370496 : Nat) = 2 ^ 52 by decide, two_nat_mul, show -51 + i + ((52 : Nat) : Int) = i + 1 by omega]
    rw [two_add i 1, two_one] at k
    rw [Rat.natCast_mul]
    grind
  have hbb : ((4503599627370496 * m : Nat) : Rat) * two (-51 + i) ≤ two 900 := by
    rw [ev]
    have g2 : (2 : Rat) * two 800 ≤ two 900 := by decide +kernel
    rcases sg_cases s with h | h <;> rw [hvx, h] at hb hb2 <;> grind
  rcases Nat.eq_zero_or_pos m with h0 | h0
  · subst h0
    obtain ⟨f, _, _, z⟩ := nearest_err s (4503599627370496 * 0) (-51 + i) hbb
    refine ⟨f, ?_⟩
    rw [z rfl, hvx]
    have c0 : ((0 : Nat) : Rat) = 0 := rfl
    rw [c0]
    grind
  · have hlog : (4503599627370496 * m).log2 = m.log2 + 52 := by
      rw [show (4503599627370496 : Nat) = 2 ^ 52 by decide, Nat.mul_comm]
      refine (Nat.log2_eq_iff (by omega)).2 ?_
      have l1 := Nat.log2_self_le (n := m) (by omega)
      have l2 := Nat.lt_log2_self (n := m)
      constructor
      · rw [Nat.pow_add]; exact Nat.mul_le_mul_right _ l1
      · rw [show m.log2 + 52 + 1 = (m.log2 + 1) + 52 by omega, Nat.pow_add]; exact Nat.mul_lt_mul_of_pos_right l2 (by decide)
    have hm52 : m.log2 ≤ 52 := by
      have := (Nat.log2_lt (n := m) (k := 53) (by omega)).2 (by omega)
      omega
    obtain ⟨last, kept, hl, hf, hv, h1, h2, _⟩ := nearest_main s (4503599627370496 * m) (-51 + i) (by omega) (two_lt_iff (Rat.le_trans (two_log (by omega) _) hbb))
    have hle : last ≤ i + 1 := by rcases hl with h | h <;> omega
    obtain ⟨d, hd⟩ : ∃ d : Nat, i + 1 = last + d := ⟨(i + 1 - last).toNat, by omega⟩
    have hval : 2 * ((m : Rat) * two i) = ((m * 2 ^ d : Nat) : Rat) * two last := by
      rw [Rat.natCast_mul, Rat.mul_assoc, two_nat_mul, ← hd, two_add, two_one]; grind
    have ht : two last = 2 * two (last - 1) := by rw [show last = (last - 1) + 1 by omega, two_add, two_one, show last - 1 + 1 - 1 = last - 1 by omega, Rat.mul_comm]
    rw [ev, hval] at h1 h2
    rw [ht] at h1 h2
    have hk := kept_of (two_pos (last - 1)) h1 h2
    refine ⟨hf, ?_⟩
    rw [hv, hk, hvx, Rat.mul_assoc, ← hval]
    grind
end Go.Fe
/- Twice a sum, or a difference, of two products. Nothing of a program stands here. -/
set_option linter.unusedSimpArgs false
set_option linter.unusedVariables false
namespace Go.Fe
open Ieee

/-! Twice a sum, or a difference, of two products. -/
theorem pair_err {p q r s : Nat} {a b : Rat} (fp : Fn p) (fq : Fn q) (fr : Fn r) (fs : Fn s) (h1 : V p * V q ≤ a) (h2 : -a ≤ V p * V q) (h3 : V r * V s ≤ b) (h4 : -b ≤ V r * V s) (ha : a ≤ 2) (hb : b ≤ 2) :
    (∃ t, Fl.fmul (Fl.fl 4611686018427387904) (Fl.fadd (Fl.fmul (some p) (some q)) (Fl.fmul (some r) (some s))) = some t ∧ Fn t ∧ Nr (V t) (2 * (V p * V q + V r * V s)) (4 * U * (a + b) + 20 * (U * U))) ∧
    (∃ t, Fl.fmul (Fl.fl 4611686018427387904) (Fl.fsub (Fl.fmul (some p) (some q)) (Fl.fmul (some r) (some s))) = some t ∧ Fn t ∧ Nr (V t) (2 * (V p * V q - V r * V s)) (4 * U * (a + b) + 20 * (U * U))) := by
  have k9 := big_900
  have k8 : (1000000 : Rat) ≤ two 800 := by
    have h1 := two_le (show (20 : Int) ≤ 800 by decide)
    have h2 : (1000000 : Rat) ≤ two 20 := by decide +kernel
    exact Rat.le_trans h2 h1
  have hU := U_pos
  have hη : two (-1075) ≤ 1 / 100 * (U * U) := by decide +kernel
  have η0 := two_pos (-1075)
  have hU1 : U ≤ 1 / 1000 := by decide +kernel
  have UU : U * U ≤ 1 / 1000 * U := Rat.mul_le_mul_of_nonneg_right hU1 (Rat.le_of_lt hU)
  obtain ⟨x, hx, fx, _, nx⟩ := mul_err fp fq (by grind) (by grind)
  obtain ⟨y, hy, fy, _, ny⟩ := mul_err fr fs (by grind) (by grind)
  obtain ⟨x1, x2⟩ := nx a h1 (by grind)
  obtain ⟨y1, y2⟩ := ny b h3 (by grind)
  generalize two (-1075) = η at *
  generalize V p * V q = A at *
  generalize V r * V s = B at *
  have a0 : 0 ≤ a := by grind
  have b0 : 0 ≤ b := by grind
  have ua : U * a ≤ U * 2 := Rat.mul_le_mul_of_nonneg_left ha (Rat.le_of_lt hU)
  have ub : U * b ≤ U * 2 := Rat.mul_le_mul_of_nonneg_left hb (Rat.le_of_lt hU)
  have M1 : V x + V y ≤ a + b + 5 * U := by grind
  have M2 : -(V x + V y) ≤ a + b + 5 * U := by grind
  have M3 : V x - V y ≤ a + b + 5 * U := by grind
  have M4 : -(V x - V y) ≤ a + b + 5 * U := by grind
  constructor
  · obtain ⟨z, hz, fz, nz⟩ := add_err fx fy (by grind) (by grind)
    obtain ⟨z1, z2⟩ := nz _ M1 M2
    obtain ⟨t, ht, ft, vt⟩ := mul_two fz (by grind) (by grind)
    refine ⟨t, ?_, ft, ?_⟩
    · show Fl.fmul _ (Fl.fadd (double.mul p q) (double.mul r s)) = _
      rw [hx, hy]
      show Fl.fmul _ (double.add x y) = _
      rw [hz]
      exact ht
    · rw [vt]; exact ⟨by grind, by grind⟩
  · obtain ⟨z, hz, fz, nz⟩ := sub_err fx fy (by grind) (by grind)
    obtain ⟨z1, z2⟩ := nz _ M3 M4
    obtain ⟨t, ht, ft, vt⟩ := mul_two fz (by grind) (by grind)
    refine ⟨t, ?_, ft, ?_⟩
    · show Fl.fmul _ (Fl.fsub (double.mul p q) (double.mul r s)) = _
      rw [hx, hy]
      show Fl.fmul _ (double.sub x y) = _
      rw [hz]
      exact ht
    · rw [vt]; exact ⟨by grind, by grind⟩
end Go.Fe
/- One less twice a sum. Nothing of a program stands here. -/
set_option linter.unusedSimpArgs false
set_option linter.unusedVariables false
namespace Go.Fe
open Ieee

/-! One less twice a sum. -/
theorem diag_err {p r t : Nat} (a : Rat) (h1 : V p * V p + V r * V r ≤ a) (ha : a ≤ 101 / 100) (ft : Fn t) (ht : Nr (V t) (2 * (V p * V p + V r * V r)) (4 * U * a + 20 * (U * U))) :
    ∃ d, Fl.fsub (Fl.fl 4607182418800017408) (some t) = some d ∧ Fn d ∧ Nr (V d) (1 - 2 * (V p * V p + V r * V r)) (4 * U * a + 103 / 100 * U + 100 * (U * U)) := by
  have k9 := big_900
  have hU := U_pos
  have hU1 : U ≤ 1 / 100000 := by decide +kernel
  have UU : U * U ≤ 1 / 100000 * U := Rat.mul_le_mul_of_nonneg_right hU1 (Rat.le_of_lt hU)
  have UU0 : 0 ≤ U * U := Rat.mul_nonneg (Rat.le_of_lt hU) (Rat.le_of_lt hU)
  have pp := sq_nonneg (V p)
  have rr := sq_nonneg (V r)
  generalize V p * V p = P at *
  generalize V r * V r = R at *
  have f1 : Fn 4607182418800017408 := fn_of (by decide +kernel)
  have v1 : V 4607182418800017408 = 1 := by decide +kernel
  have e1 : Fl.fl 4607182418800017408 = some 4607182418800017408 := by decide +kernel
  have ua : U * a ≤ U * (101 / 100) := Rat.mul_le_mul_of_nonneg_left ha (Rat.le_of_lt hU)
  obtain ⟨t1, t2⟩ := ht
  obtain ⟨d, hd, fd, nd⟩ := sub_err f1 ft (by rw [v1]; grind) (by rw [v1]; grind)
  obtain ⟨d1, d2⟩ := nd (103 / 100) (by rw [v1]; grind) (by rw [v1]; grind)
  rw [v1] at d1 d2
  refine ⟨d, ?_, fd, ⟨by grind, by grind⟩⟩
  rw [e1]
  exact hd
end Go.Fe
/- Floats near a rational, by a scale. Nothing of a program stands here. -/
set_option linter.unusedSimpArgs false
set_option linter.unusedVariables false
namespace Go.Fe
open Ieee

/-! Numbers with a point near a rational, by a scale: error e and size A, both times s. -/
/-- A scale that neither overflows nor underflows. -/
structure Sc (s : Rat) : Prop where
  lo : two (-900) ≤ s
  hi : s ≤ two 850
theorem Sc.pos {s : Rat} (h : Sc s) : 0 < s := by
  have h1 := two_pos (-900)
  have h2 := h.lo
  grind
structure As (s : Rat) (X : Option Nat) (x e A : Rat) : Prop where
  e0 : 0 ≤ e
  hi : x ≤ A * s
  lo : -(A * s) ≤ x
  v : ∃ w, X = some w ∧ Fn w ∧ Nr (V w) x (e * s)
theorem As.weaken {s : Rat} {X : Option Nat} {x e e' A B : Rat} (h : As s X x e A) (hs : 0 ≤ s) (he : e ≤ e') (hA : A ≤ B) : As s X x e' B := by
  obtain ⟨e0, h1, h2, w, hw, hf, hn⟩ := h
  have k1 := Rat.mul_le_mul_of_nonneg_right he hs
  have k2 := Rat.mul_le_mul_of_nonneg_right hA hs
  exact ⟨Rat.le_trans e0 he, by grind, by grind, w, hw, hf, ⟨Rat.le_trans hn.hi k1, Rat.le_trans hn.lo k1⟩⟩
theorem As.eq {s : Rat} {X : Option Nat} {x y e A : Rat} (h : As s X x e A) (hxy : x = y) : As s X y e A := hxy ▸ h
/-- A plain one is one at the scale 1. -/
theorem As.of {X : Option Nat} {x e A : Rat} (h : Ap X x e A) : As 1 X x e A := by
  obtain ⟨e0, h1, h2, w, hw, hf, hn⟩ := h
  exact ⟨e0, by grind, by grind, w, hw, hf, ⟨by rw [Rat.mul_one]; exact hn.hi, by rw [Rat.mul_one]; exact hn.lo⟩⟩
theorem big_scale {s M : Rat} (hs : Sc s) (hM : M ≤ 1000000) : M * s ≤ two 900 := by
  have h1 := Rat.mul_le_mul_of_nonneg_right hM (Rat.le_of_lt hs.pos)
  have h2 := Rat.mul_le_mul_of_nonneg_left hs.hi (show (0 : Rat) ≤ 1000000 by decide)
  have h3 : (1000000 : Rat) * two 850 ≤ two 900 := by decide +kernel
  grind
theorem As.add {s : Rat} {X Y : Option Nat} {x y e f A B g C : Rat} (hx : As s X x e A) (hy : As s Y y f B) (hs : Sc s) (hC : A + B ≤ C) (hg : e + f + U * (A + B + e + f) ≤ g) (hM : A + B + e + f ≤ 1000000) : As s (Fl.fadd X Y) (x + y) g C := by
  obtain ⟨e0, h1, h2, w, rfl, hf, hn⟩ := hx
  obtain ⟨f0, k1, k2, u, rfl, kf, kn⟩ := hy
  have hb := big_scale hs hM
  have h0 := Rat.le_of_lt hs.pos
  have eM : (A + B + e + f) * s = A * s + B * s + e * s + f * s := by grind
  have a1 : V w + V u ≤ (A + B + e + f) * s := by have := hn.hi; have := kn.hi; grind
  have a2 : -(V w + V u) ≤ (A + B + e + f) * s := by have := hn.lo; have := kn.lo; grind
  obtain ⟨r, hr, rf, rn⟩ := add_err hf kf (Rat.le_trans a1 hb) (Rat.le_trans a2 hb)
  obtain ⟨r1, r2⟩ := rn _ a1 a2
  have g1 := Rat.mul_le_mul_of_nonneg_right hg h0
  have g2 := Rat.mul_le_mul_of_nonneg_right hC h0
  have eg : (e + f + U * (A + B + e + f)) * s = e * s + f * s + U * ((A + B + e + f) * s) := by grind
  rw [eg] at g1
  have ec : (A + B) * s = A * s + B * s := by grind
  rw [ec] at g2
  have g0 : 0 ≤ g * s := by
    have q1 := Rat.mul_nonneg e0 h0
    have q2 := Rat.mul_nonneg f0 h0
    have q3 := Rat.mul_nonneg (Rat.le_of_lt U_pos) (show 0 ≤ (A + B + e + f) * s by grind)
    grind
  have gg : 0 ≤ g := by
    refine Rat.not_lt.mp fun h => ?_
    have := Rat.mul_pos (show 0 < -g by grind) hs.pos
    grind
  obtain ⟨n1, n2⟩ := hn
  obtain ⟨p1, p2⟩ := kn
  exact ⟨gg, by grind, by grind, r, hr, rf, ⟨by grind, by grind⟩⟩
theorem As.neg {s : Rat} {X : Option Nat} {x e A : Rat} (h : As s X x e A) : As s (Fl.fneg X) (-x) e A := by
  obtain ⟨e0, h1, h2, w, rfl, hf, hn⟩ := h
  obtain ⟨nf, nv⟩ := neg_val hf
  obtain ⟨n1, n2⟩ := hn
  exact ⟨e0, by grind, by grind, _, rfl, nf, ⟨by rw [nv]; grind, by rw [nv]; grind⟩⟩
theorem As.sub {s : Rat} {X Y : Option Nat} {x y e f A B g C : Rat} (hx : As s X x e A) (hy : As s Y y f B) (hs : Sc s) (hC : A + B ≤ C) (hg : e + f + U * (A + B + e + f) ≤ g) (hM : A + B + e + f ≤ 1000000) : As s (Fl.fsub X Y) (x - y) g C := by
  obtain ⟨e0, h1, h2, w, rfl, hf, hn⟩ := hx
  obtain ⟨f0, k1, k2, u, rfl, kf, kn⟩ := hy
  have hb := big_scale hs hM
  have h0 := Rat.le_of_lt hs.pos
  have eM : (A + B + e + f) * s = A * s + B * s + e * s + f * s := by grind
  have a1 : V w - V u ≤ (A + B + e + f) * s := by have := hn.hi; have := kn.lo; grind
  have a2 : -(V w - V u) ≤ (A + B + e + f) * s := by have := hn.lo; have := kn.hi; grind
  obtain ⟨r, hr, rf, rn⟩ := sub_err hf kf (Rat.le_trans a1 hb) (Rat.le_trans a2 hb)
  obtain ⟨r1, r2⟩ := rn _ a1 a2
  have g1 := Rat.mul_le_mul_of_nonneg_right hg h0
  have g2 := Rat.mul_le_mul_of_nonneg_right hC h0
  have eg : (e + f + U * (A + B + e + f)) * s = e * s + f * s + U * ((A + B + e + f) * s) := by grind
  rw [eg] at g1
  have ec : (A + B) * s = A * s + B * s := by grind
  rw [ec] at g2
  have g0 : 0 ≤ g * s := by
    have q1 := Rat.mul_nonneg e0 h0
    have q2 := Rat.mul_nonneg f0 h0
    have q3 := Rat.mul_nonneg (Rat.le_of_lt U_pos) (show 0 ≤ (A + B + e + f) * s by grind)
    grind
  have gg : 0 ≤ g := by
    refine Rat.not_lt.mp fun h => ?_
    have := Rat.mul_pos (show 0 < -g by grind) hs.pos
    grind
  obtain ⟨n1, n2⟩ := hn
  obtain ⟨p1, p2⟩ := kn
  exact ⟨gg, by grind, by grind, r, hr, rf, ⟨by grind, by grind⟩⟩
theorem As.mul {s t : Rat} {X Y : Option Nat} {x y e f A B g C : Rat} (hx : As s X x e A) (hy : As t Y y f B) (s0 : 0 < s) (t0 : 0 < t) (hs : Sc (s * t)) (hA : 0 ≤ A) (hB : 0 ≤ B) (hC : A * B ≤ C) (hg : A * f + B * e + e * f + U * ((A + e) * (B + f)) + two (-170) ≤ g) (hM : (A + e) * (B + f) ≤ 1000000) : As (s * t) (Fl.fmul X Y) (x * y) g C := by
  obtain ⟨e0, h1, h2, w, rfl, hf, hn⟩ := hx
  obtain ⟨f0, k1, k2, u, rfl, kf, kn⟩ := hy
  obtain ⟨n1, n2⟩ := hn
  obtain ⟨p1, p2⟩ := kn
  have hb := big_scale hs hM
  have h0 := Rat.le_of_lt hs.pos
  have eM : (A + e) * (B + f) * (s * t) = (A * s + e * s) * (B * t + f * t) := by grind
  obtain ⟨a1, a2⟩ := mul_size (a := V w) (b := V u) (A := A * s + e * s) (B := B * t + f * t) (by grind) (by grind) (by grind) (by grind)
  rw [← eM] at a1 a2
  obtain ⟨r, hr, rf, _, rn⟩ := mul_err hf kf (Rat.le_trans a1 hb) (by grind)
  obtain ⟨r1, r2⟩ := rn _ a1 (by grind)
  -- the difference of the products
  obtain ⟨p, hp⟩ : ∃ p, V w - x = p := ⟨_, rfl⟩
  obtain ⟨q, hq⟩ : ∃ q, V u - y = q := ⟨_, rfl⟩
  have ed : V w * V u - x * y = x * q + p * y + p * q := by rw [← hp, ← hq]; grind
  obtain ⟨b1, b2⟩ := mul_size (a := x) (b := q) (A := A * s) (B := f * t) h1 h2 (by grind) (by grind)
  obtain ⟨c1, c2⟩ := mul_size (a := p) (b := y) (A := e * s) (B := B * t) (by grind) (by grind) k1 k2
  obtain ⟨d1, d2⟩ := mul_size (a := p) (b := q) (A := e * s) (B := f * t) (by grind) (by grind) (by grind) (by grind)
  obtain ⟨m1, m2⟩ := mul_size (a := x) (b := y) (A := A * s) (B := B * t) h1 h2 k1 k2
  have he : two (-1075) ≤ two (-170) * (s * t) := by
    have k := Rat.mul_le_mul_of_nonneg_left hs.lo (Rat.le_of_lt (two_pos (-170)))
    rw [← two_add] at k
    exact Rat.le_trans (two_le (by decide)) k
  have g1 := Rat.mul_le_mul_of_nonneg_right hg h0
  have g2 := Rat.mul_le_mul_of_nonneg_right hC h0
  have eg : (A * f + B * e + e * f + U * ((A + e) * (B + f)) + two (-170)) * (s * t) = A * s * (f * t) + e * s * (B * t) + e * s * (f * t) + U * ((A + e) * (B + f) * (s * t)) + two (-170) * (s * t) := by grind
  rw [eg] at g1
  have ec : A * B * (s * t) = A * s * (B * t) := by grind
  rw [ec] at g2
  have gg : 0 ≤ g := by
    have q1 := Rat.mul_nonneg hA f0
    have q2 := Rat.mul_nonneg hB e0
    have q3 := Rat.mul_nonneg e0 f0
    have q4 := Rat.mul_nonneg (Rat.le_of_lt U_pos) (Rat.mul_nonneg (show 0 ≤ A + e by grind) (show 0 ≤ B + f by grind))
    have q5 := two_pos (-170)
    grind
  exact ⟨gg, by grind, by grind, r, hr, rf, ⟨by grind, by grind⟩⟩
end Go.Fe
/- Sizes from squares. Nothing of a program stands here. -/
set_option linter.unusedSimpArgs false
set_option linter.unusedVariables false
namespace Go.Fe
open Ieee

/-! The size of four numbers' sum of squares, and what a Cauchy bound gives. -/
theorem abs_le_of_sq {x m : Rat} (m0 : 0 ≤ m) (h : x * x ≤ m * m) : x ≤ m ∧ -m ≤ x := by
  constructor
  · refine Rat.not_lt.mp fun hx => ?_
    have k1 : 0 < (x - m) * (x + m) := Rat.mul_pos (by grind) (by grind)
    grind
  · refine Rat.not_lt.mp fun hx => ?_
    have k1 : 0 < (-x - m) * (-x + m) := Rat.mul_pos (by grind) (by grind)
    grind
/-- Three sizes against their squares. -/
theorem three_sum {a b c m : Rat} (m0 : 0 ≤ m) (h : a * a + b * b + c * c ≤ m * m) : a + b + c ≤ 174 / 100 * m := by
  have h1 := sq_nonneg (a - b)
  have h2 := sq_nonneg (b - c)
  have h3 := sq_nonneg (c - a)
  have k : (a + b + c) * (a + b + c) ≤ 174 / 100 * m * (174 / 100 * m) := by
    have := Rat.mul_nonneg m0 m0
    grind
  exact (abs_le_of_sq (by grind) k).1
end Go.Fe
