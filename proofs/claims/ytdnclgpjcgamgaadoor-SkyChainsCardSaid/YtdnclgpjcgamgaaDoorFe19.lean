/- Floats near a rational, by a scale. Nothing of a program stands here. -/
import Derived.Test.YtdnclgpjcgamgaaDoorFe16
set_option linter.unusedSimpArgs false
set_option linter.unusedVariables false
namespace Go.Fe
open Ieee

/-! Numbers with a point near a rational, by a scale: error e and size A, both times s. -/
/-- A scale that neither overflows nor underflows. -/
structure Sc (s : Rat) : Prop where
  lo : two (-900) ≤ s
  hi : s ≤ two 850
theorem Sc.pos {s : Rat} (h : Sc s) : 0 < s := by
  have h1 := two_pos (-900)
  have h2 := h.lo
  grind
structure As (s : Rat) (X : Option Nat) (x e A : Rat) : Prop where
  e0 : 0 ≤ e
  hi : x ≤ A * s
  lo : -(A * s) ≤ x
  v : ∃ w, X = some w ∧ Fn w ∧ Nr (V w) x (e * s)
theorem As.weaken {s : Rat} {X : Option Nat} {x e e' A B : Rat} (h : As s X x e A) (hs : 0 ≤ s) (he : e ≤ e') (hA : A ≤ B) : As s X x e' B := by
  obtain ⟨e0, h1, h2, w, hw, hf, hn⟩ := h
  have k1 := Rat.mul_le_mul_of_nonneg_right he hs
  have k2 := Rat.mul_le_mul_of_nonneg_right hA hs
  exact ⟨Rat.le_trans e0 he, by grind, by grind, w, hw, hf, ⟨Rat.le_trans hn.hi k1, Rat.le_trans hn.lo k1⟩⟩
theorem As.eq {s : Rat} {X : Option Nat} {x y e A : Rat} (h : As s X x e A) (hxy : x = y) : As s X y e A := hxy ▸ h
/-- A plain one is one at the scale 1. -/
theorem As.of {X : Option Nat} {x e A : Rat} (h : Ap X x e A) : As 1 X x e A := by
  obtain ⟨e0, h1, h2, w, hw, hf, hn⟩ := h
  exact ⟨e0, by grind, by grind, w, hw, hf, ⟨by rw [Rat.mul_one]; exact hn.hi, by rw [Rat.mul_one]; exact hn.lo⟩⟩
theorem big_scale {s M : Rat} (hs : Sc s) (hM : M ≤ 1000000) : M * s ≤ two 900 := by
  have h1 := Rat.mul_le_mul_of_nonneg_right hM (Rat.le_of_lt hs.pos)
  have h2 := Rat.mul_le_mul_of_nonneg_left hs.hi (show (0 : Rat) ≤ 1000000 by decide)
  have h3 : (1000000 : Rat) * two 850 ≤ two 900 := by decide +kernel
  grind
theorem As.add {s : Rat} {X Y : Option Nat} {x y e f A B g C : Rat} (hx : As s X x e A) (hy : As s Y y f B) (hs : Sc s) (hC : A + B ≤ C) (hg : e + f + U * (A + B + e + f) ≤ g) (hM : A + B + e + f ≤ 1000000) : As s (Fl.fadd X Y) (x + y) g C := by
  obtain ⟨e0, h1, h2, w, rfl, hf, hn⟩ := hx
  obtain ⟨f0, k1, k2, u, rfl, kf, kn⟩ := hy
  have hb := big_scale hs hM
  have h0 := Rat.le_of_lt hs.pos
  have eM : (A + B + e + f) * s = A * s + B * s + e * s + f * s := by grind
  have a1 : V w + V u ≤ (A + B + e + f) * s := by have := hn.hi; have := kn.hi; grind
  have a2 : -(V w + V u) ≤ (A + B + e + f) * s := by have := hn.lo; have := kn.lo; grind
  obtain ⟨r, hr, rf, rn⟩ := add_err hf kf (Rat.le_trans a1 hb) (Rat.le_trans a2 hb)
  obtain ⟨r1, r2⟩ := rn _ a1 a2
  have g1 := Rat.mul_le_mul_of_nonneg_right hg h0
  have g2 := Rat.mul_le_mul_of_nonneg_right hC h0
  have eg : (e + f + U * (A + B + e + f)) * s = e * s + f * s + U * ((A + B + e + f) * s) := by grind
  rw [eg] at g1
  have ec : (A + B) * s = A * s + B * s := by grind
  rw [ec] at g2
  have g0 : 0 ≤ g * s := by
    have q1 := Rat.mul_nonneg e0 h0
    have q2 := Rat.mul_nonneg f0 h0
    have q3 := Rat.mul_nonneg (Rat.le_of_lt U_pos) (show 0 ≤ (A + B + e + f) * s by grind)
    grind
  have gg : 0 ≤ g := by
    refine Rat.not_lt.mp fun h => ?_
    have := Rat.mul_pos (show 0 < -g by grind) hs.pos
    grind
  obtain ⟨n1, n2⟩ := hn
  obtain ⟨p1, p2⟩ := kn
  exact ⟨gg, by grind, by grind, r, hr, rf, ⟨by grind, by grind⟩⟩
theorem As.neg {s : Rat} {X : Option Nat} {x e A : Rat} (h : As s X x e A) : As s (Fl.fneg X) (-x) e A := by
  obtain ⟨e0, h1, h2, w, rfl, hf, hn⟩ := h
  obtain ⟨nf, nv⟩ := neg_val hf
  obtain ⟨n1, n2⟩ := hn
  exact ⟨e0, by grind, by grind, _, rfl, nf, ⟨by rw [nv]; grind, by rw [nv]; grind⟩⟩
theorem As.sub {s : Rat} {X Y : Option Nat} {x y e f A B g C : Rat} (hx : As s X x e A) (hy : As s Y y f B) (hs : Sc s) (hC : A + B ≤ C) (hg : e + f + U * (A + B + e + f) ≤ g) (hM : A + B + e + f ≤ 1000000) : As s (Fl.fsub X Y) (x - y) g C := by
  obtain ⟨e0, h1, h2, w, rfl, hf, hn⟩ := hx
  obtain ⟨f0, k1, k2, u, rfl, kf, kn⟩ := hy
  have hb := big_scale hs hM
  have h0 := Rat.le_of_lt hs.pos
  have eM : (A + B + e + f) * s = A * s + B * s + e * s + f * s := by grind
  have a1 : V w - V u ≤ (A + B + e + f) * s := by have := hn.hi; have := kn.lo; grind
  have a2 : -(V w - V u) ≤ (A + B + e + f) * s := by have := hn.lo; have := kn.hi; grind
  obtain ⟨r, hr, rf, rn⟩ := sub_err hf kf (Rat.le_trans a1 hb) (Rat.le_trans a2 hb)
  obtain ⟨r1, r2⟩ := rn _ a1 a2
  have g1 := Rat.mul_le_mul_of_nonneg_right hg h0
  have g2 := Rat.mul_le_mul_of_nonneg_right hC h0
  have eg : (e + f + U * (A + B + e + f)) * s = e * s + f * s + U * ((A + B + e + f) * s) := by grind
  rw [eg] at g1
  have ec : (A + B) * s = A * s + B * s := by grind
  rw [ec] at g2
  have g0 : 0 ≤ g * s := by
    have q1 := Rat.mul_nonneg e0 h0
    have q2 := Rat.mul_nonneg f0 h0
    have q3 := Rat.mul_nonneg (Rat.le_of_lt U_pos) (show 0 ≤ (A + B + e + f) * s by grind)
    grind
  have gg : 0 ≤ g := by
    refine Rat.not_lt.mp fun h => ?_
    have := Rat.mul_pos (show 0 < -g by grind) hs.pos
    grind
  obtain ⟨n1, n2⟩ := hn
  obtain ⟨p1, p2⟩ := kn
  exact ⟨gg, by grind, by grind, r, hr, rf, ⟨by grind, by grind⟩⟩
theorem As.mul {s t : Rat} {X Y : Option Nat} {x y e f A B g C : Rat} (hx : As s X x e A) (hy : As t Y y f B) (s0 : 0 < s) (t0 : 0 < t) (hs : Sc (s * t)) (hA : 0 ≤ A) (hB : 0 ≤ B) (hC : A * B ≤ C) (hg : A * f + B * e + e * f + U * ((A + e) * (B + f)) + two (-170) ≤ g) (hM : (A + e) * (B + f) ≤ 1000000) : As (s * t) (Fl.fmul X Y) (x * y) g C := by
  obtain ⟨e0, h1, h2, w, rfl, hf, hn⟩ := hx
  obtain ⟨f0, k1, k2, u, rfl, kf, kn⟩ := hy
  obtain ⟨n1, n2⟩ := hn
  obtain ⟨p1, p2⟩ := kn
  have hb := big_scale hs hM
  have h0 := Rat.le_of_lt hs.pos
  have eM : (A + e) * (B + f) * (s * t) = (A * s + e * s) * (B * t + f * t) := by grind
  obtain ⟨a1, a2⟩ := mul_size (a := V w) (b := V u) (A := A * s + e * s) (B := B * t + f * t) (by grind) (by grind) (by grind) (by grind)
  rw [← eM] at a1 a2
  obtain ⟨r, hr, rf, _, rn⟩ := mul_err hf kf (Rat.le_trans a1 hb) (by grind)
  obtain ⟨r1, r2⟩ := rn _ a1 (by grind)
  -- the difference of the products
  obtain ⟨p, hp⟩ : ∃ p, V w - x = p := ⟨_, rfl⟩
  obtain ⟨q, hq⟩ : ∃ q, V u - y = q := ⟨_, rfl⟩
  have ed : V w * V u - x * y = x * q + p * y + p * q := by rw [← hp, ← hq]; grind
  obtain ⟨b1, b2⟩ := mul_size (a := x) (b := q) (A := A * s) (B := f * t) h1 h2 (by grind) (by grind)
  obtain ⟨c1, c2⟩ := mul_size (a := p) (b := y) (A := e * s) (B := B * t) (by grind) (by grind) k1 k2
  obtain ⟨d1, d2⟩ := mul_size (a := p) (b := q) (A := e * s) (B := f * t) (by grind) (by grind) (by grind) (by grind)
  obtain ⟨m1, m2⟩ := mul_size (a := x) (b := y) (A := A * s) (B := B * t) h1 h2 k1 k2
  have he : two (-1075) ≤ two (-170) * (s * t) := by
    have k := Rat.mul_le_mul_of_nonneg_left hs.lo (Rat.le_of_lt (two_pos (-170)))
    rw [← two_add] at k
    exact Rat.le_trans (two_le (by decide)) k
  have g1 := Rat.mul_le_mul_of_nonneg_right hg h0
  have g2 := Rat.mul_le_mul_of_nonneg_right hC h0
  have eg : (A * f + B * e + e * f + U * ((A + e) * (B + f)) + two (-170)) * (s * t) = A * s * (f * t) + e * s * (B * t) + e * s * (f * t) + U * ((A + e) * (B + f) * (s * t)) + two (-170) * (s * t) := by grind
  rw [eg] at g1
  have ec : A * B * (s * t) = A * s * (B * t) := by grind
  rw [ec] at g2
  have gg : 0 ≤ g := by
    have q1 := Rat.mul_nonneg hA f0
    have q2 := Rat.mul_nonneg hB e0
    have q3 := Rat.mul_nonneg e0 f0
    have q4 := Rat.mul_nonneg (Rat.le_of_lt U_pos) (Rat.mul_nonneg (show 0 ≤ A + e by grind) (show 0 ≤ B + f by grind))
    have q5 := two_pos (-170)
    grind
  exact ⟨gg, by grind, by grind, r, hr, rf, ⟨by grind, by grind⟩⟩
end Go.Fe
