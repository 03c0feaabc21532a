/- A turn, and the turn back. Nothing of a program stands here. -/
import Derived.Test.YtdnclgpjcgamgaaDoorFe39
set_option linter.unusedSimpArgs false
set_option linter.unusedVariables false
namespace Go.Fe
open Ieee Fl

/-! A turn, and the turn back. -/
/-- Three floats, no longer than m; what underflows is small against m. -/
structure V3Ok (a b z : Nat) (m : Rat) : Prop where
  fa : Fn a
  fb : Fn b
  fz : Fn z
  l : L2 (V a) (V b) (V z) m
  hi : m ≤ two 700
  sc : (m = 0 ∧ V a = 0 ∧ V b = 0 ∧ V z = 0) ∨ two (-700) ≤ m
theorem V3Ok.rot {a b z : Nat} {m : Rat} (h : V3Ok a b z m) : V3Ok b z a m :=
  ⟨h.fb, h.fz, h.fa, h.l.rot, h.hi, h.sc.imp (fun k => ⟨k.1, k.2.2.1, k.2.2.2, k.2.1⟩) id⟩
theorem sq_zero {x : Rat} (h : x * x = 0) : x = 0 := by rcases Rat.mul_eq_zero.mp h with h | h <;> exact h
theorem L2.zero {x y z : Rat} (h : L2 x y z 0) : x = 0 ∧ y = 0 ∧ z = 0 := by
  have xx := sq_nonneg x
  have yy := sq_nonneg y
  have zz := sq_nonneg z
  have := h.s
  exact ⟨sq_zero (by grind), sq_zero (by grind), sq_zero (by grind)⟩
/-- What a word of a cosine and one of a sine are near. -/
structure AngOk (c s : Nat) (k : Int) : Prop where
  fc : Fn c
  fs : Fn s
  nc : Nr (V c) (cosR k) (34 / 100000000000000000)
  ns : Nr (V s) (sinR k) (34 / 100000000000000000)
theorem ang_ok (k : Int) : ∃ c s, Tr.cosA k = some c ∧ Tr.sinA k = some s ∧ AngOk c s k := by
  obtain ⟨_, _, _, c, h1, h2, h3⟩ := cos_tight k
  obtain ⟨_, _, _, s, k1, k2, k3⟩ := sin_tight k
  exact ⟨c, s, h1, k1, h2, k2, h3, k3⟩
theorem unit_flip (k : Int) : Nr (cosR k * cosR k + sinR k * sinR k) 1 (2 / 10000000000000000) := by
  obtain ⟨h1, h2⟩ := sinR_unit k
  exact ⟨by grind, by grind⟩
/-- A turn of floats. -/
theorem turn_ok {a b z c s : Nat} {k : Int} {m : Rat} (h : V3Ok a b z m) (hk : AngOk c s k) :
    ∃ x y, Fl.fsub (Fl.fmul (some a) (some c)) (Fl.fmul (some b) (some s)) = some x ∧ Fl.fadd (Fl.fmul (some a) (some s)) (Fl.fmul (some b) (some c)) = some y ∧ Fn x ∧ Fn y ∧
      L2 (V x - (V a * cosR k - V b * sinR k)) (V y - (V a * sinR k + V b * cosR k)) 0 (92 / 10 * U * m) := by
  obtain ⟨fa, fb, fz, hl, hm, hs⟩ := h
  obtain ⟨fc, fs, nc, ns⟩ := hk
  have zz := sq_nonneg (V z)
  have hls := hl.s
  have hU := U_pos
  have Um := Rat.mul_nonneg (Rat.le_of_lt hU) hl.e0
  obtain ⟨x, y, hx, hy, fx, fy, ⟨x1, x2⟩, ⟨y1, y2⟩⟩ := turn2_err fa fb fc fs nc ns (unit_flip k) (m := m) (by grind) hm (hs.imp (fun k => ⟨k.1, k.2.1, k.2.2.1⟩) id)
  refine ⟨x, y, hx, hy, fx, fy, ?_⟩
  exact (L2.of2 (e := 65 / 10 * U * m) (by grind) x1 (by grind) y1 (by grind)).le (by grind)
theorem turned_ok {a b z x y : Nat} {k : Int} {m : Rat} (h : V3Ok a b z m) (fx : Fn x) (fy : Fn y) (hl : L2 (V x - (V a * cosR k - V b * sinR k)) (V y - (V a * sinR k + V b * cosR k)) 0 (92 / 10 * U * m)) (hm : (1 + 12 * U) * m ≤ two 700) : V3Ok x y z ((1 + 12 * U) * m) := by
  have hU := U_pos
  have m0 := h.l.e0
  have Um := Rat.mul_nonneg (Rat.le_of_lt hU) m0
  have t := (h.l.turn (unit_flip k)).add hl
  have e1 : V a * cosR k - V b * sinR k + (V x - (V a * cosR k - V b * sinR k)) = V x := by grind
  have e2 : V a * sinR k + V b * cosR k + (V y - (V a * sinR k + V b * cosR k)) = V y := by grind
  have e3 : V z + 0 = V z := by grind
  rw [e1, e2, e3] at t
  have t' := t.le (f := (1 + 12 * U) * m) (by grind)
  refine ⟨fx, fy, h.fz, t', hm, ?_⟩
  rcases h.sc with ⟨hz, _⟩ | hz
  · left
    have z0 : (1 + 12 * U) * m = 0 := by rw [hz]; grind
    rw [z0] at t'
    exact ⟨z0, t'.zero⟩
  · right
    grind
/-- The turn back of what is near the turned. -/
theorem back_step {a b z c' s' x y p q t : Nat} {k : Int} {m E : Rat} (h : V3Ok a b z m) (hk' : AngOk c' s' (-Tr.nrm k)) (hm : 2 * m ≤ two 700)
    (hl : L2 (V x - (V a * cosR k - V b * sinR k)) (V y - (V a * sinR k + V b * cosR k)) 0 (92 / 10 * U * m))
    (fp : Fn p) (fq : Fn q) (ft : Fn t) (hE : L2 (V p - V x) (V q - V y) (V t - V z) E) (hE1 : E ≤ 1 / 1000 * m) :
    ∃ p' q', Fl.fsub (Fl.fmul (some p) (some c')) (Fl.fmul (some q) (some s')) = some p' ∧ Fl.fadd (Fl.fmul (some p) (some s')) (Fl.fmul (some q) (some c')) = some q' ∧ Fn p' ∧ Fn q' ∧
      L2 (V p' - V a) (V q' - V b) (V t - V z) (E + 26 * U * m) := by
  have hU := U_pos
  have hU1 : U ≤ 1 / 100000 := by decide +kernel
  have m0 := h.l.e0
  have Um := Rat.mul_nonneg (Rat.le_of_lt hU) m0
  have Um1 := Rat.mul_le_mul_of_nonneg_right hU1 m0
  have Um2 := Rat.mul_le_mul_of_nonneg_right hU1 Um
  have E0 := hE.e0
  -- what is turned back is no longer than the vector
  have t1 := (h.l.turn (unit_flip k)).add hl
  have t2 := t1.add hE
  have e1 : V a * cosR k - V b * sinR k + (V x - (V a * cosR k - V b * sinR k)) + (V p - V x) = V p := by grind
  have e2 : V a * sinR k + V b * cosR k + (V y - (V a * sinR k + V b * cosR k)) + (V q - V y) = V q := by grind
  have e3 : V z + 0 + (V t - V z) = V t := by grind
  rw [e1, e2, e3] at t2
  have t3 := t2.le (f := 1002 / 1000 * m) (by grind)
  have hok : V3Ok p q t (1002 / 1000 * m) := by
    refine ⟨fp, fq, ft, t3, by grind, ?_⟩
    rcases h.sc with ⟨hz, _⟩ | hz
    · left
      have z0 : 1002 / 1000 * m = 0 := by rw [hz]; grind
      rw [z0] at t3
      exact ⟨z0, t3.zero⟩
    · right; grind
  obtain ⟨p', q', hp, hq, fp', fq', r'⟩ := turn_ok hok hk'
  refine ⟨p', q', hp, hq, fp', fq', ?_⟩
  -- the parts
  have g1 := hE.turn (unit_flip (-Tr.nrm k))
  have g2 := hl.turn (unit_flip (-Tr.nrm k))
  obtain ⟨⟨P1, P2⟩, ⟨Q1, Q2⟩⟩ := comp_unit k
  obtain ⟨⟨a1, a2⟩, ⟨b1, b2⟩, _⟩ := h.l.comp
  have k1 : (2 / 10000000000000000 : Rat) ≤ 19 / 10 * U := by decide +kernel
  have k2 : (4 / 10000000000000000 : Rat) ≤ 37 / 10 * U := by decide +kernel
  have g3 : L2 (V a * (cosR k * cosR (-Tr.nrm k) - sinR k * sinR (-Tr.nrm k) - 1)) (V b * (cosR k * cosR (-Tr.nrm k) - sinR k * sinR (-Tr.nrm k) - 1)) 0 (19 / 10 * U * m) := by
    have d1 : cosR k * cosR (-Tr.nrm k) - sinR k * sinR (-Tr.nrm k) - 1 ≤ 19 / 10 * U := by grind
    have d2 : -(19 / 10 * U) ≤ cosR k * cosR (-Tr.nrm k) - sinR k * sinR (-Tr.nrm k) - 1 := by grind
    generalize cosR k * cosR (-Tr.nrm k) - sinR k * sinR (-Tr.nrm k) - 1 = d at *
    have dd := (mul_size d1 d2 d1 d2).1
    refine ⟨by grind, ?_⟩
    have hs := h.l.s
    have zz := sq_nonneg (V z)
    have aa := sq_nonneg (V a)
    have bb := sq_nonneg (V b)
    have d0 := sq_nonneg d
    have w := mul_le_both d0 (show 0 ≤ V a * V a + V b * V b by grind) dd (show V a * V a + V b * V b ≤ m * m by grind)
    grind
  have g4 : L2 (-(V b * (sinR k * cosR (-Tr.nrm k) + cosR k * sinR (-Tr.nrm k)))) (V a * (sinR k * cosR (-Tr.nrm k) + cosR k * sinR (-Tr.nrm k))) 0 (37 / 10 * U * m) := by
    have d1 : sinR k * cosR (-Tr.nrm k) + cosR k * sinR (-Tr.nrm k) ≤ 37 / 10 * U := by grind
    have d2 : -(37 / 10 * U) ≤ sinR k * cosR (-Tr.nrm k) + cosR k * sinR (-Tr.nrm k) := by grind
    generalize sinR k * cosR (-Tr.nrm k) + cosR k * sinR (-Tr.nrm k) = d at *
    have dd := (mul_size d1 d2 d1 d2).1
    refine ⟨by grind, ?_⟩
    have hs := h.l.s
    have zz := sq_nonneg (V z)
    have aa := sq_nonneg (V a)
    have bb := sq_nonneg (V b)
    have d0 := sq_nonneg d
    have w := mul_le_both d0 (show 0 ≤ V a * V a + V b * V b by grind) dd (show V a * V a + V b * V b ≤ m * m by grind)
    grind
  have all := (((g1.add g2).add g3).add g4).add r'
  clear g1 g2 g3 g4 r' t1 t2 t3 hl hE hok hp hq
  generalize cosR (-Tr.nrm k) = C' at *
  generalize sinR (-Tr.nrm k) = S' at *
  generalize cosR k = C at *
  generalize sinR k = S at *
  have w := all.le (f := E + 26 * U * m) (by
    have UE : U * E ≤ U * (1 / 1000 * m) := Rat.mul_le_mul_of_nonneg_left hE1 (Rat.le_of_lt hU)
    grind)
  clear all
  refine ⟨w.e0, ?_⟩
  have s := w.s
  have f1 : (V p - V x) * C' - (V q - V y) * S' + ((V x - (V a * C - V b * S)) * C' - (V y - (V a * S + V b * C)) * S') + V a * (C * C' - S * S' - 1) + -(V b * (S * C' + C * S')) + (V p' - (V p * C' - V q * S')) = V p' - V a := by grind
  have f2 : (V p - V x) * S' + (V q - V y) * C' + ((V x - (V a * C - V b * S)) * S' + (V y - (V a * S + V b * C)) * C') + V b * (C * C' - S * S' - 1) + V a * (S * C' + C * S') + (V q' - (V p * S' + V q * C')) = V q' - V b := by grind
  have f3 : V t - V z + 0 + 0 + 0 + 0 = V t - V z := by grind
  rw [f1, f2, f3] at s
  exact s
end Go.Fe
