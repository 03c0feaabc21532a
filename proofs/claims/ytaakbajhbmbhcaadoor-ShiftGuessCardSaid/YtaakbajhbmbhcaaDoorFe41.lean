/- An angle and the same one backward: what they make. Nothing of a program stands here. -/
import Derived.Test.YtaakbajhbmbhcaaDoorFe38
set_option linter.unusedSimpArgs false
set_option linter.unusedVariables false
namespace Go.Fe
open Ieee Fl

/-! An angle, and the same one backward. -/
theorem nrm_back (k : Int) : (Tr.rst k = -162000000000 ∧ Tr.rst (-Tr.nrm k) = -162000000000 ∧ Tr.qrt (-Tr.nrm k) % 4 = (5 - Tr.qrt k) % 4) ∨ (Tr.rst (-Tr.nrm k) = -Tr.rst k ∧ Tr.qrt (-Tr.nrm k) % 4 = (4 - Tr.qrt k) % 4) := by
  unfold Tr.rst Tr.qrt Tr.nrm
  omega
theorem comp_unit (k : Int) : Nr (cosR k * cosR (-Tr.nrm k) - sinR k * sinR (-Tr.nrm k)) 1 (2 / 10000000000000000) ∧ Nr (sinR k * cosR (-Tr.nrm k) + cosR k * sinR (-Tr.nrm k)) 0 (4 / 10000000000000000) := by
  rcases nrm_back k with ⟨h1, h2, h3⟩ | ⟨h1, h2⟩
  · unfold cosR sinR quadR
    rw [h1, h2, h3]
    have hq : Tr.qrt k % 4 = 0 ∧ (5 - Tr.qrt k) % 4 = 1 ∨ Tr.qrt k % 4 = 1 ∧ (5 - Tr.qrt k) % 4 = 0 ∨ Tr.qrt k % 4 = 2 ∧ (5 - Tr.qrt k) % 4 = 3 ∨ Tr.qrt k % 4 = 3 ∧ (5 - Tr.qrt k) % 4 = 2 := by omega
    rcases hq with ⟨q1, q2⟩ | ⟨q1, q2⟩ | ⟨q1, q2⟩ | ⟨q1, q2⟩ <;> rw [q1, q2] <;> exact ⟨⟨by decide +kernel, by decide +kernel⟩, ⟨by decide +kernel, by decide +kernel⟩⟩
  · have e : ((-Tr.rst k : Int) : Rat) * rad = -((Tr.rst k : Rat) * rad) := by rw [Rat.intCast_neg]; grind
    obtain ⟨u1, u2⟩ := sinR_unit k
    have hc : cosR (-Tr.nrm k) = cosR k ∧ sinR (-Tr.nrm k) = -sinR k := by
      unfold cosR sinR quadR
      rw [h1, h2, e, csR_neg, snR_neg]
      have hq : Tr.qrt k % 4 = 0 ∧ (4 - Tr.qrt k) % 4 = 0 ∨ Tr.qrt k % 4 = 1 ∧ (4 - Tr.qrt k) % 4 = 3 ∨ Tr.qrt k % 4 = 2 ∧ (4 - Tr.qrt k) % 4 = 2 ∨ Tr.qrt k % 4 = 3 ∧ (4 - Tr.qrt k) % 4 = 1 := by omega
      rcases hq with ⟨q1, q2⟩ | ⟨q1, q2⟩ | ⟨q1, q2⟩ | ⟨q1, q2⟩ <;> rw [q1, q2] <;> constructor <;> simp
    rw [hc.1, hc.2]
    have h4 : (0 : Rat) ≤ 4 / 10000000000000000 := by decide +kernel
    exact ⟨⟨by grind, by grind⟩, ⟨by grind, by grind⟩⟩
/-- Three numbers, no longer than e. -/
structure L2 (x y z e : Rat) : Prop where
  e0 : 0 ≤ e
  s : x * x + y * y + z * z ≤ e * e
theorem L2.add {x y z u v w e f : Rat} (h : L2 x y z e) (k : L2 u v w f) : L2 (x + u) (y + v) (z + w) (e + f) := by
  obtain ⟨e0, hs⟩ := h
  obtain ⟨f0, ks⟩ := k
  refine ⟨by grind, ?_⟩
  have cau := cauchy x y z u v w
  have xx := sq_nonneg x
  have yy := sq_nonneg y
  have zz := sq_nonneg z
  have uu := sq_nonneg u
  have vv := sq_nonneg v
  have ww := sq_nonneg w
  have k1 := mul_le_both (show 0 ≤ x * x + y * y + z * z by grind) (show 0 ≤ u * u + v * v + w * w by grind) hs ks
  have k2 := (abs_le_of_sq (x := x * u + y * v + z * w) (m := e * f) (Rat.mul_nonneg e0 f0) (by grind)).1
  grind
theorem L2.le {x y z e f : Rat} (h : L2 x y z e) (hf : e ≤ f) : L2 x y z f :=
  ⟨Rat.le_trans h.e0 hf, Rat.le_trans h.s (mul_le_both h.e0 h.e0 hf hf)⟩
theorem L2.comp {x y z e : Rat} (h : L2 x y z e) : (x ≤ e ∧ -e ≤ x) ∧ (y ≤ e ∧ -e ≤ y) ∧ (z ≤ e ∧ -e ≤ z) := by
  have xx := sq_nonneg x
  have yy := sq_nonneg y
  have zz := sq_nonneg z
  have := h.s
  exact ⟨abs_le_of_sq h.e0 (by grind), abs_le_of_sq h.e0 (by grind), abs_le_of_sq h.e0 (by grind)⟩
theorem L2.of2 {x y e : Rat} (e0 : 0 ≤ e) (hx : x ≤ e) (hx' : -e ≤ x) (hy : y ≤ e) (hy' : -e ≤ y) : L2 x y 0 (1415 / 1000 * e) := by
  refine ⟨by grind, ?_⟩
  have h1 := (mul_size hx hx' hx hx').1
  have h2 := (mul_size hy hy' hy hy').1
  have := Rat.mul_nonneg e0 e0
  grind
theorem L2.rot {x y z e : Rat} (h : L2 x y z e) : L2 y z x e := ⟨h.e0, by have := h.s; grind⟩
/-- Two of three turned. -/
theorem L2.turn {x y z e C S : Rat} (h : L2 x y z e) (hu : Nr (C * C + S * S) 1 (2 / 10000000000000000)) : L2 (x * C - y * S) (x * S + y * C) z ((1 + 2 * U) * e) := by
  have hU := U_pos
  obtain ⟨e0, hs⟩ := h
  obtain ⟨u1, u2⟩ := hu
  have k : (2 / 10000000000000000 : Rat) ≤ 4 * U := by decide +kernel
  have Ue := Rat.mul_nonneg (Rat.le_of_lt hU) e0
  refine ⟨by grind, ?_⟩
  have xx := sq_nonneg x
  have yy := sq_nonneg y
  have zz := sq_nonneg z
  have ee := Rat.mul_nonneg e0 e0
  have m1 := Rat.mul_le_mul_of_nonneg_right (show C * C + S * S ≤ 1 + 4 * U by grind) (show 0 ≤ x * x + y * y by grind)
  have m2 := Rat.mul_le_mul_of_nonneg_left hs (show 0 ≤ 1 + 4 * U by grind)
  have m3 := Rat.mul_nonneg (Rat.le_of_lt hU) zz
  have e1 : (x * C - y * S) * (x * C - y * S) + (x * S + y * C) * (x * S + y * C) + z * z = (C * C + S * S) * (x * x + y * y) + z * z := by grind
  have m4 := Rat.mul_nonneg (Rat.mul_nonneg (Rat.le_of_lt hU) (Rat.le_of_lt hU)) ee
  rw [e1]
  grind
end Go.Fe
/- A turn, and the turn back. Nothing of a program stands here. -/
set_option linter.unusedSimpArgs false
set_option linter.unusedVariables false
namespace Go.Fe
open Ieee Fl

/-! A turn, and the turn back. -/
/-- Three floats, no longer than m; what underflows is small against m. -/
structure V3Ok (a b z : Nat) (m : Rat) : Prop where
  fa : Fn a
  fb : Fn b
  fz : Fn z
  l : L2 (V a) (V b) (V z) m
  hi : m ≤ two 700
  sc : (m = 0 ∧ V a = 0 ∧ V b = 0 ∧ V z = 0) ∨ two (-700) ≤ m
theorem V3Ok.rot {a b z : Nat} {m : Rat} (h : V3Ok a b z m) : V3Ok b z a m :=
  ⟨h.fb, h.fz, h.fa, h.l.rot, h.hi, h.sc.imp (fun k => ⟨k.1, k.2.2.1, k.2.2.2, k.2.1⟩) id⟩
theorem sq_zero {x : Rat} (h : x * x = 0) : x = 0 := by rcases Rat.mul_eq_zero.mp h with h | h <;> exact h
theorem L2.zero {x y z : Rat} (h : L2 x y z 0) : x = 0 ∧ y = 0 ∧ z = 0 := by
  have xx := sq_nonneg x
  have yy := sq_nonneg y
  have zz := sq_nonneg z
  have := h.s
  exact ⟨sq_zero (by grind), sq_zero (by grind), sq_zero (by grind)⟩
/-- What a word of a cosine and one of a sine are near. -/
structure AngOk (c s : Nat) (k : Int) : Prop where
  fc : Fn c
  fs : Fn s
  nc : Nr (V c) (cosR k) (34 / 100000000000000000)
  ns : Nr (V s) (sinR k) (34 / 100000000000000000)
theorem ang_ok (k : Int) : ∃ c s, Tr.cosA k = some c ∧ Tr.sinA k = some s ∧ AngOk c s k := by
  obtain ⟨_, _, _, c, h1, h2, h3⟩ := cos_tight k
  obtain ⟨_, _, _, s, k1, k2, k3⟩ := sin_tight k
  exact ⟨c, s, h1, k1, h2, k2, h3, k3⟩
theorem unit_flip (k : Int) : Nr (cosR k * cosR k + sinR k * sinR k) 1 (2 / 10000000000000000) := by
  obtain ⟨h1, h2⟩ := sinR_unit k
  exact ⟨by grind, by grind⟩
/-- A turn of floats. -/
theorem turn_ok {a b z c s : Nat} {k : Int} {m : Rat} (h : V3Ok a b z m) (hk : AngOk c s k) :
    ∃ x y, Fl.fsub (Fl.fmul (some a) (some c)) (Fl.fmul (some b) (some s)) = some x ∧ Fl.fadd (Fl.fmul (some a) (some s)) (Fl.fmul (some b) (some c)) = some y ∧ Fn x ∧ Fn y ∧
      L2 (V x - (V a * cosR k - V b * sinR k)) (V y - (V a * sinR k + V b * cosR k)) 0 (92 / 10 * U * m) := by
  obtain ⟨fa, fb, fz, hl, hm, hs⟩ := h
  obtain ⟨fc, fs, nc, ns⟩ := hk
  have zz := sq_nonneg (V z)
  have hls := hl.s
  have hU := U_pos
  have Um := Rat.mul_nonneg (Rat.le_of_lt hU) hl.e0
  obtain ⟨x, y, hx, hy, fx, fy, ⟨x1, x2⟩, ⟨y1, y2⟩⟩ := turn2_err fa fb fc fs nc ns (unit_flip k) (m := m) (by grind) hm (hs.imp (fun k => ⟨k.1, k.2.1, k.2.2.1⟩) id)
  refine ⟨x, y, hx, hy, fx, fy, ?_⟩
  exact (L2.of2 (e := 65 / 10 * U * m) (by grind) x1 (by grind) y1 (by grind)).le (by grind)
theorem turned_ok {a b z x y : Nat} {k : Int} {m : Rat} (h : V3Ok a b z m) (fx : Fn x) (fy : Fn y) (hl : L2 (V x - (V a * cosR k - V b * sinR k)) (V y - (V a * sinR k + V b * cosR k)) 0 (92 / 10 * U * m)) (hm : (1 + 12 * U) * m ≤ two 700) : V3Ok x y z ((1 + 12 * U) * m) := by
  have hU := U_pos
  have m0 := h.l.e0
  have Um := Rat.mul_nonneg (Rat.le_of_lt hU) m0
  have t := (h.l.turn (unit_flip k)).add hl
  have e1 : V a * cosR k - V b * sinR k + (V x - (V a * cosR k - V b * sinR k)) = V x := by grind
  have e2 : V a * sinR k + V b * cosR k + (V y - (V a * sinR k + V b * cosR k)) = V y := by grind
  have e3 : V z + 0 = V z := by grind
  rw [e1, e2, e3] at t
  have t' := t.le (f := (1 + 12 * U) * m) (by grind)
  refine ⟨fx, fy, h.fz, t', hm, ?_⟩
  rcases h.sc with ⟨hz, _⟩ | hz
  · left
    have z0 : (1 + 12 * U) * m = 0 := by rw [hz]; grind
    rw [z0] at t'
    exact ⟨z0, t'.zero⟩
  · right
    grind
/-- The turn back of what is near the turned. -/
theorem back_step {a b z c' s' x y p q t : Nat} {k : Int} {m E : Rat} (h : V3Ok a b z m) (hk' : AngOk c' s' (-Tr.nrm k)) (hm : 2 * m ≤ two 700)
    (hl : L2 (V x - (V a * cosR k - V b * sinR k)) (V y - (V a * sinR k + V b * cosR k)) 0 (92 / 10 * U * m))
    (fp : Fn p) (fq : Fn q) (ft : Fn t) (hE : L2 (V p - V x) (V q - V y) (V t - V z) E) (hE1 : E ≤ 1 / 1000 * m) :
    ∃ p' q', Fl.fsub (Fl.fmul (some p) (some c')) (Fl.fmul (some q) (some s')) = some p' ∧ Fl.fadd (Fl.fmul (some p) (some s')) (Fl.fmul (some q) (some c')) = some q' ∧ Fn p' ∧ Fn q' ∧
      L2 (V p' - V a) (V q' - V b) (V t - V z) (E + 26 * U * m) := by
  have hU := U_pos
  have hU1 : U ≤ 1 / 100000 := by decide +kernel
  have m0 := h.l.e0
  have Um := Rat.mul_nonneg (Rat.le_of_lt hU) m0
  have Um1 := Rat.mul_le_mul_of_nonneg_right hU1 m0
  have Um2 := Rat.mul_le_mul_of_nonneg_right hU1 Um
  have E0 := hE.e0
  -- what is turned back is no longer than the vector
  have t1 := (h.l.turn (unit_flip k)).add hl
  have t2 := t1.add hE
  have e1 : V a * cosR k - V b * sinR k + (V x - (V a * cosR k - V b * sinR k)) + (V p - V x) = V p := by grind
  have e2 : V a * sinR k + V b * cosR k + (V y - (V a * sinR k + V b * cosR k)) + (V q - V y) = V q := by grind
  have e3 : V z + 0 + (V t - V z) = V t := by grind
  rw [e1, e2, e3] at t2
  have t3 := t2.le (f := 1002 / 1000 * m) (by grind)
  have hok : V3Ok p q t (1002 / 1000 * m) := by
    refine ⟨fp, fq, ft, t3, by grind, ?_⟩
    rcases h.sc with ⟨hz, _⟩ | hz
    · left
      have z0 : 1002 / 1000 * m = 0 := by rw [hz]; grind
      rw [z0] at t3
      exact ⟨z0, t3.zero⟩
    · right; grind
  obtain ⟨p', q', hp, hq, fp', fq', r'⟩ := turn_ok hok hk'
  refine ⟨p', q', hp, hq, fp', fq', ?_⟩
  -- the parts
  have g1 := hE.turn (unit_flip (-Tr.nrm k))
  have g2 := hl.turn (unit_flip (-Tr.nrm k))
  obtain ⟨⟨P1, P2⟩, ⟨Q1, Q2⟩⟩ := comp_unit k
  obtain ⟨⟨a1, a2⟩, ⟨b1, b2⟩, _⟩ := h.l.comp
  have k1 : (2 / 10000000000000000 : Rat) ≤ 19 / 10 * U := by decide +kernel
  have k2 : (4 / 10000000000000000 : Rat) ≤ 37 / 10 * U := by decide +kernel
  have g3 : L2 (V a * (cosR k * cosR (-Tr.nrm k) - sinR k * sinR (-Tr.nrm k) - 1)) (V b * (cosR k * cosR (-Tr.nrm k) - sinR k * sinR (-Tr.nrm k) - 1)) 0 (19 / 10 * U * m) := by
    have d1 : cosR k * cosR (-Tr.nrm k) - sinR k * sinR (-Tr.nrm k) - 1 ≤ 19 / 10 * U := by grind
    have d2 : -(19 / 10 * U) ≤ cosR k * cosR (-Tr.nrm k) - sinR k * sinR (-Tr.nrm k) - 1 := by grind
    generalize cosR k * cosR (-Tr.nrm k) - sinR k * sinR (-Tr.nrm k) - 1 = d at *
    have dd := (mul_size d1 d2 d1 d2).1
    refine ⟨by grind, ?_⟩
    have hs := h.l.s
    have zz := sq_nonneg (V z)
    have aa := sq_nonneg (V a)
    have bb := sq_nonneg (V b)
    have d0 := sq_nonneg d
    have w := mul_le_both d0 (show 0 ≤ V a * V a + V b * V b by grind) dd (show V a * V a + V b * V b ≤ m * m by grind)
    grind
  have g4 : L2 (-(V b * (sinR k * cosR (-Tr.nrm k) + cosR k * sinR (-Tr.nrm k)))) (V a * (sinR k * cosR (-Tr.nrm k) + cosR k * sinR (-Tr.nrm k))) 0 (37 / 10 * U * m) := by
    have d1 : sinR k * cosR (-Tr.nrm k) + cosR k * sinR (-Tr.nrm k) ≤ 37 / 10 * U := by grind
    have d2 : -(37 / 10 * U) ≤ sinR k * cosR (-Tr.nrm k) + cosR k * sinR (-Tr.nrm k) := by grind
    generalize sinR k * cosR (-Tr.nrm k) + cosR k * sinR (-Tr.nrm k) = d at *
    have dd := (mul_size d1 d2 d1 d2).1
    refine ⟨by grind, ?_⟩
    have hs := h.l.s
    have zz := sq_nonneg (V z)
    have aa := sq_nonneg (V a)
    have bb := sq_nonneg (V b)
    have d0 := sq_nonneg d
    have w := mul_le_both d0 (show 0 ≤ V a * V a + V b * V b by grind) dd (show V a * V a + V b * V b ≤ m * m by grind)
    grind
  have all := (((g1.add g2).add g3).add g4).add r'
  clear g1 g2 g3 g4 r' t1 t2 t3 hl hE hok hp hq
  generalize cosR (-Tr.nrm k) = C' at *
  generalize sinR (-Tr.nrm k) = S' at *
  generalize cosR k = C at *
  generalize sinR k = S at *
  have w := all.le (f := E + 26 * U * m) (by
    have UE : U * E ≤ U * (1 / 1000 * m) := Rat.mul_le_mul_of_nonneg_left hE1 (Rat.le_of_lt hU)
    grind)
  clear all
  refine ⟨w.e0, ?_⟩
  have s := w.s
  have f1 : (V p - V x) * C' - (V q - V y) * S' + ((V x - (V a * C - V b * S)) * C' - (V y - (V a * S + V b * C)) * S') + V a * (C * C' - S * S' - 1) + -(V b * (S * C' + C * S')) + (V p' - (V p * C' - V q * S')) = V p' - V a := by grind
  have f2 : (V p - V x) * S' + (V q - V y) * C' + ((V x - (V a * C - V b * S)) * S' + (V y - (V a * S + V b * C)) * C') + V b * (C * C' - S * S' - 1) + V a * (S * C' + C * S') + (V q' - (V p * S' + V q * C')) = V q' - V b := by grind
  have f3 : V t - V z + 0 + 0 + 0 + 0 = V t - V z := by grind
  rw [f1, f2, f3] at s
  exact s
end Go.Fe
/- A chain of turns, along and against. Nothing of a program stands here. -/
set_option linter.unusedSimpArgs false
set_option linter.unusedVariables false
namespace Go.Fe
open Ieee Fl

/-! A chain of turns, along and against: nearly the same. -/
def trF (ax k : Int) (v : V3) : V3 :=
  if ax = 0 then ⟨v.x, Fl.fsub (Fl.fmul v.y (Tr.cosA k)) (Fl.fmul v.z (Tr.sinA k)), Fl.fadd (Fl.fmul v.y (Tr.sinA k)) (Fl.fmul v.z (Tr.cosA k))⟩
  else if ax = 1 then ⟨Fl.fadd (Fl.fmul v.z (Tr.sinA k)) (Fl.fmul v.x (Tr.cosA k)), v.y, Fl.fsub (Fl.fmul v.z (Tr.cosA k)) (Fl.fmul v.x (Tr.sinA k))⟩
  else if ax = 2 then ⟨Fl.fsub (Fl.fmul v.x (Tr.cosA k)) (Fl.fmul v.y (Tr.sinA k)), Fl.fadd (Fl.fmul v.x (Tr.sinA k)) (Fl.fmul v.y (Tr.cosA k)), v.z⟩
  else v
def alongF (l : List (Int × Int)) (v : V3) : V3 := l.foldl (fun v s => trF s.1 s.2 v) v
def againstF (l : List (Int × Int)) (v : V3) : V3 := l.foldr (fun s v => trF s.1 (-Tr.nrm s.2) v) v
/-- One turn, with what the way back gives. -/
theorem one_step {a b z : Nat} {m : Rat} (k : Int) (h : V3Ok a b z m) (hm : 2 * m ≤ two 700) :
    ∃ x y, Fl.fsub (Fl.fmul (some a) (Tr.cosA k)) (Fl.fmul (some b) (Tr.sinA k)) = some x ∧ Fl.fadd (Fl.fmul (some a) (Tr.sinA k)) (Fl.fmul (some b) (Tr.cosA k)) = some y ∧ V3Ok x y z ((1 + 12 * U) * m) ∧
      ∀ p q t E, Fn p → Fn q → Fn t → L2 (V p - V x) (V q - V y) (V t - V z) E → E ≤ 1 / 1000 * m →
        ∃ p' q', Fl.fsub (Fl.fmul (some p) (Tr.cosA (-Tr.nrm k))) (Fl.fmul (some q) (Tr.sinA (-Tr.nrm k))) = some p' ∧ Fl.fadd (Fl.fmul (some p) (Tr.sinA (-Tr.nrm k))) (Fl.fmul (some q) (Tr.cosA (-Tr.nrm k))) = some q' ∧ Fn p' ∧ Fn q' ∧
          L2 (V p' - V a) (V q' - V b) (V t - V z) (E + 26 * U * m) := by
  have hU := U_pos
  have hU1 : U ≤ 1 / 100000 := by decide +kernel
  have m0 := h.l.e0
  have Um1 := Rat.mul_le_mul_of_nonneg_right hU1 m0
  obtain ⟨c, s, hc, hs, ho⟩ := ang_ok k
  obtain ⟨c', s', hc', hs', ho'⟩ := ang_ok (-Tr.nrm k)
  obtain ⟨x, y, hx, hy, fx, fy, hl⟩ := turn_ok h ho
  rw [hc, hs, hc', hs']
  refine ⟨x, y, hx, hy, turned_ok h fx fy hl (by grind), ?_⟩
  intro p q t E fp fq ft hE hE1
  exact back_step h ho' hm hl fp fq ft hE hE1
theorem L2.rot2 {x y z e : Rat} (h : L2 x y z e) : L2 z x y e := h.rot.rot
theorem chain_ok : ∀ (l : List (Int × Int)) (x y z : Nat) (m : Rat), (∀ s ∈ l, 0 ≤ s.1 ∧ s.1 ≤ 2) → V3Ok x y z m → l.length ≤ 60 → m ≤ (100 - (l.length : Rat)) * two 600 →
    ∃ a b c p q t, alongF l ⟨some x, some y, some z⟩ = ⟨some a, some b, some c⟩ ∧ againstF l ⟨some a, some b, some c⟩ = ⟨some p, some q, some t⟩ ∧ Fn p ∧ Fn q ∧ Fn t ∧ L2 (V p - V x) (V q - V y) (V t - V z) ((l.length : Rat) * (30 * U * m))
  | [], x, y, z, m, _, h, _, _ => by
    refine ⟨x, y, z, x, y, z, rfl, rfl, h.fa, h.fb, h.fz, ?_⟩
    have c0 : ((([] : List (Int × Int)).length : Nat) : Rat) = 0 := rfl
    rw [c0]
    exact ⟨by grind, by grind⟩
  | (ax, k) :: l, x, y, z, m, hs, h, hn, hm => by
    have hU := U_pos
    have hU1 : U ≤ 1 / 100000000 := by decide +kernel
    have m0 := h.l.e0
    have Um := Rat.mul_nonneg (Rat.le_of_lt hU) m0
    have Um1 := Rat.mul_le_mul_of_nonneg_right hU1 m0
    have Um2 := Rat.mul_le_mul_of_nonneg_right hU1 Um
    have hlen : ((((ax, k) :: l).length : Nat) : Rat) = (l.length : Rat) + 1 := by
      rw [List.length_cons, Rat.natCast_add]; rfl
    have hl60 : l.length ≤ 60 := by simp at hn; omega
    have hl59 : (l.length : Rat) ≤ 59 := by
      have : ((l.length : Nat) : Rat) ≤ ((59 : Nat) : Rat) := rat_le (by simp at hn; omega)
      have c : ((59 : Nat) : Rat) = 59 := rfl
      rw [c] at this; exact this
    have l0 := nat_nonneg l.length
    rw [hlen] at hm ⊢
    generalize hL : (l.length : Rat) = L at *
    have h600 := two_pos 600
    have h7 : 1000 * two 600 ≤ two 700 := by decide +kernel
    have hLt := Rat.mul_le_mul_of_nonneg_right hl59 (Rat.le_of_lt h600)
    have hL0 := Rat.mul_nonneg l0 (Rat.le_of_lt h600)
    have hm2 : 2 * m ≤ two 700 := by grind
    have hm3 : (1 + 12 * U) * m ≤ (100 - L) * two 600 := by
      have g0 : 12 * U * m ≤ 12 * U * ((100 - (L + 1)) * two 600) := Rat.mul_le_mul_of_nonneg_left hm (show 0 ≤ 12 * U by grind)
      have g3 := Rat.mul_nonneg (Rat.le_of_lt hU) (Rat.le_of_lt h600)
      have g1 := Rat.mul_le_mul_of_nonneg_right hU1 (Rat.le_of_lt h600)
      have g2 := Rat.mul_nonneg (Rat.le_of_lt hU) hL0
      grind
    have E1 : L * (30 * U * ((1 + 12 * U) * m)) ≤ 1 / 1000 * m := by
      have g := mul_le_both l0 (show 0 ≤ 30 * U * ((1 + 12 * U) * m) by
        have := Rat.mul_nonneg (Rat.le_of_lt hU) Um
        grind) hl59 Rat.le_refl
      grind
    have E2 : L * (30 * U * ((1 + 12 * U) * m)) + 26 * U * m ≤ (L + 1) * (30 * U * m) := by
      have g0 := Rat.mul_nonneg (Rat.le_of_lt hU) Um
      have g := Rat.mul_le_mul_of_nonneg_right hl59 g0
      grind
    have hs' : ∀ s ∈ l, 0 ≤ s.1 ∧ s.1 ≤ 2 := fun s h => hs s (List.mem_cons_of_mem _ h)
    obtain ⟨ax0, ax2⟩ := hs (ax, k) List.mem_cons_self
    have hax : ax = 0 ∨ ax = 1 ∨ ax = 2 := by omega
    rcases hax with rfl | rfl | rfl
    · obtain ⟨y1, z1, hy, hz, ok, back⟩ := one_step k h.rot hm2
      obtain ⟨a, b, c, p, q, t, h1, h2, fp, fq, ft, hE⟩ := chain_ok l x y1 z1 _ hs' ok.rot.rot hl60 (by rw [hL]; exact hm3)
      obtain ⟨q', t', hq, ht, fq', ft', hE'⟩ := back q t p _ fq ft fp hE.rot (by rw [hL]; exact E1)
      refine ⟨a, b, c, p, q', t', ?_, ?_, fp, fq', ft', ?_⟩
      · show alongF l (trF 0 k _) = _
        unfold trF; rw [if_pos rfl, hy, hz]; exact h1
      · show trF 0 (-Tr.nrm k) (againstF l _) = _
        rw [h2]; unfold trF; rw [if_pos rfl, hq, ht]
      · rw [hL] at hE'
        exact hE'.rot.rot.le E2
    · obtain ⟨z1, x1, hz, hx, ok, back⟩ := one_step k h.rot.rot hm2
      obtain ⟨a, b, c, p, q, t, h1, h2, fp, fq, ft, hE⟩ := chain_ok l x1 y z1 _ hs' ok.rot hl60 (by rw [hL]; exact hm3)
      obtain ⟨t', p', ht, hp, ft', fp', hE'⟩ := back t p q _ ft fp fq hE.rot.rot (by rw [hL]; exact E1)
      refine ⟨a, b, c, p', q, t', ?_, ?_, fp', fq, ft', ?_⟩
      · show alongF l (trF 1 k _) = _
        unfold trF; rw [if_neg (by decide), if_pos rfl, hz, hx]; exact h1
      · show trF 1 (-Tr.nrm k) (againstF l _) = _
        rw [h2]; unfold trF; rw [if_neg (by decide), if_pos rfl, ht, hp]
      · rw [hL] at hE'
        exact hE'.rot.le E2
    · obtain ⟨x1, y1, hx, hy, ok, back⟩ := one_step k h hm2
      obtain ⟨a, b, c, p, q, t, h1, h2, fp, fq, ft, hE⟩ := chain_ok l x1 y1 z _ hs' ok hl60 (by rw [hL]; exact hm3)
      obtain ⟨p', q', hp, hq, fp', fq', hE'⟩ := back p q t _ fp fq ft hE (by rw [hL]; exact E1)
      refine ⟨a, b, c, p', q', t, ?_, ?_, fp', fq', ft, ?_⟩
      · show alongF l (trF 2 k _) = _
        unfold trF; rw [if_neg (by decide), if_neg (by decide), if_pos rfl, hx, hy]; exact h1
      · show trF 2 (-Tr.nrm k) (againstF l _) = _
        rw [h2]; unfold trF; rw [if_neg (by decide), if_neg (by decide), if_pos rfl, hp, hq]
      · rw [hL] at hE'
        exact hE'.le E2
end Go.Fe
