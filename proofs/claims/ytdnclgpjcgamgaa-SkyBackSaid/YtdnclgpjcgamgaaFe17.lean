/- A place, to its point and back. Nothing of a program stands here. -/
import Derived.Test.YtdnclgpjcgamgaaFe16
set_option linter.unusedSimpArgs false
set_option linter.unusedVariables false
namespace Go.Fe
open Ieee

/-- The root of the sum of two squares, as it is worked out. -/
theorem hyp_near {ρ C S : Rat} {x y : Nat} (r0 : 3 / 10 ≤ ρ) (r1 : ρ ≤ 1001 / 1000) (hu : Nr (C * C + S * S) 1 (2 / 10000000000000000))
    (fx : Fn x) (fy : Fn y) (hx : Nr (V x) (ρ * C) (8 / 10000000000000000)) (hy : Nr (V y) (ρ * S) (8 / 10000000000000000)) :
    ∃ r, Fl.fsqrt (Fl.fadd (Fl.fmul (some x) (some x)) (Fl.fmul (some y) (some y))) = some r ∧ Fn r ∧ Nr (V r) ρ (3 / 1000000000000000) := by
  obtain ⟨t1, t2⟩ := squares_near r0 (Rat.le_trans r1 (by decide +kernel)) hu hx hy
  have xx := sq_nonneg (V x)
  have yy := sq_nonneg (V y)
  have rr := Rat.mul_le_mul_of_nonneg_left r1 (show 0 ≤ ρ by grind)
  have k9 := big_900
  obtain ⟨T, hT⟩ : ∃ T, V x * V x + V y * V y = T := ⟨_, rfl⟩
  rw [hT] at t1 t2
  have T1 : T ≤ 1002 / 1000 * ρ := by grind
  have T0 : 0 ≤ T := by grind
  have hUU : U ≤ 112 / 1000000000000000000 := by decide +kernel
  have hU0 := U_pos
  have he : eta ≤ 1 / 1000000000000000000000000000000 := by decide +kernel
  have he0 : 0 ≤ eta := by decide +kernel
  obtain ⟨p, hp, fp, _, np⟩ := mul_err fx fx (by grind) (by grind)
  obtain ⟨q, hq, fq, _, nq⟩ := mul_err fy fy (by grind) (by grind)
  obtain ⟨p1, p2⟩ := np (V x * V x) Rat.le_refl (by grind)
  obtain ⟨q1, q2⟩ := nq (V y * V y) Rat.le_refl (by grind)
  have ee : two (-1075) = eta := rfl
  rw [ee] at p1 p2 q1 q2
  have UT : U * (V x * V x) + U * (V y * V y) = U * T := by rw [← hT]; grind
  have UT1 : U * T ≤ 112 / 1000000000000000000 * T := Rat.mul_le_mul_of_nonneg_right hUU T0
  have UT0 : 0 ≤ U * T := Rat.mul_nonneg (Rat.le_of_lt hU0) T0
  have s1 : V p + V q ≤ 1003 / 1000 * ρ := by grind
  have s2 : -(V p + V q) ≤ 1003 / 1000 * ρ := by grind
  obtain ⟨w, hw, fw, nw⟩ := add_err fp fq (by grind) (by grind)
  obtain ⟨w1, w2⟩ := nw (1003 / 1000 * ρ) s1 s2
  have Uρ : U * (1003 / 1000 * ρ) ≤ 112 / 1000000000000000000 * (1003 / 1000 * ρ) := Rat.mul_le_mul_of_nonneg_right hUU (by grind)
  have W1 : V w - T ≤ 3 / 10000000000000000 * ρ := by grind
  have W2 : T - V w ≤ 3 / 10000000000000000 * ρ := by grind
  have rr3 := Rat.mul_le_mul_of_nonneg_right r0 (show 0 ≤ ρ by grind)
  have W0 : 0 ≤ V w := by grind
  have W3 : V w ≤ 1004 / 1000 * ρ := by grind
  obtain ⟨r, hr, fr, h0, v1, v2⟩ := sqrt_err fw W0 (by grind)
  have a1 : 4 * U * V w ≤ 448 / 1000000000000000000 * (1004 / 1000 * ρ) := by
    have m1 := Rat.mul_le_mul_of_nonneg_left W3 (show 0 ≤ 4 * U by grind)
    have m2 := Rat.mul_le_mul_of_nonneg_right (show 4 * U ≤ 448 / 1000000000000000000 by grind) (show 0 ≤ 1004 / 1000 * ρ by grind)
    grind
  have a2 : V r * V r ≤ 1005 / 1000 * ρ := by grind
  have a3 : 4 * U * (V r * V r) ≤ 448 / 1000000000000000000 * (1005 / 1000 * ρ) := by
    have m1 := Rat.mul_le_mul_of_nonneg_left a2 (show 0 ≤ 4 * U by grind)
    have m2 := Rat.mul_le_mul_of_nonneg_right (show 4 * U ≤ 448 / 1000000000000000000 by grind) (show 0 ≤ 1005 / 1000 * ρ by grind)
    grind
  refine ⟨r, ?_, fr, root_of_square r0 h0 (by grind) (by grind)⟩
  show Fl.fsqrt (Fl.fadd (double.mul x x) (double.mul y y)) = some r
  rw [hp, hq]
  show Fl.fsqrt (double.add p q) = some r
  rw [hw]
  exact hr
theorem cos_72 : 3 / 10 + 1 / 100000000000000 ≤ cosR 259200000000 := by decide +kernel
theorem cos_low {t : Int} (t0 : 0 ≤ t) (t1 : t ≤ 259200000000) : 3 / 10 + 1 / 100000000000000 ≤ cosR t := by
  have mono : ∀ n : Nat, 0 ≤ 259200000000 - (n : Int) → cosR 259200000000 ≤ cosR (259200000000 - n) := by
    intro n
    induction n with
    | zero => intro _; exact Rat.le_refl
    | succ n ih =>
      intro hn
      have i := ih (by omega)
      obtain ⟨_, q, _⟩ := quarter_step (m := 259200000000 - ((n + 1 : Nat) : Int)) (by omega) (by omega)
      rw [show (259200000000 - ((n + 1 : Nat) : Int) + 1) = 259200000000 - (n : Int) by omega] at q
      grind
  have m1 := mono (259200000000 - t).toNat (by omega)
  rw [show 259200000000 - ((259200000000 - t).toNat : Int) = t by omega] at m1
  exact Rat.le_trans cos_72 m1
theorem cos_in {lat : Int} (l0 : -259200000000 ≤ lat) (l1 : lat ≤ 259200000000) : 3 / 10 ≤ cosR lat := by
  by_cases h : 0 ≤ lat
  · have := cos_low h l1
    grind
  · obtain ⟨n, hn⟩ : ∃ n, 1296000000000 + lat = n := ⟨_, rfl⟩
    have hc : cosR lat = cosR n := by
      have h1 : Tr.nrm lat = Tr.nrm n := by unfold Tr.nrm; omega
      unfold cosR Tr.rst Tr.qrt
      rw [h1]
    rcases refl_of (n := n) (by omega) (by omega) with ⟨h1, _⟩ | ⟨_, h1, _⟩ | ⟨_, h1, _⟩ | ⟨h1, hr⟩
    · omega
    · omega
    · omega
    · obtain ⟨⟨c1, c2⟩, _⟩ := hr
      have := cos_low (t := 1296000000000 - n) (by omega) (by omega)
      rw [hc]
      grind
/-- There and back. -/
theorem place_back {lon lat : Int} (l0 : -259200000000 ≤ lat) (l1 : lat ≤ 259200000000) :
    ∃ d e : Int, Tr.plc (Tr.pnt lon lat) = ((Tr.nrm (lon + d), Tr.sgd (Tr.nrm (lat + e))), true) ∧ (d = -1 ∨ d = 0 ∨ d = 1) ∧ (e = -1 ∨ e = 0 ∨ e = 1) := by
  have ρ0 := cos_in l0 l1
  have cl := cos_tight lat
  have ρ1 := cl.hi
  have kA : 1001 / 1000 * (34 / 100000000000000000) + 1001 / 1000 * (34 / 100000000000000000) + 34 / 100000000000000000 * (34 / 100000000000000000) + U * ((1001 / 1000 + 34 / 100000000000000000) * (1001 / 1000 + 34 / 100000000000000000)) + eta ≤ (8 / 10000000000000000 : Rat) := by decide +kernel
  obtain ⟨_, _, _, x, hx, fx, nx⟩ := Ap.mul (C := 2) cl (cos_tight lon) (by decide +kernel) kA (by decide +kernel)
  obtain ⟨_, _, _, y, hy, fy, ny⟩ := Ap.mul (C := 2) cl (sin_tight lon) (by decide +kernel) kA (by decide +kernel)
  obtain ⟨_, _, _, z, hz, fz, nz⟩ := sin_tight lat
  have hu := sinR_unit lon
  obtain ⟨r, hr, fr, nr⟩ := hyp_near ρ0 ρ1 (C := cosR lon) (S := sinR lon) (by obtain ⟨h1, h2⟩ := hu; exact ⟨by grind, by grind⟩) fx fy nx ny
  have up : (8 / 10000000000000000 : Rat) ≤ 3 / 1000000000000000 := by decide +kernel
  have uz : (34 / 100000000000000000 : Rat) ≤ 3 / 1000000000000000 := by decide +kernel
  obtain ⟨a, d, ha, hd, ed⟩ := ang_any ρ0 (Rat.le_trans ρ1 (by decide +kernel)) fx fy ⟨Rat.le_trans nx.hi up, Rat.le_trans nx.lo up⟩ ⟨Rat.le_trans ny.hi up, Rat.le_trans ny.lo up⟩
  obtain ⟨b, e, hb, he, ee⟩ := ang_any (k := lat) (ρ := 1) (by decide +kernel) (by decide +kernel) fr fz (by rw [Rat.one_mul]; exact nr) (by rw [Rat.one_mul]; exact ⟨Rat.le_trans nz.hi uz, Rat.le_trans nz.lo uz⟩)
  refine ⟨d, e, ?_, hd, he⟩
  unfold Tr.plc Tr.pnt
  simp only [hx, hy, hz]
  rw [fin_fn fx, fin_fn fy, fin_fn fz, hr, hb, ha, ← ed, ← ee]
  rfl
/-- How far apart. -/
theorem apart_lon (lon d : Int) (hd : d = -1 ∨ d = 0 ∨ d = 1) : Tr.sgd (Tr.nrm (Tr.nrm (lon + d)) - Tr.nrm lon) = d := by
  unfold Tr.sgd Tr.nrm; omega
theorem apart_lat (lat e : Int) (he : e = -1 ∨ e = 0 ∨ e = 1) : Tr.sgd (Tr.nrm (Tr.sgd (Tr.nrm (lat + e))) - Tr.nrm lat) = e := by
  unfold Tr.sgd Tr.nrm; omega
end Go.Fe
