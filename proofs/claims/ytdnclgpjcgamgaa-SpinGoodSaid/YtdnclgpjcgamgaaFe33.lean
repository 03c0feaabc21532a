/- A mild vector turned and turned back, with its length. Nothing of a program stands here. -/
import Derived.Test.YtdnclgpjcgamgaaFe32
set_option linter.unusedSimpArgs false
set_option linter.unusedVariables false
namespace Go.Fe
open Ieee Fl

/-! A mild vector, turned and turned back: within the told unit. -/
/-- Within a told size. -/
def InOk (X M : Option Nat) : Prop := ∃ a b, X = some a ∧ M = some b ∧ Fn a ∧ Fn b ∧ V a ≤ V b ∧ -V b ≤ V a
theorem unit_w : Fl.fl 4400016835940974592 = some 4400016835940974592 ∧ Fn 4400016835940974592 ∧ V 4400016835940974592 = 128 * U := by
  refine ⟨by decide +kernel, fn_of (by decide +kernel), by decide +kernel⟩
/-- A length that is nought with its vector, or neither too small nor too big. -/
structure LenOk (p q r n : Nat) : Prop where
  fp : Fn p
  fq : Fn q
  fr : Fn r
  fn : Fn n
  n0 : 0 ≤ V n
  n1 : V n ≤ two 390
  sc : (V n = 0 ∧ V p = 0 ∧ V q = 0 ∧ V r = 0) ∨ two (-400) ≤ V n
  sq : Nr (V n * V n) (V p * V p + V q * V q + V r * V r) (63 / 10 * U * (V p * V p + V q * V q + V r * V r))
theorem md_sq {x : Rat} (h : Md x) : x * x ≤ two 600 ∧ (x = 0 ∨ two (-600) ≤ x * x) := by
  rcases h with h | ⟨h1, h2⟩
  · rw [h]; have := two_pos 600; exact ⟨by grind, .inl rfl⟩
  · have a0 := (ab_le x).2.2
    rw [← ab_sq]
    have e1 : two 600 = two 300 * two 300 := by rw [← two_add]; rfl
    have e2 : two (-600) = two (-300) * two (-300) := by rw [← two_add]; rfl
    rw [e1, e2]
    exact ⟨mul_le_both a0 a0 h2 h2, .inr (mul_le_both (Rat.le_of_lt (two_pos _)) (Rat.le_of_lt (two_pos _)) h1 h1)⟩
theorem len_ok {p q r : Nat} (fp : Fn p) (fq : Fn q) (fr : Fn r) (mp : Md (V p)) (mq : Md (V q)) (mr : Md (V r)) : ∃ n, Tr.vl ⟨some p, some q, some r⟩ = some n ∧ LenOk p q r n := by
  obtain ⟨n, hn, fn, n0, s1, s2⟩ := len_err fp fq fr mp mq mr
  have hU := U_pos
  have hU1 : U ≤ 1 / 100000 := by decide +kernel
  have pp := sq_nonneg (V p)
  have qq := sq_nonneg (V q)
  have rr := sq_nonneg (V r)
  obtain ⟨p1, p2⟩ := md_sq mp
  obtain ⟨q1, q2⟩ := md_sq mq
  obtain ⟨r1, r2⟩ := md_sq mr
  have hT := Rat.mul_le_mul_of_nonneg_right hU1 (show 0 ≤ V p * V p + V q * V q + V r * V r by grind)
  refine ⟨n, hn, fp, fq, fr, fn, n0, ?_, ?_, ⟨s1, s2⟩⟩
  · have e : 4 * two 600 ≤ two 390 * two 390 := by decide +kernel
    exact (abs_le_of_sq (x := V n) (m := two 390) (Rat.le_of_lt (two_pos _)) (by grind)).1
  · by_cases h : V p * V p + V q * V q + V r * V r = 0
    · have z : V n * V n = 0 := by
        have := sq_nonneg (V n)
        rw [h] at s1
        grind
      have zz : ∀ {u : Rat}, u * u = 0 → u = 0 := fun {u} hu => by
        rcases Rat.mul_eq_zero.mp hu with h | h <;> exact h
      exact .inl ⟨zz z, zz (by grind), zz (by grind), zz (by grind)⟩
    · right
      have low : two (-600) ≤ V p * V p + V q * V q + V r * V r := by
        rcases p2 with h1 | h1
        · rcases q2 with h2 | h2
          · rcases r2 with h3 | h3
            · exfalso; apply h; rw [h1, h2, h3]; grind
            · grind
          · grind
        · grind
      have e : two (-400) * two (-400) ≤ 1 / 2 * two (-600) := by decide +kernel
      refine Rat.not_lt.mp fun hlt => ?_
      have k := mul_le_both n0 n0 (Rat.le_of_lt hlt) (Rat.le_of_lt hlt)
      have := two_pos (-600)
      grind
/-- What is near by 127 roundings, is within. -/
theorem in_of {u v n : Nat} (fu : Fn u) (fv : Fn v) (fn : Fn n) (n0 : 0 ≤ V n) (n1 : V n ≤ two 400) (sc : V n = 0 ∨ two (-400) ≤ V n) (h : Nr (V u) (V v) (127 * U * V n)) :
    InOk (Fl.fsub (some u) (some v)) (Fl.fmul (Fl.fl 4400016835940974592) (some n)) := by
  obtain ⟨hu, fo, vo⟩ := unit_w
  have hU := U_pos
  have hU1 : U ≤ 1 / 100000 := by decide +kernel
  have Un := Rat.mul_nonneg (Rat.le_of_lt hU) n0
  have U1 := Rat.mul_le_mul_of_nonneg_right hU1 n0
  have U2 := Rat.mul_le_mul_of_nonneg_left U1 (Rat.le_of_lt hU)
  have g : 1000 * two 400 ≤ two 900 := by decide +kernel
  obtain ⟨h1, h2⟩ := h
  obtain ⟨d, hd, fd, nd⟩ := sub_err fu fv (by grind) (by grind)
  obtain ⟨d1, d2⟩ := nd (127 * (U * V n)) (by grind) (by grind)
  obtain ⟨m, hm, fm, mz, nm⟩ := mul_err fo fn (by rw [vo]; grind) (by rw [vo]; have := two_pos 900; grind)
  obtain ⟨m1, m2⟩ := nm (128 * (U * V n)) (by rw [vo]; grind) (by rw [vo]; grind)
  rw [vo] at m1 m2 mz
  have e1 : U * (127 * (U * V n)) = 127 * (U * (U * V n)) := by grind
  have e2 : U * (128 * (U * V n)) = 128 * (U * (U * V n)) := by grind
  rw [e1] at d1 d2
  rw [e2] at m1 m2
  have low : 1279 / 10 * (U * V n) ≤ V m := by
    rcases sc with h | h
    · rw [mz (by rw [h]; grind), h]; grind
    · have k1 := Rat.mul_le_mul_of_nonneg_left h (Rat.le_of_lt hU)
      have k2 : two (-1075) ≤ 1 / 1000 * (U * two (-400)) := by decide +kernel
      grind
  refine ⟨d, m, hd, ?_, fd, fm, by grind, by grind⟩
  rw [hu]
  exact hm
/-- A vector turned. -/
theorem app_ok {X Y Z : V3} {w x y z : Rat} (hX : RowOk X (r11 w x y z) (r12 w x y z) (r13 w x y z)) (hY : RowOk Y (r21 w x y z) (r22 w x y z) (r23 w x y z)) (hZ : RowOk Z (r31 w x y z) (r32 w x y z) (r33 w x y z))
    {p q r : Nat} {m : Rat} (fp : Fn p) (fq : Fn q) (fr : Fn r) (hv : V p * V p + V q * V q + V r * V r ≤ m * m) (hm : m ≤ two 700) (hs : (m = 0 ∧ V p = 0 ∧ V q = 0 ∧ V r = 0) ∨ two (-700) ≤ m) :
    ∃ s t u, Tr.dt X ⟨some p, some q, some r⟩ = some s ∧ Tr.dt Y ⟨some p, some q, some r⟩ = some t ∧ Tr.dt Z ⟨some p, some q, some r⟩ = some u ∧ Fn s ∧ Fn t ∧ Fn u ∧
      Nr (V s) (r11 w x y z * V p + r12 w x y z * V q + r13 w x y z * V r) (125 / 10 * U * m) ∧ Nr (V t) (r21 w x y z * V p + r22 w x y z * V q + r23 w x y z * V r) (125 / 10 * U * m) ∧ Nr (V u) (r31 w x y z * V p + r32 w x y z * V q + r33 w x y z * V r) (125 / 10 * U * m) := by
  obtain ⟨s, hs1, fs, ns⟩ := row_dot hX fp fq fr hv hm hs
  obtain ⟨t, ht1, ft, nt⟩ := row_dot hY fp fq fr hv hm hs
  obtain ⟨u, hu1, fu, nu⟩ := row_dot hZ fp fq fr hv hm hs
  exact ⟨s, t, u, hs1, ht1, hu1, fs, ft, fu, ns, nt, nu⟩
theorem RotOk.back {w x y z : Nat} (h : RotOk w x y z) : RotOk w (Op.negFloat .f64 x) (Op.negFloat .f64 y) (Op.negFloat .f64 z) := by
  obtain ⟨fw, fx, fy, fz, hn, hk⟩ := h
  obtain ⟨gx, vx⟩ := neg_val fx
  obtain ⟨gy, vy⟩ := neg_val fy
  obtain ⟨gz, vz⟩ := neg_val fz
  refine ⟨fw, gx, gy, gz, ?_, ?_⟩
  · rw [vx, vy, vz]
    have e : nrmQ (V w) (-V x) (-V y) (-V z) = nrmQ (V w) (V x) (V y) (V z) := by unfold nrmQ; grind
    rw [e]; exact hn
  · rw [vx, vy, vz]
    have e : nrmQ (V w) (-V x) (-V y) (-V z) = nrmQ (V w) (V x) (V y) (V z) := by unfold nrmQ; grind
    have e2 : -V x * -V x + -V y * -V y + -V z * -V z = V x * V x + V y * V y + V z * V z := by grind
    rw [e, e2]; exact hk
theorem back_rows (w x y z : Rat) : r11 w (-x) (-y) (-z) = r11 w x y z ∧ r12 w (-x) (-y) (-z) = r21 w x y z ∧ r13 w (-x) (-y) (-z) = r31 w x y z ∧ r21 w (-x) (-y) (-z) = r12 w x y z ∧ r22 w (-x) (-y) (-z) = r22 w x y z ∧ r23 w (-x) (-y) (-z) = r32 w x y z ∧ r31 w (-x) (-y) (-z) = r13 w x y z ∧ r32 w (-x) (-y) (-z) = r23 w x y z ∧ r33 w (-x) (-y) (-z) = r33 w x y z := by
  unfold r11 r12 r13 r21 r22 r23 r31 r32 r33
  refine ⟨?_, ?_, ?_, ?_, ?_, ?_, ?_, ?_, ?_⟩ <;> grind
end Go.Fe
