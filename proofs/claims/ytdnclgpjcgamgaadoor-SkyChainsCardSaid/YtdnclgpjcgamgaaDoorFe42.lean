/- A chain of turns undone, within a told size. Nothing of a program stands here. -/
import Derived.Test.YtdnclgpjcgamgaaDoorFe41
import Derived.Test.YtdnclgpjcgamgaaDoorFe43
set_option linter.unusedSimpArgs false
set_option linter.unusedVariables false
namespace Go.Fe
open Ieee Fl

/-! A chain of turns undone, within a told size. -/
/-- Within a told size. -/
def InOk (X M : Option Nat) : Prop := ∃ a b, X = some a ∧ M = some b ∧ Fn a ∧ Fn b ∧ V a ≤ V b ∧ -V b ≤ V a
theorem unit_w : Fl.fl 4418031234450456576 = some 4418031234450456576 ∧ Fn 4418031234450456576 ∧ V 4418031234450456576 = 2048 * U := by
  refine ⟨by decide +kernel, fn_of (by decide +kernel), by decide +kernel⟩
/-- A length that is nought with its vector, or neither too small nor too big. -/
structure LenOk (p q r n : Nat) : Prop where
  fp : Fn p
  fq : Fn q
  fr : Fn r
  fn : Fn n
  n0 : 0 ≤ V n
  n1 : V n ≤ two 390
  sc : (V n = 0 ∧ V p = 0 ∧ V q = 0 ∧ V r = 0) ∨ two (-400) ≤ V n
  sq : Nr (V n * V n) (V p * V p + V q * V q + V r * V r) (63 / 10 * U * (V p * V p + V q * V q + V r * V r))
theorem md_sq {x : Rat} (h : Md x) : x * x ≤ two 600 ∧ (x = 0 ∨ two (-600) ≤ x * x) := by
  rcases h with h | ⟨h1, h2⟩
  · rw [h]; have := two_pos 600; exact ⟨by grind, .inl rfl⟩
  · have a0 := (ab_le x).2.2
    rw [← ab_sq]
    have e1 : two 600 = two 300 * two 300 := by rw [← two_add]; rfl
    have e2 : two (-600) = two (-300) * two (-300) := by rw [← two_add]; rfl
    rw [e1, e2]
    exact ⟨mul_le_both a0 a0 h2 h2, .inr (mul_le_both (Rat.le_of_lt (two_pos _)) (Rat.le_of_lt (two_pos _)) h1 h1)⟩
theorem len_ok {p q r : Nat} (fp : Fn p) (fq : Fn q) (fr : Fn r) (mp : Md (V p)) (mq : Md (V q)) (mr : Md (V r)) : ∃ n, Tr.vl ⟨some p, some q, some r⟩ = some n ∧ LenOk p q r n := by
  obtain ⟨n, hn, fn, n0, s1, s2⟩ := len_err fp fq fr mp mq mr
  have hU := U_pos
  have hU1 : U ≤ 1 / 100000 := by decide +kernel
  have pp := sq_nonneg (V p)
  have qq := sq_nonneg (V q)
  have rr := sq_nonneg (V r)
  obtain ⟨p1, p2⟩ := md_sq mp
  obtain ⟨q1, q2⟩ := md_sq mq
  obtain ⟨r1, r2⟩ := md_sq mr
  have hT := Rat.mul_le_mul_of_nonneg_right hU1 (show 0 ≤ V p * V p + V q * V q + V r * V r by grind)
  refine ⟨n, hn, fp, fq, fr, fn, n0, ?_, ?_, ⟨s1, s2⟩⟩
  · have e : 4 * two 600 ≤ two 390 * two 390 := by decide +kernel
    exact (abs_le_of_sq (x := V n) (m := two 390) (Rat.le_of_lt (two_pos _)) (by grind)).1
  · by_cases h : V p * V p + V q * V q + V r * V r = 0
    · have z : V n * V n = 0 := by
        have := sq_nonneg (V n)
        rw [h] at s1
        grind
      have zz : ∀ {u : Rat}, u * u = 0 → u = 0 := fun {u} hu => by
        rcases Rat.mul_eq_zero.mp hu with h | h <;> exact h
      exact .inl ⟨zz z, zz (by grind), zz (by grind), zz (by grind)⟩
    · right
      have low : two (-600) ≤ V p * V p + V q * V q + V r * V r := by
        rcases p2 with h1 | h1
        · rcases q2 with h2 | h2
          · rcases r2 with h3 | h3
            · exfalso; apply h; rw [h1, h2, h3]; grind
            · grind
          · grind
        · grind
      have e : two (-400) * two (-400) ≤ 1 / 2 * two (-600) := by decide +kernel
      refine Rat.not_lt.mp fun hlt => ?_
      have k := mul_le_both n0 n0 (Rat.le_of_lt hlt) (Rat.le_of_lt hlt)
      have := two_pos (-600)
      grind
/-- What is near by 2046 roundings, is within. -/
theorem in_of {u v n : Nat} (fu : Fn u) (fv : Fn v) (fn : Fn n) (n0 : 0 ≤ V n) (n1 : V n ≤ two 400) (sc : V n = 0 ∨ two (-400) ≤ V n) (h : Nr (V u) (V v) (2046 * U * V n)) :
    InOk (Fl.fsub (some u) (some v)) (Fl.fmul (Fl.fl 4418031234450456576) (some n)) := by
  obtain ⟨hu, fo, vo⟩ := unit_w
  have hU := U_pos
  have hU1 : U ≤ 1 / 100000 := by decide +kernel
  have Un := Rat.mul_nonneg (Rat.le_of_lt hU) n0
  have U1 := Rat.mul_le_mul_of_nonneg_right hU1 n0
  have U2 := Rat.mul_le_mul_of_nonneg_left U1 (Rat.le_of_lt hU)
  have g : 100000 * two 400 ≤ two 900 := by decide +kernel
  obtain ⟨h1, h2⟩ := h
  obtain ⟨d, hd, fd, nd⟩ := sub_err fu fv (by grind) (by grind)
  obtain ⟨d1, d2⟩ := nd (2046 * (U * V n)) (by grind) (by grind)
  obtain ⟨m, hm, fm, mz, nm⟩ := mul_err fo fn (by rw [vo]; grind) (by rw [vo]; have := two_pos 900; grind)
  obtain ⟨m1, m2⟩ := nm (2048 * (U * V n)) (by rw [vo]; grind) (by rw [vo]; grind)
  rw [vo] at m1 m2 mz
  have e1 : U * (2046 * (U * V n)) = 2046 * (U * (U * V n)) := by grind
  have e2 : U * (2048 * (U * V n)) = 2048 * (U * (U * V n)) := by grind
  rw [e1] at d1 d2
  rw [e2] at m1 m2
  have low : 2047 * (U * V n) ≤ V m := by
    rcases sc with h | h
    · rw [mz (by rw [h]; grind), h]; grind
    · have k1 := Rat.mul_le_mul_of_nonneg_left h (Rat.le_of_lt hU)
      have k2 : two (-1075) ≤ 1 / 1000 * (U * two (-400)) := by decide +kernel
      grind
  refine ⟨d, m, hd, ?_, fd, fm, by grind, by grind⟩
  rw [hu]
  exact hm

/-- The chain's way back gives the vector again, within the told size. -/
theorem chain_good {l : List (Int × Int)} {p q r n : Nat} (hs : ∀ s ∈ l, 0 ≤ s.1 ∧ s.1 ≤ 2) (hn : l.length ≤ 60) (hl : LenOk p q r n) :
    InOk (Fl.fsub (againstF l (alongF l ⟨some p, some q, some r⟩)).x (some p)) (Fl.fmul (Fl.fl 4418031234450456576) (some n)) ∧
    InOk (Fl.fsub (againstF l (alongF l ⟨some p, some q, some r⟩)).y (some q)) (Fl.fmul (Fl.fl 4418031234450456576) (some n)) ∧
    InOk (Fl.fsub (againstF l (alongF l ⟨some p, some q, some r⟩)).z (some r)) (Fl.fmul (Fl.fl 4418031234450456576) (some n)) := by
  obtain ⟨fp, fq, fr, fn, n0, n1, sc, sq⟩ := hl
  have hU := U_pos
  have hU1 : U ≤ 1 / 100000000 := by decide +kernel
  obtain ⟨m, hm⟩ : ∃ m, m = (1 + 4 * U) * V n := ⟨_, rfl⟩
  have Un := Rat.mul_nonneg (Rat.le_of_lt hU) n0
  have Un1 := Rat.mul_le_mul_of_nonneg_right hU1 n0
  have Un2 := Rat.mul_le_mul_of_nonneg_left Un1 (Rat.le_of_lt hU)
  have m0 : 0 ≤ m := by rw [hm]; grind
  have nn := Rat.mul_nonneg n0 n0
  obtain ⟨T, hT⟩ : ∃ T, V p * V p + V q * V q + V r * V r = T := ⟨_, rfl⟩
  have T0 : 0 ≤ T := by
    have pp := sq_nonneg (V p)
    have qq := sq_nonneg (V q)
    have rr := sq_nonneg (V r)
    grind
  rw [hT] at sq
  have hTm : T ≤ m * m := by
    obtain ⟨s1, s2⟩ := sq
    have UT := Rat.mul_nonneg (Rat.le_of_lt hU) T0
    have k1 := Rat.mul_le_mul_of_nonneg_right hU1 T0
    have k2 := Rat.mul_le_mul_of_nonneg_right hU1 UT
    have Unn := Rat.mul_nonneg (Rat.le_of_lt hU) nn
    have e : m * m = V n * V n + 8 * (U * (V n * V n)) + 16 * (U * (U * (V n * V n))) := by rw [hm]; grind
    have k3 := Rat.mul_nonneg (Rat.le_of_lt hU) Unn
    have k4 := Rat.mul_le_mul_of_nonneg_left (show T - 63 / 10 * (U * T) ≤ V n * V n by grind) (Rat.le_of_lt hU)
    grind
  have g3' : 2 * two 390 ≤ two 400 := by decide +kernel
  have g39 := two_pos 390
  have g4 : two 400 ≤ two 600 := by decide +kernel
  have g6 : two 600 ≤ two 700 := by decide +kernel
  have m4 : m ≤ two 400 := by grind
  have n4 : V n ≤ two 400 := by grind
  have g5 : two (-700) ≤ two (-400) := two_le (by decide)
  have scm : (m = 0 ∧ V p = 0 ∧ V q = 0 ∧ V r = 0) ∨ two (-700) ≤ m := by
    rcases sc with ⟨h1, h2⟩ | h1
    · exact .inl ⟨by rw [hm, h1]; grind, h2⟩
    · right; grind
  have hl60 : (l.length : Rat) ≤ 60 := by
    have : ((l.length : Nat) : Rat) ≤ ((60 : Nat) : Rat) := rat_le hn
    have c : ((60 : Nat) : Rat) = 60 := rfl
    rw [c] at this; exact this
  have l0 := nat_nonneg l.length
  have h600 := two_pos 600
  have hlt := Rat.mul_le_mul_of_nonneg_right hl60 (Rat.le_of_lt h600)
  obtain ⟨a, b, c, x, y, z, h1, h2, fx, fy, fz, hL⟩ := chain_ok l p q r m hs ⟨fp, fq, fr, ⟨m0, by rw [hT]; exact hTm⟩, by grind, scm⟩ hn (by grind)
  rw [h1, h2]
  have hL' := hL.le (f := 2046 * U * V n) (by
    have Um := Rat.mul_nonneg (Rat.le_of_lt hU) m0
    have eUm : U * m = U * V n + 4 * (U * (U * V n)) := by rw [hm]; grind
    have g := Rat.mul_le_mul_of_nonneg_right hl60 (show 0 ≤ 30 * U * m by grind)
    grind)
  obtain ⟨⟨x1, x2⟩, ⟨y1, y2⟩, ⟨z1, z2⟩⟩ := hL'.comp
  have sc' : V n = 0 ∨ two (-400) ≤ V n := sc.imp (fun h => h.1) id
  exact ⟨in_of fx fp fn n0 n4 sc' ⟨x1, by grind⟩, in_of fy fq fn n0 n4 sc' ⟨y1, by grind⟩, in_of fz fr fn n0 n4 sc' ⟨z1, by grind⟩⟩
end Go.Fe
