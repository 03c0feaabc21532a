/- A rotation keeps lengths and is undone by its way back, within a told unit. Nothing of a program stands here. -/
import Derived.Test.YtdnclgpjcgamgaaFe33
set_option linter.unusedSimpArgs false
set_option linter.unusedVariables false
namespace Go.Fe
open Ieee Fl

/-! A rotation keeps lengths, and is undone by its way back: within a told unit. -/
/-- A length against another's square. -/
theorem len_near {L n T m : Rat} (L0 : 0 ≤ L) (n0 : 0 ≤ n) (hm : m = (1 + 4 * U) * n) (h1 : Nr (L * L) T (143 * U * (m * m))) (h2 : Nr (n * n) T (63 / 10 * U * T)) (hT : T ≤ m * m) : Nr L n (100 * U * n) := by
  have hU := U_pos
  have hU1 : U ≤ 1 / 1000000 := by decide +kernel
  have nn := Rat.mul_nonneg n0 n0
  have Unn := Rat.mul_nonneg (Rat.le_of_lt hU) nn
  have k1 := Rat.mul_le_mul_of_nonneg_right hU1 nn
  have k2 := Rat.mul_le_mul_of_nonneg_right hU1 Unn
  have k3 := Rat.mul_nonneg (Rat.le_of_lt hU) Unn
  have mm : m * m ≤ 10001 / 10000 * (n * n) := by
    have e : m * m = n * n + 8 * (U * (n * n)) + 16 * (U * (U * (n * n))) := by rw [hm]; grind
    grind
  have k4 := Rat.mul_le_mul_of_nonneg_left mm (Rat.le_of_lt hU)
  have k5 := Rat.mul_le_mul_of_nonneg_left (Rat.le_trans hT mm) (Rat.le_of_lt hU)
  obtain ⟨a1, a2⟩ := h1
  obtain ⟨b1, b2⟩ := h2
  have d1 : L * L - n * n ≤ 150 * (U * (n * n)) := by grind
  have d2 : n * n - L * L ≤ 150 * (U * (n * n)) := by grind
  have low : 9 / 10 * n ≤ L := (abs_le_of_sq (x := 9 / 10 * n) L0 (by grind)).1
  rcases Rat.le_iff_lt_or_eq.mp n0 with hn | hn
  · constructor
    · refine Rat.not_lt.mp fun h => ?_
      have c0 : 0 ≤ U * n := Rat.mul_nonneg (Rat.le_of_lt hU) n0
      have c1 := mul_le_both (a := 100 * U * n) (b := 2 * n) (A := L - n) (B := L + n) (by grind) (by grind) (Rat.le_of_lt h) (by grind)
      have := Rat.mul_pos hU (Rat.mul_pos hn hn)
      grind
    · refine Rat.not_lt.mp fun h => ?_
      have c0 : 0 ≤ U * n := Rat.mul_nonneg (Rat.le_of_lt hU) n0
      have c1 := mul_le_both (a := 100 * U * n) (b := 19 / 10 * n) (A := n - L) (B := n + L) (by grind) (by grind) (Rat.le_of_lt h) (by grind)
      have := Rat.mul_pos hU (Rat.mul_pos hn hn)
      grind
  · subst hn
    have z : L * L = 0 := by have := sq_nonneg L; grind
    have : L = 0 := by rcases Rat.mul_eq_zero.mp z with h | h <;> exact h
    rw [this]
    exact ⟨by grind, by grind⟩
theorem le_of_hi {R : Rat} (h : Nr R 1 (100 * U)) : R ≤ 1 + 100 * U := by obtain ⟨h1, h2⟩ := h; grind
def appF (M : MatF) (v : V3) : V3 := ⟨Tr.dt M.a v, Tr.dt M.b v, Tr.dt M.c v⟩
/-- What a rotation does to a mild vector: its length is kept, the way back undoes it. -/
theorem turn_good {w x y z p q r n : Nat} (h : RotOk w x y z) (hl : LenOk p q r n) :
    InOk (Fl.fsub (Tr.vl (appF (matF (some w) (some x) (some y) (some z)) ⟨some p, some q, some r⟩)) (some n)) (Fl.fmul (Fl.fl 4400016835940974592) (some n)) ∧
    InOk (Fl.fsub (appF (matF (some w) (Fl.fneg (some x)) (Fl.fneg (some y)) (Fl.fneg (some z))) (appF (matF (some w) (some x) (some y) (some z)) ⟨some p, some q, some r⟩)).x (some p)) (Fl.fmul (Fl.fl 4400016835940974592) (some n)) ∧
    InOk (Fl.fsub (appF (matF (some w) (Fl.fneg (some x)) (Fl.fneg (some y)) (Fl.fneg (some z))) (appF (matF (some w) (some x) (some y) (some z)) ⟨some p, some q, some r⟩)).y (some q)) (Fl.fmul (Fl.fl 4400016835940974592) (some n)) ∧
    InOk (Fl.fsub (appF (matF (some w) (Fl.fneg (some x)) (Fl.fneg (some y)) (Fl.fneg (some z))) (appF (matF (some w) (some x) (some y) (some z)) ⟨some p, some q, some r⟩)).z (some r)) (Fl.fmul (Fl.fl 4400016835940974592) (some n)) := by
  obtain ⟨fp, fq, fr, fn, n0, n1, sc, sq⟩ := hl
  have hU := U_pos
  have hU1 : U ≤ 1 / 1000000 := by decide +kernel
  obtain ⟨m, hm⟩ : ∃ m, m = (1 + 4 * U) * V n := ⟨_, rfl⟩
  have Un := Rat.mul_nonneg (Rat.le_of_lt hU) n0
  have m0 : 0 ≤ m := by rw [hm]; grind
  have nn := Rat.mul_nonneg n0 n0
  have nm : V n ≤ m := by grind
  have mn : m ≤ 10001 / 10000 * V n := by
    have := Rat.mul_le_mul_of_nonneg_right hU1 n0
    grind
  obtain ⟨T, hT⟩ : ∃ T, V p * V p + V q * V q + V r * V r = T := ⟨_, rfl⟩
  have T0 : 0 ≤ T := by
    have pp := sq_nonneg (V p)
    have qq := sq_nonneg (V q)
    have rr := sq_nonneg (V r)
    grind
  rw [hT] at sq
  have hTm : T ≤ m * m := by
    obtain ⟨s1, s2⟩ := sq
    have UT := Rat.mul_nonneg (Rat.le_of_lt hU) T0
    have k1 := Rat.mul_le_mul_of_nonneg_right hU1 T0
    have k2 := Rat.mul_le_mul_of_nonneg_right hU1 UT
    have Unn := Rat.mul_nonneg (Rat.le_of_lt hU) nn
    have e : m * m = V n * V n + 8 * (U * (V n * V n)) + 16 * (U * (U * (V n * V n))) := by rw [hm]; grind
    have k3 := Rat.mul_nonneg (Rat.le_of_lt hU) Unn
    have k4 := Rat.mul_le_mul_of_nonneg_left (show T - 63 / 10 * (U * T) ≤ V n * V n by grind) (Rat.le_of_lt hU)
    grind
  have g3' : 2 * two 390 ≤ two 400 := by decide +kernel
  have g39 := two_pos 390
  have g4 : two 400 ≤ two 700 := by decide +kernel
  have m4 : m ≤ two 400 := by grind
  have n4 : V n ≤ two 400 := by grind
  have hm7 : m ≤ two 700 := by grind
  have g5 : two (-700) ≤ two (-400) := two_le (by decide)
  have scm : (m = 0 ∧ V p = 0 ∧ V q = 0 ∧ V r = 0) ∨ two (-700) ≤ m := by
    rcases sc with ⟨h1, h2⟩ | h1
    · exact .inl ⟨by rw [hm, h1]; grind, h2⟩
    · right; grind
  obtain ⟨rA, rB, rC⟩ := mat_rows h
  obtain ⟨s, t, u, hs, ht, hu, fs, ft, fu, ns, nt, nu⟩ := app_ok rA rB rC fp fq fr (by rw [hT]; exact hTm) hm7 scm
  -- what is turned
  have tsq := turned_sq (V w) (V x) (V y) (V z) (V p) (V q) (V r)
  have hk := h.k
  have b1 := back_1 (V w) (V x) (V y) (V z) (V p) (V q) (V r)
  have b2 := back_2 (V w) (V x) (V y) (V z) (V p) (V q) (V r)
  have b3 := back_3 (V w) (V x) (V y) (V z) (V p) (V q) (V r)
  obtain ⟨A, hA⟩ : ∃ A, r11 (V w) (V x) (V y) (V z) * V p + r12 (V w) (V x) (V y) (V z) * V q + r13 (V w) (V x) (V y) (V z) * V r = A := ⟨_, rfl⟩
  obtain ⟨B, hB⟩ : ∃ B, r21 (V w) (V x) (V y) (V z) * V p + r22 (V w) (V x) (V y) (V z) * V q + r23 (V w) (V x) (V y) (V z) * V r = B := ⟨_, rfl⟩
  obtain ⟨C, hC⟩ : ∃ C, r31 (V w) (V x) (V y) (V z) * V p + r32 (V w) (V x) (V y) (V z) * V q + r33 (V w) (V x) (V y) (V z) * V r = C := ⟨_, rfl⟩
  rw [hA, hB, hC] at tsq b1 b2 b3
  rw [hA] at ns
  rw [hB] at nt
  rw [hC] at nu
  rw [hT] at tsq
  have xx := sq_nonneg (V x)
  have yy := sq_nonneg (V y)
  have zz := sq_nonneg (V z)
  obtain ⟨S, hS⟩ : ∃ S, V x * V x + V y * V y + V z * V z = S := ⟨_, rfl⟩
  have S0 : 0 ≤ S := by grind
  -- the three gaps of the way back
  have kk : ∀ {t : Rat}, t * t ≤ S * m * (S * m) → Nr (4 * (1 - nrmQ (V w) (V x) (V y) (V z)) * t) 0 (91 * U * m) := fun {t} ht => near_k (s := S) (by rw [← hS]; exact hk) S0 m0 ht
  have hv' : V p * V p + V q * V q + V r * V r ≤ m * m := by rw [hT]; exact hTm
  have g1 := kk (t := -(V y * V y + V z * V z) * V p + V x * V y * V q + V z * V x * V r) (by rw [← hS]; exact k_row m0 hv')
  have g2 := kk (t := V x * V y * V p + -(V x * V x + V z * V z) * V q + V y * V z * V r) (by
    have k := k_row (x := V y) (y := V z) (z := V x) (a := V q) (b := V r) (c := V p) m0 (by grind)
    have e1 : V y * V y + V z * V z + V x * V x = S := by grind
    have e2 : -(V z * V z + V x * V x) * V q + V y * V z * V r + V x * V y * V p = V x * V y * V p + -(V x * V x + V z * V z) * V q + V y * V z * V r := by grind
    rw [e1, e2] at k; exact k)
  have g3 := kk (t := V z * V x * V p + V y * V z * V q + -(V x * V x + V y * V y) * V r) (by
    have k := k_row (x := V z) (y := V x) (z := V y) (a := V r) (b := V p) (c := V q) m0 (by grind)
    have e1 : V z * V z + V x * V x + V y * V y = S := by grind
    have e2 : -(V x * V x + V y * V y) * V r + V z * V x * V p + V y * V z * V q = V z * V x * V p + V y * V z * V q + -(V x * V x + V y * V y) * V r := by grind
    rw [e1, e2] at k; exact k)
  -- the size of what is turned
  have hNT : Nr (A * A + B * B + C * C) T (91 * U * (m * m)) := by
    obtain ⟨Q, hQ⟩ : ∃ Q, (V x * V p + V y * V q + V z * V r) * (V x * V p + V y * V q + V z * V r) = Q := ⟨_, rfl⟩
    have Q0 : 0 ≤ Q := by rw [← hQ]; exact sq_nonneg _
    have Q1 : Q ≤ S * T := by rw [← hQ, ← hS, ← hT]; exact cauchy _ _ _ _ _ _
    rw [hQ, hS] at tsq
    have ST : S * T ≤ S * (m * m) := Rat.mul_le_mul_of_nonneg_left hTm S0
    have k := near_k (s := S) (t := S * T - Q) (m := m * m) (by rw [← hS]; exact hk) S0 (Rat.mul_nonneg m0 m0) (mul_le_both (by grind) (by grind) (by grind) (by grind))
    obtain ⟨k1, k2⟩ := k
    rw [tsq]
    exact ⟨by grind, by grind⟩
  obtain ⟨ds, hds⟩ : ∃ d, V s - A = d := ⟨_, rfl⟩
  obtain ⟨dt', hdt⟩ : ∃ d, V t - B = d := ⟨_, rfl⟩
  obtain ⟨du, hdu⟩ : ∃ d, V u - C = d := ⟨_, rfl⟩
  obtain ⟨s1, s2⟩ := ns
  obtain ⟨t1, t2⟩ := nt
  obtain ⟨u1, u2⟩ := nu
  have s2' : -(125 / 10 * U * m) ≤ ds := by grind
  have t2' : -(125 / 10 * U * m) ≤ dt' := by grind
  have u2' : -(125 / 10 * U * m) ≤ du := by grind
  rw [hds] at s1
  rw [hdt] at t1
  rw [hdu] at u1
  have hsz := size_errs m0 rfl hNT hTm s1 s2' t1 t2' u1 u2'
  have es : A + ds = V s := by grind
  have et : B + dt' = V t := by grind
  have eu : C + du = V u := by grind
  rw [es, et, eu] at hsz
  have mm := Rat.mul_nonneg m0 m0
  have Umm := Rat.mul_nonneg (Rat.le_of_lt hU) mm
  have k1 := Rat.mul_le_mul_of_nonneg_right hU1 mm
  obtain ⟨z1, z2⟩ := hsz
  have hts : V s * V s + V t * V t + V u * V u ≤ 1001 / 1000 * m * (1001 / 1000 * m) := by grind
  have happ : appF (matF (some w) (some x) (some y) (some z)) ⟨some p, some q, some r⟩ = ⟨some s, some t, some u⟩ := by
    show (⟨_, _, _⟩ : V3) = _
    rw [hs, ht, hu]
  rw [happ]
  have sc' : V n = 0 ∨ two (-400) ≤ V n := sc.imp (fun h => h.1) id
  -- when the vector is nought, what is turned is nought
  have zero : m = 0 → V s = 0 ∧ V t = 0 ∧ V u = 0 := fun hz => by
    rw [hz] at hts
    have e0 : 1001 / 1000 * (0 : Rat) * (1001 / 1000 * 0) = 0 := by grind
    rw [e0] at hts
    have a := sq_nonneg (V s)
    have b := sq_nonneg (V t)
    have c := sq_nonneg (V u)
    have zz : ∀ {u : Rat}, u * u = 0 → u = 0 := fun {u} hu => by
      rcases Rat.mul_eq_zero.mp hu with h | h <;> exact h
    exact ⟨zz (by grind), zz (by grind), zz (by grind)⟩
  refine ⟨?_, ?_⟩
  · -- the length
    have m2 : m * m ≤ two 800 ∧ (m = 0 ∨ two (-800) ≤ m * m) := by
      constructor
      · exact Rat.le_trans (mul_le_both m0 m0 m4 m4) (by decide +kernel)
      · rcases sc with ⟨h1, _⟩ | h1
        · left; rw [hm, h1]; grind
        · right
          have e : two (-800) = two (-400) * two (-400) := by rw [← two_add]; rfl
          rw [e]
          exact mul_le_both (Rat.le_of_lt (two_pos _)) (Rat.le_of_lt (two_pos _)) (by grind) (by grind)
    have h8 : 2 * (two 400 * two 400) ≤ two 803 := by decide +kernel
    have hb8 : V s * V s + V t * V t + V u * V u ≤ two 800 := by
      have k := mul_le_both m0 m0 (show m ≤ 2 * two 390 by grind) (show m ≤ 2 * two 390 by grind)
      have e : 2 * (2 * two 390 * (2 * two 390)) ≤ two 800 := by decide +kernel
      grind
    obtain ⟨L, hL, fL, L0, l1, l2⟩ := len_s (s := m * m) fs ft fu rfl hb8 m2.1 (m2.2.imp (fun hz => by
      obtain ⟨zs, zt, zu⟩ := zero hz
      rw [hz, zs, zt, zu]
      exact ⟨by grind, by grind, by grind, by grind⟩) id)
    show InOk (Fl.fsub (Fl.fsqrt (Fl.fadd (Fl.fadd (Fl.fmul (some s) (some s)) (Fl.fmul (some t) (some t))) (Fl.fmul (some u) (some u)))) (some n)) _
    rw [hL]
    have UUm : U * U * (m * m) ≤ 1 / 1000000 * (U * (m * m)) := by
      have := Rat.mul_le_mul_of_nonneg_right hU1 Umm
      grind
    have hts2 := Rat.mul_le_mul_of_nonneg_left hts (Rat.le_of_lt hU)
    have hLn : Nr (V L * V L) T (143 * U * (m * m)) := ⟨by grind, by grind⟩
    have hn := len_near L0 n0 hm hLn sq hTm
    obtain ⟨a1, a2⟩ := hn
    exact in_of fL fn fn n0 n4 sc' ⟨by grind, by grind⟩
  · -- the way back
    obtain ⟨cA, cB, cC⟩ := mat_rows h.back
    obtain ⟨gx, vx⟩ := neg_val h.fx
    obtain ⟨gy, vy⟩ := neg_val h.fy
    obtain ⟨gz, vz⟩ := neg_val h.fz
    obtain ⟨e11, e12, e13, e21, e22, e23, e31, e32, e33⟩ := back_rows (V w) (V x) (V y) (V z)
    rw [vx, vy, vz] at cA cB cC
    rw [e11, e12, e13] at cA
    rw [e21, e22, e23] at cB
    rw [e31, e32, e33] at cC
    have sc7 : (1001 / 1000 * m = 0 ∧ V s = 0 ∧ V t = 0 ∧ V u = 0) ∨ two (-700) ≤ 1001 / 1000 * m := by
      rcases scm with ⟨h1, _⟩ | h1
      · exact .inl ⟨by rw [h1]; grind, zero h1⟩
      · right; grind
    have hm8 : 1001 / 1000 * m ≤ two 700 := by
      have : 2 * two 400 ≤ two 700 := by decide +kernel
      grind
    obtain ⟨o1, ho1, fo1, q1⟩ := row_dot cA fs ft fu hts hm8 sc7
    obtain ⟨o2, ho2, fo2, q2⟩ := row_dot cB fs ft fu hts hm8 sc7
    obtain ⟨o3, ho3, fo3, q3⟩ := row_dot cC fs ft fu hts hm8 sc7
    have ε0 : 0 ≤ 125 / 10 * U * m := by
      have := Rat.mul_nonneg (Rat.le_of_lt hU) m0
      grind
    have w1 := row_errs (le_of_hi cA.sq) ε0 s1 s2' t1 t2' u1 u2'
    have w2 := row_errs (le_of_hi cB.sq) ε0 s1 s2' t1 t2' u1 u2'
    have w3 := row_errs (le_of_hi cC.sq) ε0 s1 s2' t1 t2' u1 u2'
    have UmUn : U * m ≤ 10001 / 10000 * (U * V n) := by
      have := Rat.mul_le_mul_of_nonneg_left mn (Rat.le_of_lt hU)
      grind
    have hback : appF (matF (some w) (Fl.fneg (some x)) (Fl.fneg (some y)) (Fl.fneg (some z))) ⟨some s, some t, some u⟩ = ⟨some o1, some o2, some o3⟩ := by
      show (⟨_, _, _⟩ : V3) = _
      exact congr (congr (congrArg V3.mk ho1) ho2) ho3
    rw [hback]
    have fin : ∀ {o A0 B0 C0 v k : Rat}, Nr o (A0 * V s + B0 * V t + C0 * V u) (125 / 10 * U * (1001 / 1000 * m)) → Nr (A0 * ds + B0 * dt' + C0 * du) 0 (174 / 100 * (125 / 10 * U * m)) → A0 * A + B0 * B + C0 * C = v + k → Nr k 0 (91 * U * m) → Nr o v (127 * U * V n) := by
      intro o A0 B0 C0 v k h1 h2 h3 h4
      obtain ⟨a1, a2⟩ := h1
      obtain ⟨b1, b2⟩ := h2
      obtain ⟨c1, c2⟩ := h4
      have e : A0 * V s + B0 * V t + C0 * V u = (v + k) + (A0 * ds + B0 * dt' + C0 * du) := by rw [← h3, ← es, ← et, ← eu]; grind
      rw [e] at a1 a2
      generalize A0 * ds + B0 * dt' + C0 * du = W at *
      clear e h3
      exact ⟨by grind, by grind⟩
    exact ⟨in_of fo1 fp fn n0 n4 sc' (fin q1 w1 b1 g1), in_of fo2 fq fn n0 n4 sc' (fin q2 w2 b2 g2), in_of fo3 fr fn n0 n4 sc' (fin q3 w3 b3 g3)⟩
end Go.Fe
