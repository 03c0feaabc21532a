/- Orders of floats; Kepler: a root is enclosed: plain. Nothing of a program stands here. -/
import Derived.Test.YtaakbajhbmbhcaaDoorFe7
set_option linter.unusedSimpArgs false
set_option linter.unusedVariables false
namespace Go.Fe
open Ieee

/-! Orders of finite words. -/
theorem order_num (s t : Bool) (m n : Nat) (i j : Int) : (Datum.number s m i).order (.number t n j) = some (if Vd (.number s m i) < Vd (.number t n j) then .lt else if Vd (.number s m i) = Vd (.number t n j) then .eq else .gt) := by
  unfold Datum.order
  simp only
  obtain ⟨base, hb⟩ : ∃ base, min i j = base := ⟨_, rfl⟩
  rw [hb]
  have e1 := signed_val s m i base (by omega)
  have e2 := signed_val t n j base (by omega)
  have f1 : Vd (.number s m i) = (signed s m (i - base).toNat : Rat) * two base := e1.symm
  have f2 : Vd (.number t n j) = (signed t n (j - base).toNat : Rat) * two base := e2.symm
  rw [f1, f2]
  generalize signed s m (i - base).toNat = a
  generalize signed t n (j - base).toNat = b
  have hp := two_pos base
  congr 1
  rcases Int.lt_trichotomy a b with h | h | h
  · have h1 : (a : Rat) + 1 ≤ (b : Rat) := by have := rat_int (show a + 1 ≤ b by omega); rw [Rat.intCast_add] at this; exact this
    have h2 := Rat.mul_le_mul_of_nonneg_right h1 (Rat.le_of_lt hp)
    rw [if_pos (by grind)]
    exact Int.compare_eq_lt.2 h
  · subst h
    rw [if_neg (by grind), if_pos rfl]
    exact Int.compare_eq_eq.2 rfl
  · have h1 : (b : Rat) + 1 ≤ (a : Rat) := by have := rat_int (show b + 1 ≤ a by omega); rw [Rat.intCast_add] at this; exact this
    have h2 := Rat.mul_le_mul_of_nonneg_right h1 (Rat.le_of_lt hp)
    rw [if_neg (by grind), if_neg (by grind)]
    exact Int.compare_eq_gt.2 h
theorem order_val {a b : Nat} (ha : Fn a) (hb : Fn b) : double.order a b = some (if V a < V b then .lt else if V a = V b then .eq else .gt) := by
  obtain ⟨s, m, i, e1, _⟩ := ha
  obtain ⟨t, n, j, e2, _⟩ := hb
  unfold Format.order V
  rw [e1, e2]
  exact order_num s t m n i j
theorem fle_val {a b : Nat} (ha : Fn a) (hb : Fn b) : Fl.fle (some a) (some b) = decide (V a ≤ V b) := by
  have h : Fl.ford (some a) (some b) = some (if V a < V b then .lt else if V a = V b then .eq else .gt) := order_val ha hb
  unfold Fl.fle
  rw [h]
  by_cases h1 : V a < V b
  · rw [if_pos h1]; simp; grind
  · by_cases h2 : V a = V b
    · rw [if_neg h1, if_pos h2]; simp; grind
    · rw [if_neg h1, if_neg h2]; simp; grind
theorem flt_val {a b : Nat} (ha : Fn a) (hb : Fn b) : Fl.flt (some a) (some b) = decide (V a < V b) := by
  have h : Fl.ford (some a) (some b) = some (if V a < V b then .lt else if V a = V b then .eq else .gt) := order_val ha hb
  unfold Fl.flt
  rw [h]
  by_cases h1 : V a < V b
  · rw [if_pos h1]; simp; grind
  · by_cases h2 : V a = V b
    · rw [if_neg h1, if_pos h2]; simp; grind
    · rw [if_neg h1, if_neg h2]; simp; grind
/-- What halving finds. -/
theorem bis_spec (f : Int → Bool) : ∀ (n : Nat) (lo hi : Int), lo < hi → (hi - lo).toNat ≤ n → lo ≤ Tr.bis f lo hi ∧ Tr.bis f lo hi < hi ∧ (Tr.bis f lo hi = lo ∨ f (Tr.bis f lo hi) = true) ∧ (Tr.bis f lo hi + 1 = hi ∨ f (Tr.bis f lo hi + 1) = false)
  | 0, lo, hi, h, hn => by omega
  | n + 1, lo, hi, h, hn => by
    by_cases hg : hi - lo > 1
    · cases hf : f ((lo + hi) / 2) with
      | true =>
        rw [Tr.bis_up hg hf]
        obtain ⟨a, b, c, d⟩ := bis_spec f n ((lo + hi) / 2) hi (by omega) (by omega)
        exact ⟨by omega, b, .inr (c.elim (fun e => by rw [e]; exact hf) id), d⟩
      | false =>
        rw [Tr.bis_down hg hf]
        obtain ⟨a, b, c, d⟩ := bis_spec f n lo ((lo + hi) / 2) (by omega) (by omega)
        exact ⟨a, by omega, c, .inr (d.elim (fun e => by rw [e]; exact hf) id)⟩
    · rw [Tr.bis_done hg]
      exact ⟨Int.le_refl _, h, .inl rfl, .inl (by omega)⟩
/-! Kepler's equation. -/
def kfE (E M : Option Nat) (k : Int) : Option Nat := Fl.fsub (Fl.fsub (Fl.fmul (Tr.ofI k) (Fl.fl 4437543736006956352)) (Fl.fmul E (Tr.sinA k))) M
theorem ofI_turn {n : Int} (h1 : 0 ≤ n) (h2 : n ≤ 1296000000000) : Ap (Tr.ofI n) (n : Rat) 0 1296000000000 := by
  obtain ⟨w, e1, e2, e3⟩ := ofI_val (n := n) (by omega)
  rw [e1, ← e3]
  have q1 := rat_int h1
  have q2 := rat_int h2
  refine Ap.word e2 ?_ ?_
  · rw [e3]; exact q2
  · rw [e3]
    refine Rat.le_trans ?_ q1
    decide
theorem turn_ap {n : Int} (h1 : 0 ≤ n) (h2 : n ≤ 1296000000000) : Ap (Fl.fmul (Tr.ofI n) (Fl.fl 4437543736006956352)) ((n : Rat) * rad) (7 / 10000000000000000) (62832 / 10000) :=
  Ap.mul (ofI_turn h1 h2) (Ap.const (w := 4437543736006956352) (A := rad) (by decide +kernel) Rat.le_refl (by decide +kernel)) (by decide +kernel) (by decide +kernel) (by decide +kernel)
/-- The part ahead of the mean. -/
theorem kep_part {p : Nat} (hp : Fn p) (h0 : 0 ≤ V p) (h1 : V p ≤ 1) {k : Int} (k0 : 0 ≤ k) (k1 : k ≤ 1296000000000) :
    ∃ s a, Tr.sinA k = some s ∧ Fn s ∧ Fl.fsub (Fl.fmul (Tr.ofI k) (Fl.fl 4437543736006956352)) (Fl.fmul (some p) (Tr.sinA k)) = some a ∧ Fn a ∧ Nr (V a) ((k : Rat) * rad - V p * V s) (18 / 10000000000000000) ∧ V a ≤ 8 ∧ -8 ≤ V a := by
  obtain ⟨e0, hs1, hs2, s, hs, fs, ⟨n1, n2⟩⟩ := sin_ap k
  have S : Ap (Tr.sinA k) (V s) 0 (134 / 100) := by rw [hs]; exact Ap.word fs (by grind) (by grind)
  have E : Ap (some p) (V p) 0 1 := Ap.word hp h1 (by grind)
  have W : Ap (Fl.fmul (some p) (Tr.sinA k)) (V p * V s) (2 / 10000000000000000) (134 / 100) := Ap.mul E S (by decide +kernel) (by decide +kernel) (by decide +kernel)
  have A : Ap (Fl.fsub (Fl.fmul (Tr.ofI k) (Fl.fl 4437543736006956352)) (Fl.fmul (some p) (Tr.sinA k))) ((k : Rat) * rad - V p * V s) (18 / 10000000000000000) (79 / 10) := Ap.sub (turn_ap k0 k1) W (by decide +kernel) (by decide +kernel) (by decide +kernel)
  obtain ⟨_, u1, u2, a, ha, fa, ⟨m1, m2⟩⟩ := A
  exact ⟨s, a, hs, fs, ha, fa, ⟨m1, m2⟩, by grind, by grind⟩
theorem sub_sign {a m f : Nat} (ha : Fn a) (hm : Fn m) (hf : Fl.fsub (some a) (some m) = some f) (b1 : V a - V m ≤ 100) (b2 : -(V a - V m) ≤ 100) : Fn f ∧ (V a - V m ≤ 0 → V f ≤ 0) ∧ (∀ D, 0 ≤ D → -D ≤ V a - V m → -(D * (1 + U)) ≤ V f) := by
  have hb := big_900
  obtain ⟨r, hr, rf, rn⟩ := sub_err ha hm (by grind) (by grind)
  have e : some r = some f := by rw [← hr]; exact hf
  cases e
  have hU := U_pos
  have hU1 : U ≤ 1 := by decide +kernel
  refine ⟨rf, fun h => ?_, fun D h0 h => ?_⟩
  · obtain ⟨r1, r2⟩ := rn (-(V a - V m)) (by grind) (by grind)
    have := Rat.mul_nonneg (show 0 ≤ 1 - U by grind) (show 0 ≤ -(V a - V m) by grind)
    grind
  · by_cases hs : 0 ≤ V a - V m
    · obtain ⟨r1, r2⟩ := rn (V a - V m) (by grind) (by grind)
      have q1 := Rat.mul_nonneg (show 0 ≤ 1 - U by grind) hs
      have q2 := Rat.mul_nonneg h0 (show 0 ≤ 1 + U by grind)
      grind
    · obtain ⟨r1, r2⟩ := rn (-(V a - V m)) (by grind) (by grind)
      have q1 := Rat.mul_le_mul_of_nonneg_right (show -(V a - V m) ≤ D by grind) (show 0 ≤ 1 + U by grind)
      grind
theorem fn_zero : Fn 0 := fn_of (by decide +kernel)
theorem V_zero : V 0 = 0 := by decide +kernel
theorem sin_zero : Tr.sinA 0 = some 0 := by decide +kernel
theorem sin_turn : Tr.sinA 1296000000000 = some 0 := by decide +kernel
theorem turn_zero : Fl.fmul (Tr.ofI 0) (Fl.fl 4437543736006956352) = some 0 := by decide +kernel
theorem kep_zero {p a : Nat} (hp : Fn p) (h : Fl.fsub (Fl.fmul (Tr.ofI 0) (Fl.fl 4437543736006956352)) (Fl.fmul (some p) (Tr.sinA 0)) = some a) : V a = 0 := by
  rw [turn_zero, sin_zero] at h
  have z : V p * V 0 = 0 := by rw [V_zero, Rat.mul_zero]
  have h9 : (0 : Rat) ≤ two 900 := Rat.le_of_lt (two_pos _)
  obtain ⟨r, hr, rf, rz, _⟩ := mul_err hp fn_zero (by rw [z]; exact h9) (by rw [z]; simpa using h9)
  have hr2 : Fl.fmul (some p) (some 0) = some r := hr
  rw [hr2] at h
  have z2 : V 0 - V r = 0 := by rw [V_zero, rz z]; grind
  obtain ⟨q, hq, qf, qn⟩ := sub_err fn_zero rf (by rw [z2]; exact h9) (by rw [z2]; simpa using h9)
  have hq2 : some q = some a := by rw [← hq]; exact h
  cases hq2
  obtain ⟨n1, n2⟩ := qn 0 (by rw [z2]; exact Rat.le_refl) (by rw [z2]; grind)
  rw [z2, Rat.mul_zero] at n1 n2
  grind
theorem mean_ap (m : Int) : ∃ w, Fl.fmul (Tr.ofI (Tr.nrm m)) (Fl.fl 4437543736006956352) = some w ∧ Fn w ∧ Nr (V w) ((Tr.nrm m : Rat) * rad) (7 / 10000000000000000) ∧ 0 ≤ V w ∧ V w ≤ 63 / 10 := by
  have hn : 0 ≤ Tr.nrm m ∧ Tr.nrm m < 1296000000000 := by unfold Tr.nrm; omega
  obtain ⟨e0, u1, u2, w, hw, fw, ⟨n1, n2⟩⟩ := turn_ap hn.1 (Int.le_of_lt hn.2)
  refine ⟨w, hw, fw, ⟨n1, n2⟩, ?_, by grind⟩
  by_cases h : Tr.nrm m = 0
  · rw [h, turn_zero] at hw
    cases hw
    rw [V_zero]
    exact Rat.le_refl
  · have h1 := Rat.mul_le_mul_of_nonneg_right (rat_int (show 1 ≤ Tr.nrm m by omega)) (Rat.le_of_lt rad_pos)
    have h2 : (7 / 10000000000000000 : Rat) ≤ rad := by decide +kernel
    have h3 : ((1 : Int) : Rat) * rad = rad := by rw [show ((1 : Int) : Rat) = 1 from rfl, Rat.one_mul]
    rw [h3] at h1
    grind
/-- A root is enclosed. -/
theorem kep_enclosed {p w : Nat} {m : Int} (hp : Fn p) (h0 : 0 ≤ V p) (h1 : V p ≤ 1) (hw : Fl.fmul (Tr.ofI (Tr.nrm m)) (Fl.fl 4437543736006956352) = some w) :
    ∃ f, kfE (some p) (some w) (Tr.bis (fun k => Fl.fle (kfE (some p) (some w) k) (some 0)) 0 1296000000000) = some f ∧ Fn f ∧ V f ≤ 0 ∧ -(2 * rad + 9 / 1000000000000000) ≤ V f := by
  obtain ⟨w', hw', fw, ⟨w1, w2⟩, w3, w4⟩ := mean_ap m
  rw [hw] at hw'
  cases hw'
  obtain ⟨x0, x1, x2, x3⟩ := bis_spec (fun k => Fl.fle (kfE (some p) (some w) k) (some 0)) 1296000000000 0 1296000000000 (by decide) (by decide)
  generalize Tr.bis (fun k => Fl.fle (kfE (some p) (some w) k) (some 0)) 0 1296000000000 = x at x0 x1 x2 x3 ⊢
  obtain ⟨s0, a0, hs0, fs0, ha0, fa0, ⟨p1, p2⟩, p3, p4⟩ := kep_part hp h0 h1 x0 (Int.le_of_lt x1)
  obtain ⟨s1, a1, hs1, fs1, ha1, fa1, ⟨q1, q2⟩, q3, q4⟩ := kep_part hp h0 h1 (show 0 ≤ x + 1 by omega) (show x + 1 ≤ 1296000000000 by omega)
  have hb := big_900
  obtain ⟨f0, hf0, ff0, _⟩ := sub_err fa0 fw (by grind) (by grind)
  obtain ⟨f1, hf1, ff1, _⟩ := sub_err fa1 fw (by grind) (by grind)
  have k0 : kfE (some p) (some w) x = some f0 := by unfold kfE; rw [ha0]; exact hf0
  have k1 : kfE (some p) (some w) (x + 1) = some f1 := by unfold kfE; rw [ha1]; exact hf1
  obtain ⟨_, g1, g2⟩ := sub_sign fa0 fw hf0 (by grind) (by grind)
  obtain ⟨_, g3, _⟩ := sub_sign fa1 fw hf1 (by grind) (by grind)
  refine ⟨f0, k0, ff0, ?_, ?_⟩
  · rcases x2 with e | e
    · subst e
      refine g1 ?_
      rw [kep_zero hp ha0]
      grind
    · simp only [k0] at e
      rw [fle_val ff0 fn_zero, V_zero] at e
      simpa using e
  · have up : 0 < V a1 - V w := by
      rcases x3 with e | e
      · have hx : x + 1 = 1296000000000 := e
        rw [hx] at hs1 q1 q2
        rw [sin_turn] at hs1
        cases hs1
        rw [V_zero] at q1 q2
        have hn : Tr.nrm m ≤ 1295999999999 := by unfold Tr.nrm; omega
        have h5 := Rat.mul_le_mul_of_nonneg_right (rat_int hn) (Rat.le_of_lt rad_pos)
        have h6 : ((1296000000000 : Int) : Rat) * rad = ((1295999999999 : Int) : Rat) * rad + rad := by
          rw [show ((1296000000000 : Int) : Rat) = ((1295999999999 : Int) : Rat) + 1 by decide +kernel]; grind
        have h7 : (30 / 10000000000000000 : Rat) ≤ rad := by decide +kernel
        rw [h6] at q1 q2
        grind
      · simp only [k1] at e
        rw [fle_val ff1 fn_zero, V_zero] at e
        have e2 : ¬ V f1 ≤ 0 := by simpa using e
        by_cases h : V a1 - V w ≤ 0
        · exact absurd (g3 h) e2
        · grind
    obtain ⟨t1, t2⟩ := sin_step x0 x1 hs0 hs1
    have e1 : ((x + 1 : Int) : Rat) * rad = (x : Rat) * rad + rad := by rw [Rat.intCast_add]; show ((x : Rat) + 1) * rad = _; grind
    obtain ⟨v1, v2⟩ := mul_size (a := V p) (b := V s1 - V s0) (A := 1) (B := rad * (100001 / 100000) + 68 / 100000000000000000) h1 (by grind) t1 (by grind)
    have hr := rad_pos
    have hD := g2 (rad + (rad * (100001 / 100000) + 68 / 100000000000000000) + 36 / 10000000000000000) (by grind) (by
      rw [e1] at q1 q2
      generalize (x : Rat) * rad = xr at p1 p2 q1 q2
      clear g1 g2 g3 hf0 hf1 k0 k1 ha0 ha1
      grind)
    have hfin : (rad + (rad * (100001 / 100000) + 68 / 100000000000000000) + 36 / 10000000000000000) * (1 + U) ≤ 2 * rad + 9 / 1000000000000000 := by decide +kernel
    grind
end Go.Fe
