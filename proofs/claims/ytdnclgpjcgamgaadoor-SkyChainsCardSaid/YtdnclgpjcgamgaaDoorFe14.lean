/- Any whole angle brought to the first quarter. Nothing of a program stands here. -/
import Derived.Test.YtdnclgpjcgamgaaDoorFe12
set_option linter.unusedSimpArgs false
set_option linter.unusedVariables false
namespace Go.Fe
open Ieee

/-! The angle of any point near a circle. -/
theorem fin_fn {w : Nat} (h : Fn w) : Tr.fin (some w) = true := by
  have z : V w - V w = 0 := by grind
  have h9 : (0 : Rat) ≤ two 900 := Rat.le_of_lt (two_pos _)
  obtain ⟨r, hr, rf, rn⟩ := sub_err h h (by rw [z]; exact h9) (by rw [z]; simpa using h9)
  obtain ⟨n1, n2⟩ := rn 0 (by rw [z]; exact Rat.le_refl) (by rw [z]; grind)
  have hv : V r = 0 := by rw [z, Rat.mul_zero] at n1 n2; grind
  have h1 : Fl.fsub (some w) (some w) = some r := hr
  unfold Tr.fin
  rw [h1]
  have h2 : Fl.ford (some r) (some 0) = some (if V r < V 0 then .lt else if V r = V 0 then .eq else .gt) := order_val rf fn_zero
  unfold Fl.feq
  rw [h2, hv, V_zero, if_neg (by decide +kernel), if_pos rfl]
  rfl
theorem feq_val {a : Nat} (ha : Fn a) : Fl.feq (some a) (some 0) = decide (V a = 0) := by
  have h2 : Fl.ford (some a) (some 0) = some (if V a < V 0 then .lt else if V a = V 0 then .eq else .gt) := order_val ha fn_zero
  unfold Fl.feq
  rw [h2, V_zero]
  by_cases h1 : V a < 0
  · rw [if_pos h1]; simp; grind
  · by_cases h3 : V a = 0
    · rw [if_neg h1, if_pos h3]; simp [h3]
    · rw [if_neg h1, if_neg h3]; simp [h3]
/-- What is above 0 of it. -/
theorem neg0_ap {w : Nat} {x e : Rat} (hf : Fn w) (hn : Nr (V w) x e) (e0 : 0 ≤ e) {y : Rat} (hy : 0 ≤ y) (hxy : (Fl.flt (some w) (some 0) = true → Nr (-x) y e) ∧ (Fl.flt (some w) (some 0) = false → Nr x y e)) (h1 : y ≤ 11 / 10) :
    ∃ u, Tr.fneg0 (some w) = some u ∧ Fn u ∧ Ap (some u) y (2 * e) (11 / 10) := by
  unfold Tr.fneg0
  obtain ⟨n1, n2⟩ := hn
  cases h : Fl.flt (some w) (some 0) with
  | true =>
    obtain ⟨p1, p2⟩ := hxy.1 h
    obtain ⟨nf, nv⟩ := neg_val hf
    refine ⟨_, rfl, nf, ⟨by grind, h1, by grind, _, rfl, nf, ⟨by rw [nv]; grind, by rw [nv]; grind⟩⟩⟩
  | false =>
    obtain ⟨p1, p2⟩ := hxy.2 h
    refine ⟨w, rfl, hf, ⟨by grind, h1, by grind, _, rfl, hf, ⟨by grind, by grind⟩⟩⟩
theorem sin_only_zero {t : Int} (t0 : 0 ≤ t) (t1 : t ≤ 324000000000) (h : sinR t ≤ 1 / 1000000000000) : t = 0 := by
  by_cases ht : t = 0
  · exact ht
  · exfalso
    have hz : sinR 0 = 0 := by decide +kernel
    obtain ⟨_, _, s, _⟩ := quarter_step (m := 0) (by omega) (by omega)
    have s1 := s (by omega)
    rw [hz, show (0 : Int) + 1 = 1 from rfl] at s1
    have mono : ∀ n : Nat, 1 + (n : Int) ≤ 324000000000 → sinR 1 ≤ sinR (1 + n) := by
      intro n
      induction n with
      | zero => intro _; exact Rat.le_refl
      | succ n ih =>
        intro hn
        have i := ih (by omega)
        obtain ⟨q, _⟩ := quarter_step (m := 1 + n) (by omega) (by omega)
        rw [show (1 + (n : Int) + 1) = 1 + ((n + 1 : Nat) : Int) by omega] at q
        grind
    have m1 := mono (t - 1).toNat (by omega)
    rw [show 1 + ((t - 1).toNat : Int) = t by omega] at m1
    have k : (1 / 1000000000000 : Rat) < rad * (69 / 100) := by decide +kernel
    grind
theorem cos_only_quarter {t : Int} (t0 : 0 ≤ t) (t1 : t ≤ 324000000000) (h : cosR t ≤ 1 / 1000000000000) : t = 324000000000 := by
  by_cases ht : t = 324000000000
  · exact ht
  · exfalso
    have hz : cosR 324000000000 = 0 := by decide +kernel
    obtain ⟨_, _, _, s⟩ := quarter_step (m := 323999999999) (by omega) (by omega)
    have s1 := s (by omega)
    rw [show (323999999999 : Int) + 1 = 324000000000 from rfl, hz] at s1
    have mono : ∀ n : Nat, 0 ≤ 323999999999 - (n : Int) → cosR 323999999999 ≤ cosR (323999999999 - n) := by
      intro n
      induction n with
      | zero => intro _; exact Rat.le_refl
      | succ n ih =>
        intro hn
        have i := ih (by omega)
        obtain ⟨_, q, _⟩ := quarter_step (m := 323999999999 - ((n + 1 : Nat) : Int)) (by omega) (by omega)
        rw [show (323999999999 - ((n + 1 : Nat) : Int) + 1) = 323999999999 - (n : Int) by omega] at q
        grind
    have m1 := mono (323999999999 - t).toNat (by omega)
    rw [show 323999999999 - ((323999999999 - t).toNat : Int) = t by omega] at m1
    have k : (1 / 1000000000000 : Rat) < rad * (69 / 100) := by decide +kernel
    grind
/-- Any whole angle, brought to the first quarter: which signs, which angle there. -/
structure Refl (n t : Int) (cx cy : Rat) : Prop where
  c : Nr (cosR n) (cx * cosR t) (1 / 1000000000000000)
  s : Nr (sinR n) (cy * sinR t) (1 / 1000000000000000)
theorem refl_of {n : Int} (h0 : 0 ≤ n) (h1 : n < 1296000000000) :
    (n ≤ 324000000000 ∧ Refl n n 1 1) ∨ (324000000000 < n ∧ n ≤ 648000000000 ∧ Refl n (648000000000 - n) (-1) 1) ∨
    (648000000000 < n ∧ n ≤ 972000000000 ∧ Refl n (n - 648000000000) (-1) (-1)) ∨ (972000000000 < n ∧ Refl n (1296000000000 - n) 1 (-1)) := by
  have same : ∀ {a b : Rat}, a = b → Nr a b (1 / 1000000000000000) := fun {a b} h => by
    subst h
    exact ⟨by have : (0 : Rat) ≤ 1 / 1000000000000000 := by decide +kernel
              grind, by have : (0 : Rat) ≤ 1 / 1000000000000000 := by decide +kernel
                        grind⟩
  have neg : ∀ a : Int, ((-a : Int) : Rat) * rad = -((a : Rat) * rad) := fun a => by rw [Rat.intCast_neg]; grind
  have nn : Tr.nrm n = n := by unfold Tr.nrm; omega
  by_cases a : n ≤ 324000000000
  · exact .inl ⟨a, ⟨same (by grind), same (by grind)⟩⟩
  by_cases b : n ≤ 648000000000
  · refine .inr (.inl ⟨by omega, b, ?_⟩)
    by_cases e : n = 486000000000
    · subst e; exact ⟨⟨by decide +kernel, by decide +kernel⟩, ⟨by decide +kernel, by decide +kernel⟩⟩
    obtain ⟨t, ht⟩ : ∃ t, 648000000000 - n = t := ⟨_, rfl⟩
    have nt : Tr.nrm t = t := by unfold Tr.nrm; omega
    rw [ht]
    by_cases f : n < 486000000000
    · have q1 : Tr.qrt n = 1 := by unfold Tr.qrt; rw [nn]; omega
      have q2 : Tr.qrt t = 1 := by unfold Tr.qrt; rw [nt]; omega
      have r1 : Tr.rst n = -(Tr.rst t) := by unfold Tr.rst; rw [nn, nt, q1, q2]; omega
      refine ⟨same ?_, same ?_⟩
      · unfold cosR quadR; rw [q1, q2, r1, neg, csR_neg, snR_neg]; show - -snR _ = -1 * -snR _; grind
      · unfold sinR quadR; rw [q1, q2, r1, neg, csR_neg, snR_neg]; show csR _ = 1 * csR _; grind
    · have q1 : Tr.qrt n = 2 := by unfold Tr.qrt; rw [nn]; omega
      have q2 : Tr.qrt t = 0 := by unfold Tr.qrt; rw [nt]; omega
      have r1 : Tr.rst n = -(Tr.rst t) := by unfold Tr.rst; rw [nn, nt, q1, q2]; omega
      refine ⟨same ?_, same ?_⟩
      · unfold cosR quadR; rw [q1, q2, r1, neg, csR_neg, snR_neg]; show -csR _ = -1 * csR _; grind
      · unfold sinR quadR; rw [q1, q2, r1, neg, csR_neg, snR_neg]; show - -snR _ = 1 * snR _; grind
  by_cases c : n ≤ 972000000000
  · refine .inr (.inr (.inl ⟨by omega, c, ?_⟩))
    obtain ⟨t, ht⟩ : ∃ t, n - 648000000000 = t := ⟨_, rfl⟩
    have nt : Tr.nrm t = t := by unfold Tr.nrm; omega
    rw [ht]
    by_cases f : t < 162000000000
    · have q1 : Tr.qrt n = 2 := by unfold Tr.qrt; rw [nn]; omega
      have q2 : Tr.qrt t = 0 := by unfold Tr.qrt; rw [nt]; omega
      have r1 : Tr.rst n = Tr.rst t := by unfold Tr.rst; rw [nn, nt, q1, q2]; omega
      refine ⟨same ?_, same ?_⟩
      · unfold cosR quadR; rw [q1, q2, r1]; show -csR _ = -1 * csR _; grind
      · unfold sinR quadR; rw [q1, q2, r1]; show -snR _ = -1 * snR _; grind
    · have q1 : Tr.qrt n = 3 := by unfold Tr.qrt; rw [nn]; omega
      have q2 : Tr.qrt t = 1 := by unfold Tr.qrt; rw [nt]; omega
      have r1 : Tr.rst n = Tr.rst t := by unfold Tr.rst; rw [nn, nt, q1, q2]; omega
      refine ⟨same ?_, same ?_⟩
      · unfold cosR quadR; rw [q1, q2, r1]; show snR _ = -1 * -snR _; grind
      · unfold sinR quadR; rw [q1, q2, r1]; show -csR _ = -1 * csR _; grind
  · refine .inr (.inr (.inr ⟨by omega, ?_⟩))
    by_cases e : n = 1134000000000
    · subst e; exact ⟨⟨by decide +kernel, by decide +kernel⟩, ⟨by decide +kernel, by decide +kernel⟩⟩
    obtain ⟨t, ht⟩ : ∃ t, 1296000000000 - n = t := ⟨_, rfl⟩
    have nt : Tr.nrm t = t := by unfold Tr.nrm; omega
    rw [ht]
    by_cases f : n < 1134000000000
    · have q1 : Tr.qrt n = 3 := by unfold Tr.qrt; rw [nn]; omega
      have q2 : Tr.qrt t = 1 := by unfold Tr.qrt; rw [nt]; omega
      have r1 : Tr.rst n = -(Tr.rst t) := by unfold Tr.rst; rw [nn, nt, q1, q2]; omega
      refine ⟨same ?_, same ?_⟩
      · unfold cosR quadR; rw [q1, q2, r1, neg, csR_neg, snR_neg]; show -snR _ = 1 * -snR _; grind
      · unfold sinR quadR; rw [q1, q2, r1, neg, csR_neg, snR_neg]; show -csR _ = -1 * csR _; grind
    · have q1 : Tr.qrt n = 4 := by unfold Tr.qrt; rw [nn]; omega
      have q2 : Tr.qrt t = 0 := by unfold Tr.qrt; rw [nt]; omega
      have r1 : Tr.rst n = -(Tr.rst t) := by unfold Tr.rst; rw [nn, nt, q1, q2]; omega
      refine ⟨same ?_, same ?_⟩
      · unfold cosR quadR; rw [q1, q2, r1, neg, csR_neg, snR_neg]; show csR _ = 1 * csR _; grind
      · unfold sinR quadR; rw [q1, q2, r1, neg, csR_neg, snR_neg]; show -snR _ = -1 * snR _; grind
end Go.Fe
