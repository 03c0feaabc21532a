/- Twice a float: exact. Nothing of a program stands here. -/
import Derived.Test.YtdnclgpjcgamgaaDoorFe16
set_option linter.unusedSimpArgs false
set_option linter.unusedVariables false
namespace Go.Fe
open Ieee

/-! Twice a float: exact. -/
theorem read_small {w : Nat} {s : Bool} {m : Nat} {i : Int} (h : double.read w = .number s m i) : m < 9007199254740992 := by
  obtain ⟨f1, f2, f3, f4, f5⟩ := dbl
  unfold Format.read at h
  simp only [f1, f2, f3, f4, f5] at h
  by_cases h1 : w % 9223372036854775808 < 4503599627370496
  · rw [if_pos h1] at h
    injection h with _ h2 _
    omega
  · rw [if_neg h1] at h
    by_cases h3 : w % 9223372036854775808 < 9218868437227405312
    · rw [if_pos h3] at h
      injection h with _ h2 _
      omega
    · rw [if_neg h3] at h
      by_cases h4 : w % 9223372036854775808 = 9218868437227405312
      · rw [if_pos h4] at h; cases h
      · rw [if_neg h4] at h; cases h
theorem kept_of {k n : Nat} {t : Rat} (ht : 0 < t) (h1 : (k : Rat) * (2 * t) ≤ (n : Rat) * (2 * t) + t) (h2 : (n : Rat) * (2 * t) ≤ (k : Rat) * (2 * t) + t) : k = n := by
  rcases Nat.lt_trichotomy k n with h | h | h
  · exfalso
    have h3 : ((k + 1 : Nat) : Rat) ≤ (n : Rat) := rat_le h
    rw [Rat.natCast_add] at h3
    have c1 : ((1 : Nat) : Rat) = 1 := rfl
    rw [c1] at h3
    have h4 := Rat.mul_le_mul_of_nonneg_right h3 (show 0 ≤ 2 * t by grind)
    grind
  · exact h
  · exfalso
    have h3 : ((n + 1 : Nat) : Rat) ≤ (k : Rat) := rat_le h
    rw [Rat.natCast_add] at h3
    have c1 : ((1 : Nat) : Rat) = 1 := rfl
    rw [c1] at h3
    have h4 := Rat.mul_le_mul_of_nonneg_right h3 (show 0 ≤ 2 * t by grind)
    grind
theorem read_2 : double.read 4611686018427387904 = .number false 4503599627370496 (-51) := by decide +kernel
theorem mul_two {x : Nat} (hx : Fn x) (hb : V x ≤ two 800) (hb2 : -V x ≤ two 800) : ∃ r, Fl.fmul (Fl.fl 4611686018427387904) (some x) = some r ∧ Fn r ∧ V r = 2 * V x := by
  obtain ⟨s, m, i, hr, hi⟩ := hx
  have hm := read_small hr
  have hvx : V x = sg s * ((m : Rat) * two i) := by unfold V; rw [hr]; unfold Vd; grind
  have e1 : Fl.fl 4611686018427387904 = some 4611686018427387904 := by decide +kernel
  rw [e1]
  show ∃ r, double.mul 4611686018427387904 x = some r ∧ _
  have hmul : double.mul 4611686018427387904 x = some (double.nearest s (4503599627370496 * m) (-51 + i)) := by
    unfold Format.mul
    rw [read_2, hr]
    show some (double.write (.number (false ^^ s) (4503599627370496 * m) (-51 + i))) = _
    rw [Bool.false_xor]
    rfl
  refine ⟨_, hmul, ?_⟩
  have X0 : 0 ≤ (m : Rat) * two i := Rat.mul_nonneg (nat_nonneg _) (Rat.le_of_lt (two_pos _))
  have ev : ((4503599627370496 * m : Nat) : Rat) * two (-51 + i) = 2 * ((m : Rat) * two i) := by
    have k : ((4503599627370496 : Nat) : Rat) * (two (-51 + i)) = two (i + 1) := by
      rw [show (4503599627370496 : Nat) = 2 ^ 52 by decide, two_nat_mul, show -51 + i + ((52 : Nat) : Int) = i + 1 by omega]
    rw [two_add i 1, two_one] at k
    rw [Rat.natCast_mul]
    grind
  have hbb : ((4503599627370496 * m : Nat) : Rat) * two (-51 + i) ≤ two 900 := by
    rw [ev]
    have g2 : (2 : Rat) * two 800 ≤ two 900 := by decide +kernel
    rcases sg_cases s with h | h <;> rw [hvx, h] at hb hb2 <;> grind
  rcases Nat.eq_zero_or_pos m with h0 | h0
  · subst h0
    obtain ⟨f, _, _, z⟩ := nearest_err s (4503599627370496 * 0) (-51 + i) hbb
    refine ⟨f, ?_⟩
    rw [z rfl, hvx]
    have c0 : ((0 : Nat) : Rat) = 0 := rfl
    rw [c0]
    grind
  · have hlog : (4503599627370496 * m).log2 = m.log2 + 52 := by
      rw [show (4503599627370496 : Nat) = 2 ^ 52 by decide, Nat.mul_comm]
      refine (Nat.log2_eq_iff (by omega)).2 ?_
      have l1 := Nat.log2_self_le (n := m) (by omega)
      have l2 := Nat.lt_log2_self (n := m)
      constructor
      · rw [Nat.pow_add]; exact Nat.mul_le_mul_right _ l1
      · rw [show m.log2 + 52 + 1 = (m.log2 + 1) + 52 by omega, Nat.pow_add]; exact Nat.mul_lt_mul_of_pos_right l2 (by decide)
    have hm52 : m.log2 ≤ 52 := by
      have := (Nat.log2_lt (n := m) (k := 53) (by omega)).2 (by omega)
      omega
    obtain ⟨last, kept, hl, hf, hv, h1, h2, _⟩ := nearest_main s (4503599627370496 * m) (-51 + i) (by omega) (two_lt_iff (Rat.le_trans (two_log (by omega) _) hbb))
    have hle : last ≤ i + 1 := by rcases hl with h | h <;> omega
    obtain ⟨d, hd⟩ : ∃ d : Nat, i + 1 = last + d := ⟨(i + 1 - last).toNat, by omega⟩
    have hval : 2 * ((m : Rat) * two i) = ((m * 2 ^ d : Nat) : Rat) * two last := by
      rw [Rat.natCast_mul, Rat.mul_assoc, two_nat_mul, ← hd, two_add, two_one]; grind
    have ht : two last = 2 * two (last - 1) := by rw [show last = (last - 1) + 1 by omega, two_add, two_one, show last - 1 + 1 - 1 = last - 1 by omega, Rat.mul_comm]
    rw [ev, hval] at h1 h2
    rw [ht] at h1 h2
    have hk := kept_of (two_pos (last - 1)) h1 h2
    refine ⟨hf, ?_⟩
    rw [hv, hk, hvx, Rat.mul_assoc, ← hval]
    grind
end Go.Fe
