/- A number of two words over one word: the digits, by guess and by setting right. Nothing of a program stands here. -/
import Derived.Test.YtlfpfeidaohjmaaDoorGrow
set_option linter.unusedSimpArgs false
set_option linter.unusedVariables false
namespace Go.Dv

structure Norm (y a b : Nat) : Prop where
  eq : y = a * 4294967296 + b
  lo : b < 4294967296
  ge : 2147483648 ≤ a
  lt : a < 4294967296
/-- A guess of a digit. -/
structure Inv (y a b u d q r : Nat) : Prop where
  sum : q * a + r = u
  ge : (u * 4294967296 + d) / y ≤ q
  le : q ≤ 4294967296 + 1
  lt : r < 4294967296
theorem Norm.pos {y a b : Nat} (h : Norm y a b) : 0 < y := by
  have h1 := h.eq
  have h2 := h.ge
  omega
theorem digit_lt {y a b u d : Nat} (h : Norm y a b) (hu : u < y) (hd : d < 4294967296) : (u * 4294967296 + d) / y < 4294967296 := by
  have h1 : u * 4294967296 + d < y * 4294967296 := by omega
  exact Nat.div_lt_of_lt_mul h1
theorem init {y a b u d : Nat} (h : Norm y a b) (hu : u < y) (hd : d < 4294967296) : Inv y a b u d (u / a) (u % a) := by
  have ha : 0 < a := by have := h.ge; omega
  refine ⟨by rw [Nat.mul_comm]; exact Nat.div_add_mod u a, ?_, ?_, ?_⟩
  · rw [Nat.le_div_iff_mul_le ha]
    have h1 : (u * 4294967296 + d) / y * y ≤ u * 4294967296 + d := Nat.div_mul_le_self _ _
    generalize (u * 4294967296 + d) / y = q at h1 ⊢
    rw [h.eq, Nat.mul_add, ← Nat.mul_assoc] at h1
    have h2 : q * a * 4294967296 < (u + 1) * 4294967296 := by rw [Nat.add_mul, Nat.one_mul]; omega
    have := Nat.lt_of_mul_lt_mul_right h2
    omega
  · have h1 : u / a < 4294967296 + 2 := by
      rw [Nat.div_lt_iff_lt_mul ha]
      have h2 := h.eq
      have h3 := h.lo
      have h4 := h.ge
      omega
    omega
  · exact Nat.lt_trans (Nat.mod_lt _ ha) h.lt
/-- The test says whether the guess is too large. -/
theorem test_iff {y a b u d q r : Nat} (h : Norm y a b) (hu : u < y) (hd : d < 4294967296) (i : Inv y a b u d q r) : (4294967296 ≤ q ∨ 4294967296 * r + d < q * b) ↔ (u * 4294967296 + d) / y < q := by
  have hq := digit_lt h hu hd
  have key : q * y ≤ u * 4294967296 + d ↔ q * b ≤ 4294967296 * r + d := by
    have e : q * y = q * a * 4294967296 + q * b := by rw [h.eq, Nat.mul_add, Nat.mul_assoc]
    have e2 : u * 4294967296 = q * a * 4294967296 + 4294967296 * r := by rw [← i.sum, Nat.add_mul, Nat.mul_comm r 4294967296]
    omega
  have k2 : q ≤ (u * 4294967296 + d) / y ↔ q * y ≤ u * 4294967296 + d := Nat.le_div_iff_mul_le h.pos
  constructor
  · rintro (h1 | h1)
    · omega
    · have : ¬ q ≤ (u * 4294967296 + d) / y := fun h2 => by have := key.1 (k2.1 h2); omega
      omega
  · intro h1
    right
    have : ¬ q * b ≤ 4294967296 * r + d := fun h2 => by have := k2.2 (key.2 h2); omega
    omega
theorem done {y a b u d q r : Nat} (i : Inv y a b u d q r) (h : ¬ (u * 4294967296 + d) / y < q) : q = (u * 4294967296 + d) / y := by
  have := i.ge
  omega
theorem step_sum {y a b u d q r : Nat} (i : Inv y a b u d q r) (h1 : (u * 4294967296 + d) / y < q) : (q - 1) * a + (r + a) = u := by
  have h2 : q * a = (q - 1) * a + a := by
    have h0 : 0 < q := Nat.lt_of_le_of_lt (Nat.zero_le _) h1
    obtain ⟨p, rfl⟩ : ∃ p, q = p + 1 := ⟨q - 1, by omega⟩
    rw [Nat.add_mul, Nat.one_mul, Nat.add_sub_cancel]
  have := i.sum
  omega
theorem step_on {y a b u d q r : Nat} (i : Inv y a b u d q r) (h1 : (u * 4294967296 + d) / y < q) (h2 : r + a < 4294967296) : Inv y a b u d (q - 1) (r + a) :=
  ⟨step_sum i h1, by omega, by have := i.le; omega, h2⟩
/-- What is left is too large to be looked at: the digit is right. -/
theorem step_out {y a b u d q r : Nat} (h : Norm y a b) (hu : u < y) (hd : d < 4294967296) (i : Inv y a b u d q r) (h1 : (u * 4294967296 + d) / y < q) (h2 : 4294967296 ≤ r + a) : q - 1 = (u * 4294967296 + d) / y := by
  have hs := step_sum i h1
  have hle : q - 1 ≤ 4294967296 := by have := i.le; omega
  have h3 : (q - 1) * b ≤ 4294967296 * (r + a) + d := by
    have h4 : (q - 1) * b ≤ 4294967296 * b := Nat.mul_le_mul_right _ hle
    have h5 : 4294967296 * b ≤ 4294967296 * (r + a) := Nat.mul_le_mul_left _ (by have := h.lo; omega)
    omega
  have h4 : q - 1 ≤ (u * 4294967296 + d) / y := by
    rw [Nat.le_div_iff_mul_le h.pos, h.eq, Nat.mul_add, ← Nat.mul_assoc]
    have e2 : u * 4294967296 = (q - 1) * a * 4294967296 + 4294967296 * (r + a) := by rw [← hs, Nat.add_mul, Nat.mul_comm (r + a) 4294967296]
    omega
  omega
/-- Two digits make the whole. -/
theorem two_digits {x y d0 : Nat} (hy : 0 < y) : x / y * 4294967296 + (x % y * 4294967296 + d0) / y = (x * 4294967296 + d0) / y ∧ (x % y * 4294967296 + d0) % y = (x * 4294967296 + d0) % y := by
  have e : x * 4294967296 + d0 = (x % y * 4294967296 + d0) + x / y * 4294967296 * y := by
    have h := Nat.div_add_mod x y
    have e2 : x / y * 4294967296 * y = y * (x / y) * 4294967296 := by rw [Nat.mul_right_comm, Nat.mul_comm (x / y) y]
    rw [e2]
    omega
  rw [e, Nat.add_mul_div_right _ _ hy, Nat.add_mul_mod_self_right]
  exact ⟨Nat.add_comm _ _, rfl⟩
/-- A number over another, both times one. -/
theorem scaled {n y k : Nat} (hk : 0 < k) : n * k / (y * k) = n / y ∧ n * k % (y * k) / k = n % y := by
  refine ⟨Nat.mul_div_mul_right _ _ hk, ?_⟩
  rw [Nat.mul_mod_mul_right, Nat.mul_div_cancel _ hk]
/-- Two words moved up together. -/
theorem moved {hi lo s y : Nat} (hs : s ≤ 63) (hlo : lo < 18446744073709551616) :
    (hi * 2 ^ s + lo / 2 ^ (64 - s)) * 18446744073709551616 + lo * 2 ^ s % 18446744073709551616 = (hi * 18446744073709551616 + lo) * 2 ^ s := by
  have e1 : lo * 2 ^ s / 18446744073709551616 = lo / 2 ^ (64 - s) := by
    have : (18446744073709551616 : Nat) = 2 ^ (64 - s) * 2 ^ s := by rw [← Nat.pow_add, show 64 - s + s = 64 by omega]
    rw [this, Nat.mul_div_mul_right _ _ (Nat.pow_pos (by decide))]
  have e2 := Nat.div_add_mod (lo * 2 ^ s) 18446744073709551616
  rw [e1] at e2
  rw [Nat.add_mul, Nat.add_mul, show hi * 18446744073709551616 * 2 ^ s = hi * 2 ^ s * 18446744073709551616 by rw [Nat.mul_assoc, Nat.mul_comm _ (2 ^ s), ← Nat.mul_assoc]]
  omega
end Go.Dv
