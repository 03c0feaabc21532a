/- Numbers by digits: times; over a number, bit by bit; rounded down. Nothing of a program stands here. -/
import Derived.Test.YtlfpfeidaohjmaaDoorBg
set_option linter.unusedSimpArgs false
set_option linter.unusedVariables false
namespace Go.Bg

theorem mul_set {L : List Nat} {p t cy z : Nat} (h : p < L.length) (ht : t = cy + L[p] + z) : val (L.set p (t % 1000000)) + t / 1000000 * 1000000 ^ (p + 1) = val L + cy * 1000000 ^ p + z * 1000000 ^ p := by
  have h1 := val_set L p (t % 1000000) h
  have e : t / 1000000 * 1000000 ^ (p + 1) + t % 1000000 * 1000000 ^ p = t * 1000000 ^ p := by
    rw [Nat.pow_succ, Nat.mul_comm (1000000 ^ p) 1000000, ← Nat.mul_assoc, ← Nat.add_mul]
    congr 1
    omega
  have e2 : t * 1000000 ^ p = cy * 1000000 ^ p + L[p] * 1000000 ^ p + z * 1000000 ^ p := by rw [ht, Nat.add_mul, Nat.add_mul]
  omega
/-- The product so far: a row of digits and what is carried. -/
def Inn (V i k x cy : Nat) (b L : List Nat) : Prop := val L + cy * 1000000 ^ (i + k) = V + x * val (b.take k) * 1000000 ^ i
theorem Inn.zero {V i x : Nat} {b L : List Nat} (h : val L = V) : Inn V i 0 x 0 b L := by
  show val L + 0 * _ = V + x * val (b.take 0) * _
  rw [List.take_zero, h]
  simp [val]
theorem Inn.step {V i k x cy t : Nat} {b L : List Nat} (h : Inn V i k x cy b L) (hk : k < b.length) (hp : i + k < L.length) (ht : t = cy + L[i + k] + x * b[k]) :
    Inn V i (k + 1) x (t / 1000000) b (L.set (i + k) (t % 1000000)) := by
  unfold Inn at h ⊢
  have h1 := mul_set hp ht
  rw [val_take_succ b k hk, Nat.mul_add, Nat.add_mul, show i + (k + 1) = i + k + 1 by omega]
  have e : x * (b[k] * 1000000 ^ k) * 1000000 ^ i = x * b[k] * 1000000 ^ (i + k) := by
    rw [Nat.pow_add, Nat.mul_comm (1000000 ^ i), ← Nat.mul_assoc, ← Nat.mul_assoc]
  omega
theorem Inn.last {V i x cy : Nat} {b L : List Nat} (h : Inn V i b.length x cy b L) (hp : i + b.length < L.length) (h0 : L[i + b.length] = 0) : val (L.set (i + b.length) cy) = V + x * val b * 1000000 ^ i := by
  unfold Inn at h
  have h1 := val_set L (i + b.length) cy hp
  rw [h0, Nat.zero_mul, Nat.add_zero] at h1
  rw [List.take_length] at h
  omega
theorem mul_row {a b : List Nat} {i : Nat} (h : i < a.length) : val (a.take i) * val b + a[i] * val b * 1000000 ^ i = val (a.take (i + 1)) * val b := by
  rw [val_take_succ a i h, Nat.add_mul, Nat.mul_right_comm]
theorem small_set {L : List Nat} {p t : Nat} (h : Small L) (ht : t < 1000000) : Small (L.set p t) := fun d hd => by
  rcases List.mem_or_eq_of_mem_set hd with h1 | h1
  · exact h d h1
  · rw [h1]; exact ht
theorem carry_lt {cy d x y : Nat} (h1 : cy < 1000000) (h2 : d < 1000000) (h3 : x < 1000000) (h4 : y < 1000000) : (cy + d + x * y) / 1000000 < 1000000 ∧ cy + d + x * y < 1000000000000 := by
  have h5 : x * y ≤ 999999 * 999999 := Nat.mul_le_mul (by omega) (by omega)
  omega
theorem sum_lt {cy d x y : Nat} (h1 : cy < 1000000) (h2 : d < 1000000) (h3 : x < 1000000) (h4 : y < 1000000) : x * y ≤ 999998000001 := by
  have h5 : x * y ≤ 999999 * 999999 := Nat.mul_le_mul (by omega) (by omega)
  omega
/-- A quotient, bit by bit. -/
def Quo (P c q b : Nat) : Prop := (∃ j, j ≤ 61 ∧ b = 2 ^ j ∧ q * c ≤ P ∧ P < (q + 2 * b) * c ∧ q + 2 * b ≤ 4611686018427387904) ∨ (b = 0 ∧ q * c ≤ P ∧ P < (q + 1) * c ∧ q < 4611686018427387904)
theorem Quo.first {P c : Nat} (h : P < 4611686018427387904 * c) : Quo P c 0 2305843009213693952 :=
  .inl ⟨61, Nat.le_refl _, by decide, by omega, by omega, by omega⟩
theorem half_pow (j : Nat) : 2 ^ j / 2 = (if j = 0 then 0 else 2 ^ (j - 1)) := by
  cases j with
  | zero => rfl
  | succ j =>
    rw [Nat.pow_succ, Nat.mul_div_cancel _ (by decide)]
    simp
theorem Quo.next {P c q b : Nat} (h : Quo P c q b) (hb : 0 < b) : Quo P c (if (q + b) * c ≤ P then q + b else q) (b / 2) := by
  rcases h with ⟨j, hj, rfl, h1, h2, h3⟩ | ⟨rfl, _⟩
  · rw [half_pow]
    have key : (if (q + 2 ^ j) * c ≤ P then q + 2 ^ j else q) * c ≤ P ∧ P < ((if (q + 2 ^ j) * c ≤ P then q + 2 ^ j else q) + 2 ^ j) * c ∧ (if (q + 2 ^ j) * c ≤ P then q + 2 ^ j else q) + 2 ^ j ≤ 4611686018427387904 := by
      split
      · rename_i h4
        exact ⟨h4, by rw [show q + 2 ^ j + 2 ^ j = q + 2 * 2 ^ j by omega]; exact h2, by omega⟩
      · rename_i h4
        exact ⟨h1, by omega, by omega⟩
    generalize (if (q + 2 ^ j) * c ≤ P then q + 2 ^ j else q) = q2 at key ⊢
    obtain ⟨k1, k2, k3⟩ := key
    split
    · rename_i h0
      subst h0
      exact .inr ⟨rfl, k1, k2, by omega⟩
    · rename_i h0
      have e : 2 * 2 ^ (j - 1) = 2 ^ j := by
        obtain ⟨i, rfl⟩ : ∃ i, j = i + 1 := ⟨j - 1, by omega⟩
        rw [Nat.pow_succ, Nat.add_sub_cancel, Nat.mul_comm]
      exact .inl ⟨j - 1, by omega, rfl, k1, by rw [e]; exact k2, by rw [e]; exact k3⟩
  · omega
theorem Quo.done {P c q : Nat} (hc : 0 < c) (h : Quo P c q 0) : q = P / c := by
  rcases h with ⟨j, _, h, _⟩ | ⟨_, h1, h2, _⟩
  · exact absurd h.symm (Nat.ne_of_gt (Nat.pow_pos (by decide)))
  · have h3 : q ≤ P / c := (Nat.le_div_iff_mul_le hc).2 h1
    have h4 : P / c < q + 1 := (Nat.div_lt_iff_lt_mul hc).2 h2
    omega
theorem Quo.bound {P c q b : Nat} (h : Quo P c q b) : q < 4611686018427387904 ∧ q + b ≤ 4611686018427387904 ∧ b ≤ 2305843009213693952 := by
  rcases h with ⟨j, hj, rfl, _, _, h3⟩ | ⟨rfl, _, _, h3⟩
  · have : 2 ^ j ≤ 2 ^ 61 := Nat.pow_le_pow_right (by decide) hj
    have e : (2 : Nat) ^ 61 = 2305843009213693952 := by decide
    have : 0 < 2 ^ j := Nat.pow_pos (by decide)
    omega
  · omega
/-- Rounded down, of a sign and a size. -/
theorem floor_pos (P c : Nat) : ((P : Int)) / (c : Int) = ((P / c : Nat) : Int) := by omega
theorem floor_neg {P c : Nat} (hc : 0 < c) : (-(P : Int)) / (c : Int) = if P % c = 0 then -((P / c : Nat) : Int) else -((P / c : Nat) : Int) - 1 := by
  have h1 := Nat.div_add_mod P c
  have h2 := Nat.mod_lt P hc
  have hc' : (c : Int) ≠ 0 := by omega
  have e : (P : Int) = (c : Int) * ((P / c : Nat) : Int) + ((P % c : Nat) : Int) := by rw [← Int.natCast_mul, ← Int.natCast_add, h1]
  generalize P / c = q at e ⊢
  generalize P % c = m at e h2 ⊢
  split
  · rename_i h0
    rw [e, h0, show -((c : Int) * (q : Int) + ((0 : Nat) : Int)) = (c : Int) * (-(q : Int)) by simp [Int.mul_neg], Int.mul_ediv_cancel_left _ hc']
  · rename_i h0
    rw [e, show -((c : Int) * (q : Int) + (m : Int)) = ((c : Int) - (m : Int)) + (c : Int) * (-(q : Int) - 1) by rw [Int.mul_sub, Int.mul_neg, Int.mul_one]; omega, Int.add_mul_ediv_left _ _ hc', Int.ediv_eq_zero_of_lt (by omega) (by omega)]
    omega
/-- The sign of a product. -/
def sgn (a b : Int) : Int := if (decide (a < 0)) = (decide (b < 0)) then 1 else -1
theorem prod_sgn (a b : Int) : a * b = sgn a b * ((a.natAbs * b.natAbs : Nat) : Int) := by
  have ha : (a.natAbs : Int) = if a < 0 then -a else a := by split <;> omega
  have hb : (b.natAbs : Int) = if b < 0 then -b else b := by split <;> omega
  unfold sgn
  rw [Int.natCast_mul, ha, hb]
  by_cases h1 : a < 0 <;> by_cases h2 : b < 0 <;> simp [h1, h2, Int.neg_mul, Int.mul_neg]
end Go.Bg
