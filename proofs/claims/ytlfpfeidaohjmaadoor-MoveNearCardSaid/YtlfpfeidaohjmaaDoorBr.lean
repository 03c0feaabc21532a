/- Plain numbers: the whole root, by Newton's steps and bit by bit. -/
namespace Go.Proofs.YtlfpfeidaohjmaaDoor

def IsRoot (n r : Nat) : Prop := r * r ≤ n ∧ n < (r + 1) * (r + 1)
theorem IsRoot.unique {n r s : Nat} (h : IsRoot n r) (k : IsRoot n s) : r = s := by
  rcases Nat.lt_trichotomy r s with g | g | g
  · have := Nat.mul_le_mul (show r + 1 ≤ s from g) (show r + 1 ≤ s from g)
    have := h.2; have := k.1; omega
  · exact g
  · have := Nat.mul_le_mul (show s + 1 ≤ r from g) (show s + 1 ≤ r from g)
    have := k.2; have := h.1; omega

theorem newton_step (n x : Nat) (hx : 0 < x) : n < ((x + n / x) / 2 + 1) * ((x + n / x) / 2 + 1) := by
  have h1 : n < x * (n / x + 1) := by
    have := Nat.div_add_mod n x
    have := Nat.mod_lt n hx
    rw [Nat.mul_add]; omega
  generalize hq : n / x = q at *
  have h2 : x + q + 1 ≤ 2 * ((x + q) / 2 + 1) := by omega
  generalize hy : (x + q) / 2 + 1 = y at *
  have h3 : (x + q + 1) * (x + q + 1) ≤ (2 * y) * (2 * y) := Nat.mul_le_mul h2 h2
  have h4 : 4 * (x * (q + 1)) ≤ (x + q + 1) * (x + q + 1) := by
    rcases Nat.le_total x (q + 1) with h | h
    · obtain ⟨d, hd⟩ := Nat.exists_eq_add_of_le h
      have : x + q + 1 = 2 * x + d := by omega
      rw [this, hd]; grind
    · obtain ⟨d, hd⟩ := Nat.exists_eq_add_of_le h
      have : x + q + 1 = 2 * (q + 1) + d := by omega
      rw [this, hd]; grind
  have h5 : (2 * y) * (2 * y) = 4 * (y * y) := by grind
  omega

/-- At the end of Newton's steps. -/
theorem newton_end (n x : Nat) (hx : 0 < x) (h : n < (x + 1) * (x + 1)) (hy : x ≤ (x + n / x) / 2) : IsRoot n x := by
  refine ⟨?_, h⟩
  have h1 : x ≤ n / x := by omega
  exact (Nat.le_div_iff_mul_le hx).1 h1

theorem newton_pos (n x : Nat) (hx : 0 < x) (hn : 2 ≤ n) : 0 < (x + n / x) / 2 := by
  rcases Nat.lt_or_ge x 2 with h | h
  · obtain rfl : x = 1 := by omega
    simp; omega
  · generalize n / x = q; omega

def isqLoop (n : Nat) : Nat → Nat → Nat
  | 0, r => r
  | k + 1, r => isqLoop n k (if (r + 2 ^ k) * (r + 2 ^ k) ≤ n then r + 2 ^ k else r)

theorem isqLoop_root (n : Nat) : ∀ (k r : Nat), r * r ≤ n → n < (r + 2 ^ k) * (r + 2 ^ k) → IsRoot n (isqLoop n k r)
  | 0, r, h1, h2 => ⟨h1, by simpa [isqLoop] using h2⟩
  | k + 1, r, h1, h2 => by
    unfold isqLoop
    split
    · rename_i h
      exact isqLoop_root n k _ h (by rw [Nat.add_assoc, ← Nat.two_mul, ← Nat.pow_succ']; exact h2)
    · rename_i h
      exact isqLoop_root n k r h1 (Nat.lt_of_not_le h)

def isq (n : Nat) : Nat := isqLoop n 31 0
theorem isq_root (n : Nat) (h : n < 4611686018427387904) : IsRoot n (isq n) := isqLoop_root n 31 0 (by simp) (by simpa using h)

/-- Where the search bit by bit stands: R found, b the next bit. -/
def IsqInv (n R b : Nat) : Prop := ∃ k, k ≤ 31 ∧ b = 2 ^ k / 2 ∧ R + 2 ^ k ≤ 2147483648 ∧ isqLoop n k R = isq n
theorem IsqInv.start (n : Nat) : IsqInv n 0 1073741824 := ⟨31, by omega, by decide, by decide, rfl⟩
theorem IsqInv.bounds {n R b : Nat} (h : IsqInv n R b) : R + b ≤ 2147483648 := by
  obtain ⟨k, _, hb, hR, _⟩ := h
  omega
theorem IsqInv.done {n R : Nat} (h : IsqInv n R 0) : R = isq n := by
  obtain ⟨k, _, hb, hR, hl⟩ := h
  cases k with
  | zero => exact hl
  | succ k => have := Nat.two_pow_pos k; rw [Nat.pow_succ] at hb; omega
theorem IsqInv.yes {n R b : Nat} (h : IsqInv n R b) (hb : 0 < b) (hle : (R + b) * (R + b) ≤ n) : IsqInv n (R + b) (b / 2) := by
  obtain ⟨k, hk, hb', hR, hl⟩ := h
  cases k with
  | zero => simp at hb'; omega
  | succ k =>
    have e : b = 2 ^ k := by rw [hb', Nat.pow_succ]; omega
    subst e
    refine ⟨k, by omega, rfl, by rw [Nat.pow_succ] at hR; omega, ?_⟩
    rw [← hl]; conv => rhs; unfold isqLoop
    rw [if_pos hle]
theorem IsqInv.no {n R b : Nat} (h : IsqInv n R b) (hb : 0 < b) (hle : n < (R + b) * (R + b)) : IsqInv n R (b / 2) := by
  obtain ⟨k, hk, hb', hR, hl⟩ := h
  cases k with
  | zero => simp at hb'; omega
  | succ k =>
    have e : b = 2 ^ k := by rw [hb', Nat.pow_succ]; omega
    subst e
    refine ⟨k, by omega, rfl, by rw [Nat.pow_succ] at hR; omega, ?_⟩
    rw [← hl]; conv => rhs; unfold isqLoop
    rw [if_neg (by omega)]

theorem cast_sq_le {R b : Nat} (h : R + b ≤ 2147483648) : ((R : Int) + b) * (R + b) ≤ 4611686018427387904 := by
  have h1 : (R : Int) + b ≤ 2147483648 := by omega
  exact Int.mul_le_mul h1 h1 (by omega) (by decide)
theorem cast_sq_nonneg (R b : Nat) : 0 ≤ ((R : Int) + b) * (R + b) := Int.mul_nonneg (by omega) (by omega)
theorem cast_sq_le_iff (R b n : Nat) : ((R : Int) + b) * (R + b) ≤ n ↔ (R + b) * (R + b) ≤ n := by
  rw [← Int.natCast_add, ← Int.natCast_mul]; omega

/-- Where Newton's steps stand: x above the root, y the next. -/
def NewtonInv (n x y : Nat) : Prop := 0 < x ∧ x ≤ n ∧ n < (x + 1) * (x + 1) ∧ y = (x + n / x) / 2
theorem NewtonInv.start {n : Nat} (hn : 2 ≤ n) : NewtonInv n n ((n + 1) / 2) := by
  refine ⟨by omega, Nat.le_refl _, ?_, by rw [Nat.div_self (by omega)]⟩
  have := Nat.mul_le_mul (Nat.le_refl (n + 1)) (show 1 ≤ n + 1 by omega); omega
theorem NewtonInv.step {n x y : Nat} (hn : 2 ≤ n) (h : NewtonInv n x y) (hy : y < x) : NewtonInv n y ((y + n / y) / 2) := by
  obtain ⟨h0, h1, h2, h3⟩ := h
  have := newton_pos n x h0 hn
  have := newton_step n x h0
  rw [← h3] at *
  exact ⟨by omega, by omega, this, rfl⟩
theorem NewtonInv.stop {n x y : Nat} (hn : n < 4611686018427387904) (h : NewtonInv n x y) (hy : x ≤ y) : x = isq n := by
  obtain ⟨h0, h1, h2, h3⟩ := h
  exact (newton_end n x h0 h2 (h3 ▸ hy)).unique (isq_root n hn)
theorem isq_small {n : Nat} (h : n < 2) : isq n = n :=
  (isq_root n (by omega)).unique (by
    rcases Nat.lt_or_ge n 1 with h' | h'
    · obtain rfl : n = 0 := by omega
      exact ⟨by decide, by decide⟩
    · obtain rfl : n = 1 := by omega
      exact ⟨by decide, by decide⟩)

end Go.Proofs.YtlfpfeidaohjmaaDoor
