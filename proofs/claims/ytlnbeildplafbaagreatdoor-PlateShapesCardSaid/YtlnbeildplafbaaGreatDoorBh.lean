/- Numbers by digits to the base of a million, the low ones first. Nothing of a program stands here. -/
import Derived.Test.YtlnbeildplafbaaGreatDoorGrow
set_option linter.unusedSimpArgs false
set_option linter.unusedVariables false
namespace Go.Bg

def val : List Nat → Nat
  | [] => 0
  | d :: l => d + 1000000 * val l
def dig (n : Nat) : List Nat := if h : n = 0 then [] else n % 1000000 :: dig (n / 1000000)
termination_by n
decreasing_by omega
theorem dig_zero : dig 0 = [] := by rw [dig]; simp
theorem dig_pos {n : Nat} (h : 0 < n) : dig n = n % 1000000 :: dig (n / 1000000) := by
  rw [dig, dif_neg (by omega)]
/-- Digits; none too large; the last is none. -/
def Small (l : List Nat) : Prop := ∀ d ∈ l, d < 1000000
def Canon : List Nat → Prop
  | [] => True
  | [d] => 0 < d ∧ d < 1000000
  | d :: e :: l => d < 1000000 ∧ Canon (e :: l)
theorem val_dig (n : Nat) : val (dig n) = n := by
  induction n using Nat.strongRecOn with
  | ind n ih =>
    rcases Nat.eq_zero_or_pos n with h | h
    · subst h; rw [dig_zero]; rfl
    · rw [dig_pos h]
      show n % 1000000 + 1000000 * val (dig (n / 1000000)) = n
      rw [ih _ (by omega)]
      omega
theorem canon_dig (n : Nat) : Canon (dig n) := by
  induction n using Nat.strongRecOn with
  | ind n ih =>
    rcases Nat.eq_zero_or_pos n with h | h
    · subst h; rw [dig_zero]; trivial
    · rw [dig_pos h]
      have h1 := ih (n / 1000000) (by omega)
      rcases Nat.eq_zero_or_pos (n / 1000000) with h2 | h2
      · rw [h2, dig_zero]
        exact ⟨by omega, by omega⟩
      · rw [dig_pos h2] at h1 ⊢
        exact ⟨by omega, h1⟩
theorem Canon.small : ∀ {l : List Nat}, Canon l → Small l
  | [], _ => fun d h => by cases h
  | [d], h => fun e he => by
    have : e = d := by simpa using he
    rw [this]; exact h.2
  | d :: e :: l, h => fun x hx => by
    rcases List.mem_cons.1 hx with rfl | hx
    · exact h.1
    · exact Canon.small h.2 x hx
theorem Canon.tail : ∀ {d : Nat} {l : List Nat}, Canon (d :: l) → Canon l
  | _, [], _ => trivial
  | _, _ :: _, h => h.2
theorem Canon.val_pos : ∀ {l : List Nat}, Canon l → l ≠ [] → 0 < val l
  | [], _, h => absurd rfl h
  | [d], h, _ => by show 0 < d + 1000000 * 0; have := h.1; omega
  | d :: e :: l, h, _ => by
    have := Canon.val_pos h.2 (by simp)
    show 0 < d + 1000000 * val (e :: l)
    omega
theorem canon_eq : ∀ {l : List Nat}, Canon l → l = dig (val l)
  | [], _ => by show [] = dig 0; rw [dig_zero]
  | d :: l, h => by
    have hp := h.val_pos (by simp)
    have hd := h.small d (by simp)
    rw [dig_pos hp]
    have ih := canon_eq h.tail
    have e1 : val (d :: l) = d + 1000000 * val l := rfl
    rw [e1, show (d + 1000000 * val l) % 1000000 = d by omega, show (d + 1000000 * val l) / 1000000 = val l by omega, ← ih]
theorem val_append : ∀ (a b : List Nat), val (a ++ b) = val a + 1000000 ^ a.length * val b
  | [], b => by simp [val]
  | d :: a, b => by
    show d + 1000000 * val (a ++ b) = d + 1000000 * val a + 1000000 ^ (a.length + 1) * val b
    rw [val_append a b, Nat.pow_succ, Nat.mul_add, Nat.add_assoc, Nat.mul_comm (1000000 ^ a.length) 1000000, Nat.mul_assoc]
theorem val_lt : ∀ {l : List Nat}, Small l → val l < 1000000 ^ l.length
  | [], _ => by simp [val]
  | d :: l, h => by
    have h1 := val_lt (l := l) fun x hx => h x (List.mem_cons_of_mem _ hx)
    have h2 := h d (by simp)
    show d + 1000000 * val l < 1000000 ^ (l.length + 1)
    rw [Nat.pow_succ]
    omega
theorem canon_ge : ∀ {l : List Nat}, Canon l → l ≠ [] → 1000000 ^ (l.length - 1) ≤ val l
  | [], _, h => absurd rfl h
  | [d], h, _ => by show 1 ≤ d + 1000000 * 0; have := h.1; omega
  | d :: e :: l, h, _ => by
    have h1 := canon_ge h.2 (by simp)
    show 1000000 ^ (l.length + 1) ≤ d + 1000000 * val (e :: l)
    rw [Nat.pow_succ]
    simp only [List.length_cons, Nat.add_sub_cancel] at h1
    omega
/-- The shorter is the smaller. -/
theorem canon_lt {a b : List Nat} (ha : Canon a) (hb : Canon b) (h : a.length < b.length) : val a < val b := by
  have h1 := val_lt ha.small
  have h2 := canon_ge hb (by intro e; rw [e] at h; exact absurd h (by simp))
  have h3 : 1000000 ^ a.length ≤ 1000000 ^ (b.length - 1) := Nat.pow_le_pow_right (by decide) (by omega)
  omega
theorem val_set : ∀ (l : List Nat) (i x : Nat) (h : i < l.length), val (l.set i x) + l[i] * 1000000 ^ i = val l + x * 1000000 ^ i
  | [], i, x, h => absurd h (by simp)
  | d :: l, 0, x, h => by
    show x + 1000000 * val l + d * 1 = d + 1000000 * val l + x * 1
    omega
  | d :: l, i + 1, x, h => by
    have h' : i < l.length := by simpa using h
    have ih := val_set l i x h'
    show d + 1000000 * val (l.set i x) + l[i] * 1000000 ^ (i + 1) = d + 1000000 * val l + x * 1000000 ^ (i + 1)
    rw [Nat.pow_succ, ← Nat.mul_assoc, ← Nat.mul_assoc]
    omega
theorem val_take_succ (l : List Nat) (k : Nat) (h : k < l.length) : val (l.take (k + 1)) = val (l.take k) + l[k] * 1000000 ^ k := by
  rw [List.take_succ_eq_append_getElem h, val_append, List.length_take, Nat.min_eq_left (by omega)]
  show _ + 1000000 ^ k * (l[k] + 1000000 * 0) = _
  rw [Nat.mul_zero, Nat.add_zero, Nat.mul_comm]
theorem val_replicate : ∀ n, val (List.replicate n 0) = 0
  | 0 => rfl
  | n + 1 => by show 0 + 1000000 * val (List.replicate n 0) = 0; rw [val_replicate n]
/-- Noughts at the end are left out. -/
def cutTo (l : List Nat) : Nat → Nat
  | 0 => 0
  | n + 1 => if l.getD n 0 = 0 then cutTo l n else n + 1
theorem cutTo_le (l : List Nat) : ∀ n, cutTo l n ≤ n
  | 0 => Nat.le_refl _
  | n + 1 => by
    unfold cutTo
    split
    · exact Nat.le_succ_of_le (cutTo_le l n)
    · exact Nat.le_refl _
theorem val_cut (l : List Nat) : ∀ n, n ≤ l.length → val (l.take (cutTo l n)) = val (l.take n)
  | 0, _ => rfl
  | n + 1, h => by
    unfold cutTo
    split
    · rename_i h0
      rw [val_cut l n (by omega), val_take_succ l n h]
      have : l[n] = 0 := by simpa [show n < l.length from h] using h0
      rw [this, Nat.zero_mul, Nat.add_zero]
    · rfl
theorem canon_append_one : ∀ {l : List Nat} {d : Nat}, Small l → 0 < d → d < 1000000 → Canon (l ++ [d])
  | [], d, _, h1, h2 => ⟨h1, h2⟩
  | [e], d, h, h1, h2 => ⟨h e (by simp), h1, h2⟩
  | e :: f :: l, d, h, h1, h2 => ⟨h e (by simp), canon_append_one (l := f :: l) (fun x hx => h x (List.mem_cons_of_mem _ hx)) h1 h2⟩
theorem canon_cut {l : List Nat} (hs : Small l) : ∀ n, n ≤ l.length → Canon (l.take (cutTo l n))
  | 0, _ => by show Canon (l.take 0); rw [List.take_zero]; trivial
  | n + 1, h => by
    unfold cutTo
    split
    · exact canon_cut hs n (by omega)
    · rename_i h0
      rw [List.take_succ_eq_append_getElem h]
      have h1 : l.getD n 0 = l[n] := by simp [show n < l.length from h]
      rw [h1] at h0
      exact canon_append_one (fun x hx => hs x (List.mem_of_mem_take hx)) (by omega) (hs _ (List.getElem_mem h))
/-- What is left is the number's own digits. -/
theorem cut_dig {l : List Nat} (hs : Small l) : l.take (cutTo l l.length) = dig (val l) := by
  have h1 := canon_eq (canon_cut hs l.length (Nat.le_refl _))
  rw [val_cut l l.length (Nat.le_refl _), List.take_length] at h1
  exact h1
/-- Of equal length, alike above k: as the digits at k say. -/
theorem val_split (l : List Nat) (k : Nat) (h : k < l.length) : val l = val (l.take k) + l[k] * 1000000 ^ k + 1000000 ^ (k + 1) * val (l.drop (k + 1)) := by
  have e : l = l.take (k + 1) ++ l.drop (k + 1) := (List.take_append_drop _ _).symm
  have h1 := val_append (l.take (k + 1)) (l.drop (k + 1))
  rw [← e, val_take_succ l k h, List.length_take, Nat.min_eq_left (by omega)] at h1
  exact h1
theorem lt_at {a b : List Nat} (ha : Small a) {k : Nat} (h1 : k < a.length) (h2 : k < b.length) (hd : a.drop (k + 1) = b.drop (k + 1)) (h : a[k] < b[k]) : val a < val b := by
  rw [val_split a k h1, val_split b k h2, hd]
  have h3 : val (a.take k) < 1000000 ^ k := by
    have := val_lt (l := a.take k) fun x hx => ha x (List.mem_of_mem_take hx)
    rwa [List.length_take, Nat.min_eq_left (by omega)] at this
  have h4 : (a[k] + 1) * 1000000 ^ k ≤ b[k] * 1000000 ^ k := Nat.mul_le_mul_right _ h
  rw [Nat.add_mul, Nat.one_mul] at h4
  omega
theorem dig_length_le (n k : Nat) (h : n < 1000000 ^ k) : (dig n).length ≤ k := by
  rcases Nat.lt_or_ge k (dig n).length with h1 | h1
  · have h2 := canon_ge (canon_dig n) (by intro e; rw [e] at h1; exact absurd h1 (by simp))
    rw [val_dig] at h2
    have h3 : 1000000 ^ k ≤ 1000000 ^ ((dig n).length - 1) := Nat.pow_le_pow_right (by decide) (by omega)
    omega
  · exact h1
/-- -1, 0, 1. -/
def cmpN (a b : Nat) : Int := if a < b then -1 else if b < a then 1 else 0
end Go.Bg
/- Numbers by digits: times; over a number, bit by bit; rounded down. Nothing of a program stands here. -/
set_option linter.unusedSimpArgs false
set_option linter.unusedVariables false
namespace Go.Bg

theorem mul_set {L : List Nat} {p t cy z : Nat} (h : p < L.length) (ht : t = cy + L[p] + z) : val (L.set p (t % 1000000)) + t / 1000000 * 1000000 ^ (p + 1) = val L + cy * 1000000 ^ p + z * 1000000 ^ p := by
  have h1 := val_set L p (t % 1000000) h
  have e : t / 1000000 * 1000000 ^ (p + 1) + t % 1000000 * 1000000 ^ p = t * 1000000 ^ p := by
    rw [Nat.pow_succ, Nat.mul_comm (1000000 ^ p) 1000000, ← Nat.mul_assoc, ← Nat.add_mul]
    congr 1
    omega
  have e2 : t * 1000000 ^ p = cy * 1000000 ^ p + L[p] * 1000000 ^ p + z * 1000000 ^ p := by rw [ht, Nat.add_mul, Nat.add_mul]
  omega
/-- The product so far: a row of digits and what is carried. -/
def Inn (V i k x cy : Nat) (b L : List Nat) : Prop := val L + cy * 1000000 ^ (i + k) = V + x * val (b.take k) * 1000000 ^ i
theorem Inn.zero {V i x : Nat} {b L : List Nat} (h : val L = V) : Inn V i 0 x 0 b L := by
  show val L + 0 * _ = V + x * val (b.take 0) * _
  rw [List.take_zero, h]
  simp [val]
theorem Inn.step {V i k x cy t : Nat} {b L : List Nat} (h : Inn V i k x cy b L) (hk : k < b.length) (hp : i + k < L.length) (ht : t = cy + L[i + k] + x * b[k]) :
    Inn V i (k + 1) x (t / 1000000) b (L.set (i + k) (t % 1000000)) := by
  unfold Inn at h ⊢
  have h1 := mul_set hp ht
  rw [val_take_succ b k hk, Nat.mul_add, Nat.add_mul, show i + (k + 1) = i + k + 1 by omega]
  have e : x * (b[k] * 1000000 ^ k) * 1000000 ^ i = x * b[k] * 1000000 ^ (i + k) := by
    rw [Nat.pow_add, Nat.mul_comm (1000000 ^ i), ← Nat.mul_assoc, ← Nat.mul_assoc]
  omega
theorem Inn.last {V i x cy : Nat} {b L : List Nat} (h : Inn V i b.length x cy b L) (hp : i + b.length < L.length) (h0 : L[i + b.length] = 0) : val (L.set (i + b.length) cy) = V + x * val b * 1000000 ^ i := by
  unfold Inn at h
  have h1 := val_set L (i + b.length) cy hp
  rw [h0, Nat.zero_mul, Nat.add_zero] at h1
  rw [List.take_length] at h
  omega
theorem mul_row {a b : List Nat} {i : Nat} (h : i < a.length) : val (a.take i) * val b + a[i] * val b * 1000000 ^ i = val (a.take (i + 1)) * val b := by
  rw [val_take_succ a i h, Nat.add_mul, Nat.mul_right_comm]
theorem small_set {L : List Nat} {p t : Nat} (h : Small L) (ht : t < 1000000) : Small (L.set p t) := fun d hd => by
  rcases List.mem_or_eq_of_mem_set hd with h1 | h1
  · exact h d h1
  · rw [h1]; exact ht
theorem carry_lt {cy d x y : Nat} (h1 : cy < 1000000) (h2 : d < 1000000) (h3 : x < 1000000) (h4 : y < 1000000) : (cy + d + x * y) / 1000000 < 1000000 ∧ cy + d + x * y < 1000000000000 := by
  have h5 : x * y ≤ 999999 * 999999 := Nat.mul_le_mul (by omega) (by omega)
  omega
theorem sum_lt {cy d x y : Nat} (h1 : cy < 1000000) (h2 : d < 1000000) (h3 : x < 1000000) (h4 : y < 1000000) : x * y ≤ 999998000001 := by
  have h5 : x * y ≤ 999999 * 999999 := Nat.mul_le_mul (by omega) (by omega)
  omega
/-- A quotient, bit by bit. -/
def Quo (P c q b : Nat) : Prop := (∃ j, j ≤ 61 ∧ b = 2 ^ j ∧ q * c ≤ P ∧ P < (q + 2 * b) * c ∧ q + 2 * b ≤ 4611686018427387904) ∨ (b = 0 ∧ q * c ≤ P ∧ P < (q + 1) * c ∧ q < 4611686018427387904)
theorem Quo.first {P c : Nat} (h : P < 4611686018427387904 * c) : Quo P c 0 2305843009213693952 :=
  .inl ⟨61, Nat.le_refl _, by decide, by omega, by omega, by omega⟩
theorem half_pow (j : Nat) : 2 ^ j / 2 = (if j = 0 then 0 else 2 ^ (j - 1)) := by
  cases j with
  | zero => rfl
  | succ j =>
    rw [Nat.pow_succ, Nat.mul_div_cancel _ (by decide)]
    simp
theorem Quo.next {P c q b : Nat} (h : Quo P c q b) (hb : 0 < b) : Quo P c (if (q + b) * c ≤ P then q + b else q) (b / 2) := by
  rcases h with ⟨j, hj, rfl, h1, h2, h3⟩ | ⟨rfl, _⟩
  · rw [half_pow]
    have key : (if (q + 2 ^ j) * c ≤ P then q + 2 ^ j else q) * c ≤ P ∧ P < ((if (q + 2 ^ j) * c ≤ P then q + 2 ^ j else q) + 2 ^ j) * c ∧ (if (q + 2 ^ j) * c ≤ P then q + 2 ^ j else q) + 2 ^ j ≤ 4611686018427387904 := by
      split
      · rename_i h4
        exact ⟨h4, by rw [show q + 2 ^ j + 2 ^ j = q + 2 * 2 ^ j by omega]; exact h2, by omega⟩
      · rename_i h4
        exact ⟨h1, by omega, by omega⟩
    generalize (if (q + 2 ^ j) * c ≤ P then q + 2 ^ j else q) = q2 at key ⊢
    obtain ⟨k1, k2, k3⟩ := key
    split
    · rename_i h0
      subst h0
      exact .inr ⟨rfl, k1, k2, by omega⟩
    · rename_i h0
      have e : 2 * 2 ^ (j - 1) = 2 ^ j := by
        obtain ⟨i, rfl⟩ : ∃ i, j = i + 1 := ⟨j - 1, by omega⟩
        rw [Nat.pow_succ, Nat.add_sub_cancel, Nat.mul_comm]
      exact .inl ⟨j - 1, by omega, rfl, k1, by rw [e]; exact k2, by rw [e]; exact k3⟩
  · omega
theorem Quo.done {P c q : Nat} (hc : 0 < c) (h : Quo P c q 0) : q = P / c := by
  rcases h with ⟨j, _, h, _⟩ | ⟨_, h1, h2, _⟩
  · exact absurd h.symm (Nat.ne_of_gt (Nat.pow_pos (by decide)))
  · have h3 : q ≤ P / c := (Nat.le_div_iff_mul_le hc).2 h1
    have h4 : P / c < q + 1 := (Nat.div_lt_iff_lt_mul hc).2 h2
    omega
theorem Quo.bound {P c q b : Nat} (h : Quo P c q b) : q < 4611686018427387904 ∧ q + b ≤ 4611686018427387904 ∧ b ≤ 2305843009213693952 := by
  rcases h with ⟨j, hj, rfl, _, _, h3⟩ | ⟨rfl, _, _, h3⟩
  · have : 2 ^ j ≤ 2 ^ 61 := Nat.pow_le_pow_right (by decide) hj
    have e : (2 : Nat) ^ 61 = 2305843009213693952 := by decide
    have : 0 < 2 ^ j := Nat.pow_pos (by decide)
    omega
  · omega
/-- Rounded down, of a sign and a size. -/
theorem floor_pos (P c : Nat) : ((P : Int)) / (c : Int) = ((P / c : Nat) : Int) := by omega
theorem floor_neg {P c : Nat} (hc : 0 < c) : (-(P : Int)) / (c : Int) = if P % c = 0 then -((P / c : Nat) : Int) else -((P / c : Nat) : Int) - 1 := by
  have h1 := Nat.div_add_mod P c
  have h2 := Nat.mod_lt P hc
  have hc' : (c : Int) ≠ 0 := by omega
  have e : (P : Int) = (c : Int) * ((P / c : Nat) : Int) + ((P % c : Nat) : Int) := by rw [← Int.natCast_mul, ← Int.natCast_add, h1]
  generalize P / c = q at e ⊢
  generalize P % c = m at e h2 ⊢
  split
  · rename_i h0
    rw [e, h0, show -((c : Int) * (q : Int) + ((0 : Nat) : Int)) = (c : Int) * (-(q : Int)) by simp [Int.mul_neg], Int.mul_ediv_cancel_left _ hc']
  · rename_i h0
    rw [e, show -((c : Int) * (q : Int) + (m : Int)) = ((c : Int) - (m : Int)) + (c : Int) * (-(q : Int) - 1) by rw [Int.mul_sub, Int.mul_neg, Int.mul_one]; omega, Int.add_mul_ediv_left _ _ hc', Int.ediv_eq_zero_of_lt (by omega) (by omega)]
    omega
/-- The sign of a product. -/
def sgn (a b : Int) : Int := if (decide (a < 0)) = (decide (b < 0)) then 1 else -1
theorem prod_sgn (a b : Int) : a * b = sgn a b * ((a.natAbs * b.natAbs : Nat) : Int) := by
  have ha : (a.natAbs : Int) = if a < 0 then -a else a := by split <;> omega
  have hb : (b.natAbs : Int) = if b < 0 then -b else b := by split <;> omega
  unfold sgn
  rw [Int.natCast_mul, ha, hb]
  by_cases h1 : a < 0 <;> by_cases h2 : b < 0 <;> simp [h1, h2, Int.neg_mul, Int.mul_neg]
end Go.Bg
