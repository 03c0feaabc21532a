/- Numbers by digits to the base of 2 to the 64th, the low ones first. Nothing of a program stands here. -/
import Derived.Test.YtlnbeildplafbaaGreatDoorGrow
set_option linter.unusedSimpArgs false
set_option linter.unusedVariables false
namespace Go.Wd

def val : List Nat → Nat
  | [] => 0
  | d :: l => d + 18446744073709551616 * val l
def dig (n : Nat) : List Nat := if h : n = 0 then [] else n % 18446744073709551616 :: dig (n / 18446744073709551616)
termination_by n
decreasing_by omega
theorem dig_zero : dig 0 = [] := by rw [dig]; simp
theorem dig_pos {n : Nat} (h : 0 < n) : dig n = n % 18446744073709551616 :: dig (n / 18446744073709551616) := by
  rw [dig, dif_neg (by omega)]
/-- Digits; none too large; the last is none. -/
def Small (l : List Nat) : Prop := ∀ d ∈ l, d < 18446744073709551616
def Canon : List Nat → Prop
  | [] => True
  | [d] => 0 < d ∧ d < 18446744073709551616
  | d :: e :: l => d < 18446744073709551616 ∧ Canon (e :: l)
theorem val_dig (n : Nat) : val (dig n) = n := by
  induction n using Nat.strongRecOn with
  | ind n ih =>
    rcases Nat.eq_zero_or_pos n with h | h
    · subst h; rw [dig_zero]; rfl
    · rw [dig_pos h]
      show n % 18446744073709551616 + 18446744073709551616 * val (dig (n / 18446744073709551616)) = n
      rw [ih _ (by omega)]
      omega
theorem canon_dig (n : Nat) : Canon (dig n) := by
  induction n using Nat.strongRecOn with
  | ind n ih =>
    rcases Nat.eq_zero_or_pos n with h | h
    · subst h; rw [dig_zero]; trivial
    · rw [dig_pos h]
      have h1 := ih (n / 18446744073709551616) (by omega)
      rcases Nat.eq_zero_or_pos (n / 18446744073709551616) with h2 | h2
      · rw [h2, dig_zero]
        exact ⟨by omega, by omega⟩
      · rw [dig_pos h2] at h1 ⊢
        exact ⟨by omega, h1⟩
theorem Canon.small : ∀ {l : List Nat}, Canon l → Small l
  | [], _ => fun d h => by cases h
  | [d], h => fun e he => by
    have : e = d := by simpa using he
    rw [this]; exact h.2
  | d :: e :: l, h => fun x hx => by
    rcases List.mem_cons.1 hx with rfl | hx
    · exact h.1
    · exact Canon.small h.2 x hx
theorem Canon.tail : ∀ {d : Nat} {l : List Nat}, Canon (d :: l) → Canon l
  | _, [], _ => trivial
  | _, _ :: _, h => h.2
theorem Canon.val_pos : ∀ {l : List Nat}, Canon l → l ≠ [] → 0 < val l
  | [], _, h => absurd rfl h
  | [d], h, _ => by show 0 < d + 18446744073709551616 * 0; have := h.1; omega
  | d :: e :: l, h, _ => by
    have := Canon.val_pos h.2 (by simp)
    show 0 < d + 18446744073709551616 * val (e :: l)
    omega
theorem canon_eq : ∀ {l : List Nat}, Canon l → l = dig (val l)
  | [], _ => by show [] = dig 0; rw [dig_zero]
  | d :: l, h => by
    have hp := h.val_pos (by simp)
    have hd := h.small d (by simp)
    rw [dig_pos hp]
    have ih := canon_eq h.tail
    have e1 : val (d :: l) = d + 18446744073709551616 * val l := rfl
    rw [e1, show (d + 18446744073709551616 * val l) % 18446744073709551616 = d by omega, show (d + 18446744073709551616 * val l) / 18446744073709551616 = val l by omega, ← ih]
theorem val_append : ∀ (a b : List Nat), val (a ++ b) = val a + 18446744073709551616 ^ a.length * val b
  | [], b => by simp [val]
  | d :: a, b => by
    show d + 18446744073709551616 * val (a ++ b) = d + 18446744073709551616 * val a + 18446744073709551616 ^ (a.length + 1) * val b
    rw [val_append a b, Nat.pow_succ, Nat.mul_add, Nat.add_assoc, Nat.mul_comm (18446744073709551616 ^ a.length) 18446744073709551616, Nat.mul_assoc]
theorem val_lt : ∀ {l : List Nat}, Small l → val l < 18446744073709551616 ^ l.length
  | [], _ => by simp [val]
  | d :: l, h => by
    have h1 := val_lt (l := l) fun x hx => h x (List.mem_cons_of_mem _ hx)
    have h2 := h d (by simp)
    show d + 18446744073709551616 * val l < 18446744073709551616 ^ (l.length + 1)
    rw [Nat.pow_succ]
    omega
theorem canon_ge : ∀ {l : List Nat}, Canon l → l ≠ [] → 18446744073709551616 ^ (l.length - 1) ≤ val l
  | [], _, h => absurd rfl h
  | [d], h, _ => by show 1 ≤ d + 18446744073709551616 * 0; have := h.1; omega
  | d :: e :: l, h, _ => by
    have h1 := canon_ge h.2 (by simp)
    show 18446744073709551616 ^ (l.length + 1) ≤ d + 18446744073709551616 * val (e :: l)
    rw [Nat.pow_succ]
    simp only [List.length_cons, Nat.add_sub_cancel] at h1
    omega
/-- The shorter is the smaller. -/
theorem canon_lt {a b : List Nat} (ha : Canon a) (hb : Canon b) (h : a.length < b.length) : val a < val b := by
  have h1 := val_lt ha.small
  have h2 := canon_ge hb (by intro e; rw [e] at h; exact absurd h (by simp))
  have h3 : 18446744073709551616 ^ a.length ≤ 18446744073709551616 ^ (b.length - 1) := Nat.pow_le_pow_right (by decide) (by omega)
  omega
theorem val_set : ∀ (l : List Nat) (i x : Nat) (h : i < l.length), val (l.set i x) + l[i] * 18446744073709551616 ^ i = val l + x * 18446744073709551616 ^ i
  | [], i, x, h => absurd h (by simp)
  | d :: l, 0, x, h => by
    show x + 18446744073709551616 * val l + d * 1 = d + 18446744073709551616 * val l + x * 1
    omega
  | d :: l, i + 1, x, h => by
    have h' : i < l.length := by simpa using h
    have ih := val_set l i x h'
    show d + 18446744073709551616 * val (l.set i x) + l[i] * 18446744073709551616 ^ (i + 1) = d + 18446744073709551616 * val l + x * 18446744073709551616 ^ (i + 1)
    rw [Nat.pow_succ, ← Nat.mul_assoc, ← Nat.mul_assoc]
    omega
theorem val_take_succ (l : List Nat) (k : Nat) (h : k < l.length) : val (l.take (k + 1)) = val (l.take k) + l[k] * 18446744073709551616 ^ k := by
  rw [List.take_succ_eq_append_getElem h, val_append, List.length_take, Nat.min_eq_left (by omega)]
  show _ + 18446744073709551616 ^ k * (l[k] + 18446744073709551616 * 0) = _
  rw [Nat.mul_zero, Nat.add_zero, Nat.mul_comm]
theorem val_replicate : ∀ n, val (List.replicate n 0) = 0
  | 0 => rfl
  | n + 1 => by show 0 + 18446744073709551616 * val (List.replicate n 0) = 0; rw [val_replicate n]
/-- Noughts at the end are left out. -/
def cutTo (l : List Nat) : Nat → Nat
  | 0 => 0
  | n + 1 => if l.getD n 0 = 0 then cutTo l n else n + 1
theorem cutTo_le (l : List Nat) : ∀ n, cutTo l n ≤ n
  | 0 => Nat.le_refl _
  | n + 1 => by
    unfold cutTo
    split
    · exact Nat.le_succ_of_le (cutTo_le l n)
    · exact Nat.le_refl _
theorem val_cut (l : List Nat) : ∀ n, n ≤ l.length → val (l.take (cutTo l n)) = val (l.take n)
  | 0, _ => rfl
  | n + 1, h => by
    unfold cutTo
    split
    · rename_i h0
      rw [val_cut l n (by omega), val_take_succ l n h]
      have : l[n] = 0 := by simpa [show n < l.length from h] using h0
      rw [this, Nat.zero_mul, Nat.add_zero]
    · rfl
theorem canon_append_one : ∀ {l : List Nat} {d : Nat}, Small l → 0 < d → d < 18446744073709551616 → Canon (l ++ [d])
  | [], d, _, h1, h2 => ⟨h1, h2⟩
  | [e], d, h, h1, h2 => ⟨h e (by simp), h1, h2⟩
  | e :: f :: l, d, h, h1, h2 => ⟨h e (by simp), canon_append_one (l := f :: l) (fun x hx => h x (List.mem_cons_of_mem _ hx)) h1 h2⟩
theorem canon_cut {l : List Nat} (hs : Small l) : ∀ n, n ≤ l.length → Canon (l.take (cutTo l n))
  | 0, _ => by show Canon (l.take 0); rw [List.take_zero]; trivial
  | n + 1, h => by
    unfold cutTo
    split
    · exact canon_cut hs n (by omega)
    · rename_i h0
      rw [List.take_succ_eq_append_getElem h]
      have h1 : l.getD n 0 = l[n] := by simp [show n < l.length from h]
      rw [h1] at h0
      exact canon_append_one (fun x hx => hs x (List.mem_of_mem_take hx)) (by omega) (hs _ (List.getElem_mem h))
/-- What is left is the number's own digits. -/
theorem cut_dig {l : List Nat} (hs : Small l) : l.take (cutTo l l.length) = dig (val l) := by
  have h1 := canon_eq (canon_cut hs l.length (Nat.le_refl _))
  rw [val_cut l l.length (Nat.le_refl _), List.take_length] at h1
  exact h1
/-- Of equal length, alike above k: as the digits at k say. -/
theorem val_split (l : List Nat) (k : Nat) (h : k < l.length) : val l = val (l.take k) + l[k] * 18446744073709551616 ^ k + 18446744073709551616 ^ (k + 1) * val (l.drop (k + 1)) := by
  have e : l = l.take (k + 1) ++ l.drop (k + 1) := (List.take_append_drop _ _).symm
  have h1 := val_append (l.take (k + 1)) (l.drop (k + 1))
  rw [← e, val_take_succ l k h, List.length_take, Nat.min_eq_left (by omega)] at h1
  exact h1
theorem lt_at {a b : List Nat} (ha : Small a) {k : Nat} (h1 : k < a.length) (h2 : k < b.length) (hd : a.drop (k + 1) = b.drop (k + 1)) (h : a[k] < b[k]) : val a < val b := by
  rw [val_split a k h1, val_split b k h2, hd]
  have h3 : val (a.take k) < 18446744073709551616 ^ k := by
    have := val_lt (l := a.take k) fun x hx => ha x (List.mem_of_mem_take hx)
    rwa [List.length_take, Nat.min_eq_left (by omega)] at this
  have h4 : (a[k] + 1) * 18446744073709551616 ^ k ≤ b[k] * 18446744073709551616 ^ k := Nat.mul_le_mul_right _ h
  rw [Nat.add_mul, Nat.one_mul] at h4
  omega
theorem dig_length_le (n k : Nat) (h : n < 18446744073709551616 ^ k) : (dig n).length ≤ k := by
  rcases Nat.lt_or_ge k (dig n).length with h1 | h1
  · have h2 := canon_ge (canon_dig n) (by intro e; rw [e] at h1; exact absurd h1 (by simp))
    rw [val_dig] at h2
    have h3 : 18446744073709551616 ^ k ≤ 18446744073709551616 ^ ((dig n).length - 1) := Nat.pow_le_pow_right (by decide) (by omega)
    omega
  · exact h1
/-- -1, 0, 1. -/
def cmpN (a b : Nat) : Int := if a < b then -1 else if b < a then 1 else 0
/-! Sums, differences, products by one word and quotients by one word, word by word. -/
abbrev B : Nat := 18446744073709551616
theorem val_cons (d : Nat) (l : List Nat) : val (d :: l) = d + 18446744073709551616 * val l := rfl
theorem Small.take {l : List Nat} (h : Small l) (k : Nat) : Small (l.take k) := fun x hx => h x (List.mem_of_mem_take hx)
theorem Small.drop {l : List Nat} (h : Small l) (k : Nat) : Small (l.drop k) := fun x hx => h x (List.mem_of_mem_drop hx)
theorem Small.get {l : List Nat} (h : Small l) {k : Nat} (hk : k < l.length) : l[k] < 18446744073709551616 := h _ (List.getElem_mem hk)
theorem Small.snoc {l : List Nat} (h : Small l) {d : Nat} (hd : d < 18446744073709551616) : Small (l ++ [d]) := fun x hx => by
  rcases List.mem_append.1 hx with h1 | h1
  · exact h x h1
  · simp at h1; omega
theorem val_snoc (l : List Nat) (d : Nat) : val (l ++ [d]) = val l + d * 18446744073709551616 ^ l.length := by
  rw [val_append]
  show _ + _ * (d + 18446744073709551616 * 0) = _
  rw [Nat.mul_zero, Nat.add_zero, Nat.mul_comm]
/-- One step of a product by one word: the words done, the word over. -/
theorem mulStep {x z : List Nat} {k m a c : Nat} (hk : k < x.length) (hz : z.length = k) (h : val z + c * 18446744073709551616 ^ k = val (x.take k) * m + a) :
    val (z ++ [(x[k] * m + c) % 18446744073709551616]) + (x[k] * m + c) / 18446744073709551616 * 18446744073709551616 ^ (k + 1) = val (x.take (k + 1)) * m + a := by
  rw [val_snoc, val_take_succ x k hk, hz, Nat.pow_succ]
  have h1 := Nat.div_add_mod (x[k] * m + c) 18446744073709551616
  generalize (x[k] * m + c) / 18446744073709551616 = q at h1 ⊢
  generalize (x[k] * m + c) % 18446744073709551616 = r at h1 ⊢
  generalize 18446744073709551616 ^ k = P at h ⊢
  have e : r * P + q * (P * 18446744073709551616) = (x[k] * m + c) * P := by
    rw [← h1, Nat.add_mul, Nat.mul_comm P, ← Nat.mul_assoc, Nat.mul_comm q]; omega
  rw [Nat.add_mul] at e
  rw [Nat.add_mul, Nat.mul_right_comm x[k] P m]
  omega
theorem mulStep_lt {x m c : Nat} (hx : x < 18446744073709551616) (hm : m < 18446744073709551616) (hc : c < 18446744073709551616) : (x * m + c) / 18446744073709551616 < 18446744073709551616 := by
  refine (Nat.div_lt_iff_lt_mul (by decide)).2 ?_
  have h1 : x * m ≤ 18446744073709551615 * 18446744073709551615 := Nat.mul_le_mul (by omega) (by omega)
  omega
/-- One step of a sum. -/
theorem addStep {x y z : List Nat} {k c : Nat} (hk : k < x.length) (hk2 : k < y.length) (hz : z.length = k) (h : val z + c * 18446744073709551616 ^ k = val (x.take k) + val (y.take k)) :
    val (z ++ [(x[k] + y[k] + c) % 18446744073709551616]) + (x[k] + y[k] + c) / 18446744073709551616 * 18446744073709551616 ^ (k + 1) = val (x.take (k + 1)) + val (y.take (k + 1)) := by
  rw [val_snoc, val_take_succ x k hk, val_take_succ y k hk2, hz, Nat.pow_succ]
  have h1 := Nat.div_add_mod (x[k] + y[k] + c) 18446744073709551616
  generalize (x[k] + y[k] + c) / 18446744073709551616 = q at h1 ⊢
  generalize (x[k] + y[k] + c) % 18446744073709551616 = r at h1 ⊢
  generalize 18446744073709551616 ^ k = P at h ⊢
  have e : r * P + q * (P * 18446744073709551616) = (x[k] + y[k] + c) * P := by
    rw [← h1, Nat.add_mul, Nat.mul_comm P, ← Nat.mul_assoc, Nat.mul_comm q]; omega
  rw [Nat.add_mul, Nat.add_mul] at e
  omega
/-- One step of a difference: what is borrowed. -/
theorem subStep {x y z : List Nat} {k c r q : Nat} (hk : k < x.length) (hk2 : k < y.length) (hz : z.length = k) (h : val z + val (y.take k) = val (x.take k) + c * 18446744073709551616 ^ k)
    (e : r + y[k] + c = x[k] + q * 18446744073709551616) : val (z ++ [r]) + val (y.take (k + 1)) = val (x.take (k + 1)) + q * 18446744073709551616 ^ (k + 1) := by
  rw [val_snoc, val_take_succ x k hk, val_take_succ y k hk2, hz, Nat.pow_succ]
  generalize 18446744073709551616 ^ k = P at h ⊢
  have e2 : r * P + y[k] * P + c * P = x[k] * P + q * (P * 18446744073709551616) := by
    rw [← Nat.add_mul, ← Nat.add_mul, e, Nat.add_mul, Nat.mul_assoc, Nat.mul_comm P]
  omega
/-- One step of a quotient by one word, from the top. -/
theorem divStep {x : List Nat} {k y r : Nat} {q : List Nat} (hk : k < x.length) (h : val q * y + r = val (x.drop (k + 1))) :
    val ((r * 18446744073709551616 + x[k]) / y :: q) * y + (r * 18446744073709551616 + x[k]) % y = val (x.drop k) := by
  rw [List.drop_eq_getElem_cons hk, val_cons, val_cons, ← h]
  have h1 := Nat.div_add_mod (r * 18446744073709551616 + x[k]) y
  generalize (r * 18446744073709551616 + x[k]) / y = u at h1 ⊢
  generalize (r * 18446744073709551616 + x[k]) % y = v at h1 ⊢
  rw [Nat.add_mul, Nat.mul_assoc, Nat.mul_comm u, Nat.mul_add]
  omega
end Go.Wd
/- Rows of words: a product by one word, word by word. Nothing of a program stands here. -/
set_option linter.unusedSimpArgs false
set_option linter.unusedVariables false
namespace Go.Wd

/-- The words done and the word over, of x times m and a more. -/
def mulUp (x : List Nat) (m a : Nat) : Nat → List Nat × Nat
  | 0 => ([], a)
  | k + 1 => ((mulUp x m a k).1 ++ [(x.getD k 0 * m + (mulUp x m a k).2) % 18446744073709551616], (x.getD k 0 * m + (mulUp x m a k).2) / 18446744073709551616)
theorem mulUp_length (x : List Nat) (m a : Nat) : ∀ k, (mulUp x m a k).1.length = k
  | 0 => rfl
  | k + 1 => by rw [mulUp]; simp [mulUp_length x m a k]
theorem getD_get {x : List Nat} {k : Nat} (h : k < x.length) : x.getD k 0 = x[k] := by simp [h]
theorem mulUp_small (x : List Nat) (m a : Nat) : ∀ k, Small (mulUp x m a k).1
  | 0 => fun d h => by cases h
  | k + 1 => by
    rw [mulUp]
    exact (mulUp_small x m a k).snoc (Nat.mod_lt _ (by decide))
theorem mulUp_over {x : List Nat} {m a : Nat} (hx : Small x) (hm : m < 18446744073709551616) (ha : a < 18446744073709551616) : ∀ k, k ≤ x.length → (mulUp x m a k).2 < 18446744073709551616
  | 0, _ => ha
  | k + 1, h => by
    rw [mulUp, getD_get h]
    exact mulStep_lt (hx.get h) hm (mulUp_over hx hm ha k (by omega))
theorem mulUp_val {x : List Nat} {m a : Nat} : ∀ k, k ≤ x.length → val (mulUp x m a k).1 + (mulUp x m a k).2 * 18446744073709551616 ^ k = val (x.take k) * m + a
  | 0, _ => by simp [mulUp, val]
  | k + 1, h => by
    rw [mulUp, getD_get h]
    exact mulStep h (mulUp_length x m a k) (mulUp_val k (by omega))
/-- All words and the word over. -/
def mulAll (x : List Nat) (m a : Nat) : List Nat := (mulUp x m a x.length).1 ++ [(mulUp x m a x.length).2]
theorem mulAll_length (x : List Nat) (m a : Nat) : (mulAll x m a).length = x.length + 1 := by simp [mulAll, mulUp_length]
theorem mulAll_small {x : List Nat} {m a : Nat} (hx : Small x) (hm : m < 18446744073709551616) (ha : a < 18446744073709551616) : Small (mulAll x m a) :=
  (mulUp_small x m a x.length).snoc (mulUp_over hx hm ha _ (Nat.le_refl _))
theorem mulAll_val (x : List Nat) (m a : Nat) : val (mulAll x m a) = val x * m + a := by
  unfold mulAll
  rw [val_snoc, mulUp_length, mulUp_val _ (Nat.le_refl _), List.take_length]
theorem mulAll_dig {x : List Nat} {m a : Nat} (hx : Small x) (hm : m < 18446744073709551616) (ha : a < 18446744073709551616) : (mulAll x m a).take (cutTo (mulAll x m a) (mulAll x m a).length) = dig (val x * m + a) := by
  rw [cut_dig (mulAll_small hx hm ha), mulAll_val]
theorem mulUp_get (x : List Nat) (m a : Nat) : ∀ k j, j < k → (mulUp x m a k).1[j]? = (mulUp x m a (j + 1)).1[j]?
  | 0, j, h => absurd h (by omega)
  | k + 1, j, h => by
    by_cases e : j = k
    · subst e; rfl
    · rw [mulUp, List.getElem?_append_left (by rw [mulUp_length]; omega)]
      exact mulUp_get x m a k j (by omega)
theorem dig_one {d : Nat} (h : 0 < d) (h2 : d < 18446744073709551616) : dig d = [d] := by
  rw [dig_pos h, Nat.mod_eq_of_lt h2, Nat.div_eq_of_lt h2, dig_zero]
theorem dig_eq_nil {n : Nat} : dig n = [] ↔ n = 0 := by
  constructor
  · intro h
    rcases Nat.eq_zero_or_pos n with h1 | h1
    · exact h1
    · rw [dig_pos h1] at h; cases h
  · rintro rfl; exact dig_zero
theorem small_dig (n : Nat) : Small (dig n) := (canon_dig n).small
end Go.Wd
