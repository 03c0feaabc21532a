/- Bodies that pull each other, as plain functions: no push is lost, and the middle goes on by it. No program stands here. -/
import Derived.Test.YtlfpfeidaohjmaaDoorBp
set_option linter.unusedSimpArgs false
set_option linter.unusedVariables false
namespace Go.Bo
open Go.Proofs.YtlfpfeidaohjmaaDoor

/-- What the first n bodies push; their middle, times all mass. -/
def push : Nat → (Nat → Bd) → C3
  | 0, _ => C3.zero
  | n + 1, B => (push n B).more (B n).m (B n).v
def mid : Nat → (Nat → Bd) → C3
  | 0, _ => C3.zero
  | n + 1, B => (mid n B).more (B n).m (B n).p

/-- One of the three numbers of a place. -/
structure Lin (f : C3 → Int) : Prop where
  more : ∀ a k b, f (a.more k b) = f a + k * f b
  zero : f C3.zero = 0
  neg : ∀ a, f a.neg = -f a
theorem lx : Lin C3.x := ⟨fun _ _ _ => rfl, rfl, fun _ => rfl⟩
theorem ly : Lin C3.y := ⟨fun _ _ _ => rfl, rfl, fun _ => rfl⟩
theorem lz : Lin C3.z := ⟨fun _ _ _ => rfl, rfl, fun _ => rfl⟩
def sumN : Nat → (Nat → Int) → Int
  | 0, _ => 0
  | n + 1, g => sumN n g + g n
theorem sumN_add (n : Nat) (g h : Nat → Int) : sumN n (fun i => g i + h i) = sumN n g + sumN n h := by
  induction n with
  | zero => rfl
  | succ n ih => simp only [sumN, ih]; omega
theorem sumN_mul (n : Nat) (k : Int) (g : Nat → Int) : sumN n (fun i => k * g i) = k * sumN n g := by
  induction n with
  | zero => simp [sumN]
  | succ n ih => simp only [sumN, ih, Int.mul_add]
theorem sumN_congr (n : Nat) (g h : Nat → Int) (e : ∀ i, i < n → g i = h i) : sumN n g = sumN n h := by
  induction n with
  | zero => rfl
  | succ n ih => simp only [sumN, ih (fun i hi => e i (by omega)), e n (by omega)]
theorem push_sum {f : C3 → Int} (hf : Lin f) (n : Nat) (B : Nat → Bd) : f (push n B) = sumN n (fun i => (B i).m * f (B i).v) := by
  induction n with
  | zero => exact hf.zero
  | succ n ih => simp only [push, hf.more, ih, sumN]
theorem mid_sum {f : C3 → Int} (hf : Lin f) (n : Nat) (B : Nat → Bd) : f (mid n B) = sumN n (fun i => (B i).m * f (B i).p) := by
  induction n with
  | zero => exact hf.zero
  | succ n ih => simp only [mid, hf.more, ih, sumN]
theorem ks_off {f : C3 → Int} (hf : Lin f) (B : Nat → Bd) (i k : Nat) (h : k ≤ i) : f (ks B i k) = sumN k (fun j => (B j).m * f (pv B i j)) := by
  induction k with
  | zero => exact hf.zero
  | succ k ih =>
    unfold ks
    rw [if_neg (by omega), hf.more, ih (by omega)]; rfl
/-- All that is pulled goes out. -/
theorem pulls_out {f : C3 → Int} (hf : Lin f) (B : Nat → Bd) (n : Nat) : sumN n (fun i => (B i).m * f (ks B i n)) = 0 := by
  induction n with
  | zero => rfl
  | succ n ih =>
    have e1 : sumN n (fun i => (B i).m * f (ks B i (n + 1))) = sumN n (fun i => (B i).m * f (ks B i n) + (B i).m * ((B n).m * f (pv B i n))) := by
      refine sumN_congr n _ _ fun i hi => ?_
      simp only [ks]
      rw [if_neg (by omega), hf.more, Int.mul_add]
    have e2 : f (ks B n (n + 1)) = sumN n (fun j => (B j).m * f (pv B n j)) := by
      simp only [ks, if_true]
      exact ks_off hf B n n (Nat.le_refl _)
    have e3 : sumN n (fun i => (B i).m * ((B n).m * f (pv B i n))) = -((B n).m * sumN n (fun j => (B j).m * f (pv B n j))) := by
      rw [← sumN_mul]
      have : ∀ m (g h : Nat → Int), (∀ i, g i = -h i) → sumN m g = -sumN m h := fun m g h e => by
        induction m with
        | zero => rfl
        | succ m im => simp only [sumN, im, e]; omega
      refine this n _ _ fun i => ?_
      rw [pv_neg B n i, hf.neg, Int.mul_neg, Int.mul_neg, ← Int.mul_assoc, ← Int.mul_assoc, Int.mul_comm (B i).m (B n).m]
    rw [sumN, e1, sumN_add, ih, e2, e3]
    omega
theorem push_kick' {f : C3 → Int} (hf : Lin f) (n : Nat) (s : Int) (B : Nat → Bd) : f (push n (kick n s B)) = f (push n B) := by
  rw [push_sum hf, push_sum hf]
  have e : sumN n (fun i => (kick n s B i).m * f (kick n s B i).v) = sumN n (fun i => (B i).m * f (B i).v + s * ((B i).m * f (ks B i n))) := by
    refine sumN_congr n _ _ fun i hi => ?_
    show (B i).m * f ((B i).v.more s (ks B i n)) = _
    rw [hf.more, Int.mul_add, ← Int.mul_assoc, ← Int.mul_assoc, Int.mul_comm (B i).m s]
  rw [e, sumN_add, sumN_mul, pulls_out hf]
  omega
theorem push_kick (n : Nat) (s : Int) (B : Nat → Bd) : push n (kick n s B) = push n B := C3.ext (push_kick' lx ..) (push_kick' ly ..) (push_kick' lz ..)
theorem push_drift (n : Nat) (s : Int) (B : Nat → Bd) : push n (drift s B) = push n B := by
  induction n with
  | zero => rfl
  | succ n ih => simp only [push, ih]; rfl
theorem mid_kick (n k : Nat) (s : Int) (B : Nat → Bd) : mid k (kick n s B) = mid k B := by
  induction k with
  | zero => rfl
  | succ k ih => simp only [mid, ih]; rfl
theorem mid_drift' {f : C3 → Int} (hf : Lin f) (n : Nat) (s : Int) (B : Nat → Bd) : f (mid n (drift s B)) = f (mid n B) + s * f (push n B) := by
  rw [mid_sum hf, mid_sum hf, push_sum hf]
  have e : sumN n (fun i => (drift s B i).m * f (drift s B i).p) = sumN n (fun i => (B i).m * f (B i).p + s * ((B i).m * f (B i).v)) := by
    refine sumN_congr n _ _ fun i hi => ?_
    show (B i).m * f ((B i).p.more s (B i).v) = _
    rw [hf.more, Int.mul_add, ← Int.mul_assoc, ← Int.mul_assoc, Int.mul_comm (B i).m s]
  rw [e, sumN_add, sumN_mul]
theorem mid_drift (n : Nat) (s : Int) (B : Nat → Bd) : mid n (drift s B) = (mid n B).more s (push n B) := C3.ext (mid_drift' lx ..) (mid_drift' ly ..) (mid_drift' lz ..)
theorem step_push {n : Nat} {s : Int} {B E : Nat → Bd} (h : step n s B = some E) : push n E = push n B ∧ mid n E = (mid n B).more s (push n B) := by
  obtain ⟨rfl, _⟩ := step_some h
  refine ⟨by rw [push_kick, push_drift, push_kick], by rw [mid_kick, mid_drift, mid_kick, push_kick]⟩
theorem more_add (a : C3) (j k : Int) (b : C3) : (a.more j b).more k b = a.more (j + k) b := by
  unfold C3.more
  exact C3.ext (by simp only [Int.add_mul]; omega) (by simp only [Int.add_mul]; omega) (by simp only [Int.add_mul]; omega)
theorem run_push {n : Nat} {s : Int} {k : Nat} {B E : Nat → Bd} (h : run n s k B = some E) : push n E = push n B ∧ mid n E = (mid n B).more (k * s) (push n B) := by
  induction k generalizing E with
  | zero => cases h; exact ⟨rfl, by unfold C3.more; simp⟩
  | succ k ih =>
    obtain ⟨C, hC, hs⟩ := Option.bind_eq_some_iff.1 h
    obtain ⟨h1, h2⟩ := ih hC
    obtain ⟨h3, h4⟩ := step_push hs
    refine ⟨h3.trans h1, ?_⟩
    rw [h4, h2, h1, more_add]
    congr 1
    push_cast
    rw [Int.add_mul]; omega

/-! How great these become. -/
theorem push_bd {n : Nat} {B : Nat → Bd} {V : Int} (hV : 0 ≤ V) (hm : okM n B) (hv : ∀ i, i < n → (B i).v.le V) (k : Nat) (hk : k ≤ n) : (push k B).le (k * (65536 * V)) := by
  induction k with
  | zero => simp [push, C3.le, C3.zero]
  | succ k ih =>
    obtain ⟨⟨i1, i2⟩, ⟨i3, i4⟩, ⟨i5, i6⟩⟩ := ih (by omega)
    obtain ⟨m1, m2⟩ := hm k (by omega)
    obtain ⟨⟨p1, p2⟩, ⟨p3, p4⟩, ⟨p5, p6⟩⟩ := hv k (by omega)
    have hx := mul_bd m1 m2 p1 p2 hV
    have hy := mul_bd m1 m2 p3 p4 hV
    have hz := mul_bd m1 m2 p5 p6 hV
    unfold C3.le push C3.more
    simp only
    generalize 65536 * V = X at *
    have : ((k + 1 : Nat) : Int) * X = k * X + X := by push_cast; rw [Int.add_mul]; omega
    rw [this]
    omega
theorem mid_bd {n : Nat} {B : Nat → Bd} {V : Int} (hV : 0 ≤ V) (hm : okM n B) (hv : ∀ i, i < n → (B i).p.le V) (k : Nat) (hk : k ≤ n) : (mid k B).le (k * (65536 * V)) := by
  induction k with
  | zero => simp [mid, C3.le, C3.zero]
  | succ k ih =>
    obtain ⟨⟨i1, i2⟩, ⟨i3, i4⟩, ⟨i5, i6⟩⟩ := ih (by omega)
    obtain ⟨m1, m2⟩ := hm k (by omega)
    obtain ⟨⟨p1, p2⟩, ⟨p3, p4⟩, ⟨p5, p6⟩⟩ := hv k (by omega)
    have hx := mul_bd m1 m2 p1 p2 hV
    have hy := mul_bd m1 m2 p3 p4 hV
    have hz := mul_bd m1 m2 p5 p6 hV
    unfold C3.le mid C3.more
    simp only
    generalize 65536 * V = X at *
    have : ((k + 1 : Nat) : Int) * X = k * X + X := by push_cast; rw [Int.add_mul]; omega
    rw [this]
    omega

/-! The pairs, one behind the other, as the document has them. -/
/-- The speed of body j when the pairs ahead of (i, k) have been worked. -/
def pairV (n : Nat) (s : Int) (B : Nat → Bd) (i k j : Nat) : C3 :=
  if j < i then kv s B j n else if j = i then kv s B i k else kv s B j (if j < k then i + 1 else i)
theorem pair_start (n : Nat) (s : Int) (B : Nat → Bd) (i j : Nat) (h : i < n) : pairV n s B i (i + 1) j = if j < i then kv s B j n else kv s B j i := by
  unfold pairV
  split
  · rfl
  · split
    · rename_i e; subst e; exact kv_self s B j
    · rw [if_neg (by omega)]
theorem pair_end (n : Nat) (s : Int) (B : Nat → Bd) (i j : Nat) (hj : j < n) : pairV n s B i n j = if j < i + 1 then kv s B j n else kv s B j (i + 1) := by
  unfold pairV
  split
  · rw [if_pos (by omega)]
  · split
    · rename_i e; subst e; rw [if_pos (by omega)]
    · rename_i h1 h2
      have h3 : ¬ j < i + 1 := by omega
      simp only [hj, h3, if_true, if_false]
theorem pair_i (n : Nat) (s : Int) (B : Nat → Bd) {i k : Nat} (h : i < k) : pairV n s B i (k + 1) i = (pairV n s B i k i).more (s * (B k).m) (pv B i k) := by
  unfold pairV
  rw [if_neg (by omega), if_pos rfl, if_neg (by omega), if_pos rfl, kv_succ s B (by omega)]
theorem pair_k (n : Nat) (s : Int) (B : Nat → Bd) {i k : Nat} (h : i < k) : pairV n s B i (k + 1) k = (pairV n s B i k k).more (-s * (B i).m) (pv B i k) := by
  unfold pairV
  rw [if_neg (by omega), if_neg (by omega), if_pos (by omega), if_neg (by omega), if_neg (by omega), if_neg (by omega), kv_succ s B (by omega), pv_neg B i k]
  unfold C3.more C3.neg
  exact C3.ext (by simp [Int.mul_neg, Int.neg_mul]) (by simp [Int.mul_neg, Int.neg_mul]) (by simp [Int.mul_neg, Int.neg_mul])
theorem pair_other (n : Nat) (s : Int) (B : Nat → Bd) {i k j : Nat} (h : i < k) (hi : j ≠ i) (hk : j ≠ k) : pairV n s B i (k + 1) j = pairV n s B i k j := by
  unfold pairV
  split
  · rfl
  · by_cases h2 : j < k
    · rw [if_pos (by omega), if_pos h2]
    · rw [if_neg (by omega), if_neg h2]
end Go.Bo
