/- Bodies that pull each other, as plain functions: a step, and what undoes it. No program stands here. -/
import Derived.Test.YtlfpfeidaohjmaaDoorBw3
set_option linter.unusedSimpArgs false
set_option linter.unusedVariables false
namespace Go.Bo
open Go.Proofs.YtlfpfeidaohjmaaDoor

structure C3 where
  x : Int
  y : Int
  z : Int
structure Bd where
  p : C3
  v : C3
  m : Int
def C3.more (a : C3) (k : Int) (b : C3) : C3 := ⟨a.x + k * b.x, a.y + k * b.y, a.z + k * b.z⟩
def C3.less (a b : C3) : C3 := ⟨a.x - b.x, a.y - b.y, a.z - b.z⟩
def C3.neg (a : C3) : C3 := ⟨-a.x, -a.y, -a.z⟩
def C3.zero : C3 := ⟨0, 0, 0⟩
theorem C3.ext {a b : C3} (hx : a.x = b.x) (hy : a.y = b.y) (hz : a.z = b.z) : a = b := by
  cases a; cases b; simp_all
/-- Each number from -m to m. -/
def C3.le (c : C3) (m : Int) : Prop := (-m ≤ c.x ∧ c.x ≤ m) ∧ (-m ≤ c.y ∧ c.y ≤ m) ∧ (-m ≤ c.z ∧ c.z ≤ m)
def C3.inB (c : C3) (m : Int) : Bool := insB c.x c.y c.z m
theorem C3.inB_iff (c : C3) (m : Int) : c.inB m = true ↔ c.le m := by
  unfold C3.inB insB C3.le; simp; omega
theorem C3.le.mono {c : C3} {m n : Int} (h : c.le m) (hn : m ≤ n) : c.le n := by unfold C3.le at *; omega
theorem C3.le.less {a b : C3} {m n : Int} (h : a.le m) (k : b.le n) : (a.less b).le (m + n) := by unfold C3.le C3.less at *; simp only; omega
def pullC (d : C3) : C3 := ⟨pullZ d.x d.y d.z d.x, pullZ d.x d.y d.z d.y, pullZ d.x d.y d.z d.z⟩

theorem pullZ_neg' (x y z n : Int) : pullZ (-x) (-y) (-z) (-n) = -pullZ x y z n := by
  have e : insB (-x) (-y) (-z) 2097152 = insB x y z 2097152 := by
    unfold insB
    rw [Bool.eq_iff_iff]; simp; omega
  have e2 : r2Z (-x) (-y) (-z) = r2Z x y z := by unfold r2Z; simp only [Int.neg_mul_neg]
  unfold pullZ
  rw [e, e2]
  split
  · exact shareZ_neg ..
  · rfl
theorem pullC_neg (d : C3) : pullC d.neg = (pullC d).neg := C3.ext (pullZ_neg' ..) (pullZ_neg' ..) (pullZ_neg' ..)
theorem less_neg (a b : C3) : a.less b = (b.less a).neg := by unfold C3.less C3.neg; exact C3.ext (by simp only; omega) (by simp only; omega) (by simp only; omega)

theorem sq8 (n : Int) : 16 * n ≤ n * n + 64 ∧ -(16 * n) ≤ n * n + 64 := by
  have h1 : 0 ≤ (n - 8) * (n - 8) := by
    rcases Int.le_total 0 (n - 8) with h | h
    · exact Int.mul_nonneg h h
    · exact Int.mul_nonneg_of_nonpos_of_nonpos h h
  have h2 : 0 ≤ (n + 8) * (n + 8) := by
    rcases Int.le_total 0 (n + 8) with h | h
    · exact Int.mul_nonneg h h
    · exact Int.mul_nonneg_of_nonpos_of_nonpos h h
  have e1 : (n - 8) * (n - 8) = n * n - 16 * n + 64 := by rw [Int.sub_mul, Int.mul_sub, Int.mul_sub]; omega
  have e2 : (n + 8) * (n + 8) = n * n + 16 * n + 64 := by rw [Int.add_mul, Int.mul_add, Int.mul_add]; omega
  omega
theorem tdiv_le {a b B : Int} (hb : 0 < b) (h1 : -(B * b) ≤ a) (h2 : a ≤ B * b) (hB : 0 ≤ B) : -B ≤ a.tdiv b ∧ a.tdiv b ≤ B := by
  rcases Int.le_total 0 a with h | h
  · have := Int.tdiv_nonneg h (Int.le_of_lt hb)
    rw [Int.tdiv_eq_ediv_of_nonneg h] at *
    have h3 := Int.ediv_le_of_le_mul hb h2
    omega
  · have e : a.tdiv b = -((-a).tdiv b) := by rw [Int.neg_tdiv]; omega
    have h0 : 0 ≤ -a := by omega
    have := Int.tdiv_nonneg h0 (Int.le_of_lt hb)
    rw [e]
    rw [Int.tdiv_eq_ediv_of_nonneg h0] at *
    have h3 : (-a) / b ≤ B := Int.ediv_le_of_le_mul hb (by omega)
    omega
theorem sq_nonneg (n : Int) : 0 ≤ n * n := by
  rcases Int.le_total 0 n with h | h
  · exact Int.mul_nonneg h h
  · exact Int.mul_nonneg_of_nonpos_of_nonpos h h
theorem shareZ_bd (n q r : Int) (hq : n * n ≤ q) (hr : 0 ≤ r) : -8388608 ≤ shareZ n q r ∧ shareZ n q r ≤ 8388608 := by
  unfold shareZ
  have h8 := sq8 n
  have h0 := sq_nonneg n
  obtain ⟨h1, h2⟩ := tdiv_le (a := n * 1073741824) (b := q + 64) (B := 67108864) (by omega) (by omega) (by omega) (by omega)
  exact tdiv_le (a := (n * 1073741824).tdiv (q + 64)) (b := r + 8) (B := 8388608) (by omega) (by omega) (by omega) (by omega)
theorem pullC_bd (d : C3) : (pullC d).le 8388608 := by
  have hx := sq_nonneg d.x
  have hy := sq_nonneg d.y
  have hz := sq_nonneg d.z
  unfold C3.le pullC pullZ
  simp only
  split
  · exact ⟨shareZ_bd _ _ _ (by unfold r2Z; omega) (by omega), shareZ_bd _ _ _ (by unfold r2Z; omega) (by omega), shareZ_bd _ _ _ (by unfold r2Z; omega) (by omega)⟩
  · omega

/-- The pull along the way from body i to body k. -/
def pv (B : Nat → Bd) (i k : Nat) : C3 := pullC ((B k).p.less (B i).p)
theorem pv_neg (B : Nat → Bd) (i k : Nat) : pv B k i = (pv B i k).neg := by
  unfold pv; rw [less_neg, pullC_neg]
/-- All that pulls body i, of the first k. -/
def ks (B : Nat → Bd) (i : Nat) : Nat → C3
  | 0 => C3.zero
  | k + 1 => if i = k then ks B i k else (ks B i k).more (B k).m (pv B i k)
def kv (s : Int) (B : Nat → Bd) (i k : Nat) : C3 := (B i).v.more s (ks B i k)
theorem kv_zero (s : Int) (B : Nat → Bd) (i : Nat) : kv s B i 0 = (B i).v := by
  unfold kv ks C3.more C3.zero; simp
theorem kv_self (s : Int) (B : Nat → Bd) (i : Nat) : kv s B i (i + 1) = kv s B i i := by
  unfold kv; rw [ks, if_pos rfl]
theorem more_more (a : C3) (s m : Int) (k p : C3) : a.more s (k.more m p) = (a.more s k).more (s * m) p := by
  unfold C3.more
  exact C3.ext (by simp only [Int.mul_add, Int.mul_assoc]; omega) (by simp only [Int.mul_add, Int.mul_assoc]; omega) (by simp only [Int.mul_add, Int.mul_assoc]; omega)
theorem kv_succ (s : Int) (B : Nat → Bd) {i k : Nat} (h : i ≠ k) : kv s B i (k + 1) = (kv s B i k).more (s * (B k).m) (pv B i k) := by
  unfold kv; rw [ks, if_neg h, more_more]
def kick (n : Nat) (s : Int) (B : Nat → Bd) : Nat → Bd := fun i => ⟨(B i).p, kv s B i n, (B i).m⟩
def drift (s : Int) (B : Nat → Bd) : Nat → Bd := fun i => ⟨(B i).p.more s (B i).v, (B i).v, (B i).m⟩
theorem pv_same {B C : Nat → Bd} (h : ∀ i, (B i).p = (C i).p) (i k : Nat) : pv B i k = pv C i k := by unfold pv; rw [h, h]
theorem ks_same {B C : Nat → Bd} (h : ∀ i, (B i).p = (C i).p) (hm : ∀ i, (B i).m = (C i).m) (i k : Nat) : ks B i k = ks C i k := by
  induction k with
  | zero => rfl
  | succ k ih => unfold ks; rw [ih, hm, pv_same h]
theorem more_back (a : C3) (s : Int) (k : C3) : (a.more s k).more (-s) k = a := by
  unfold C3.more
  exact C3.ext (by simp only [Int.neg_mul]; omega) (by simp only [Int.neg_mul]; omega) (by simp only [Int.neg_mul]; omega)
theorem Bd.ext {a b : Bd} (hp : a.p = b.p) (hv : a.v = b.v) (hm : a.m = b.m) : a = b := by cases a; cases b; simp_all
theorem kick_back (n : Nat) (s : Int) (B : Nat → Bd) : kick n (-s) (kick n s B) = B := by
  funext i
  refine Bd.ext rfl ?_ rfl
  show ((B i).v.more s (ks B i n)).more (-s) (ks (kick n s B) i n) = (B i).v
  rw [ks_same (B := kick n s B) (C := B) (fun _ => rfl) (fun _ => rfl)]
  exact more_back _ _ _
theorem drift_back (s : Int) (B : Nat → Bd) : drift (-s) (drift s B) = B := by
  funext i
  exact Bd.ext (more_back _ _ _) rfl rfl

def okP (n : Nat) (B : Nat → Bd) : Prop := ∀ i, i < n → (B i).p.le 1048576
def okV (n : Nat) (B : Nat → Bd) : Prop := ∀ i, i < n → (B i).v.le 1048576
def okM (n : Nat) (B : Nat → Bd) : Prop := ∀ i, i < n → 0 ≤ (B i).m ∧ (B i).m ≤ 65536
structure Ok (n : Nat) (B : Nat → Bd) : Prop where
  p : okP n B
  v : okV n B
  m : okM n B
open Classical in
noncomputable def step (n : Nat) (s : Int) (B : Nat → Bd) : Option (Nat → Bd) :=
  if okP n (drift s (kick n s B)) then (if okV n (kick n s (drift s (kick n s B))) then some (kick n s (drift s (kick n s B))) else none) else none
theorem step_some {n : Nat} {s : Int} {B E : Nat → Bd} (h : step n s B = some E) : E = kick n s (drift s (kick n s B)) ∧ okP n (drift s (kick n s B)) ∧ okV n (kick n s (drift s (kick n s B))) := by
  unfold step at h
  split at h
  · split at h
    · cases h; exact ⟨rfl, by assumption, by assumption⟩
    · cases h
  · cases h
theorem kick_p (n : Nat) (s : Int) (B : Nat → Bd) (i : Nat) : (kick n s B i).p = (B i).p := rfl
theorem kick_m (n : Nat) (s : Int) (B : Nat → Bd) (i : Nat) : (kick n s B i).m = (B i).m := rfl
theorem drift_m (s : Int) (B : Nat → Bd) (i : Nat) : (drift s B i).m = (B i).m := rfl
theorem okP_kick {n : Nat} {s : Int} {B : Nat → Bd} (h : okP n B) : okP n (kick n s B) := fun i hi => by rw [kick_p]; exact h i hi
theorem step_ok {n : Nat} {s : Int} {B E : Nat → Bd} (hB : Ok n B) (h : step n s B = some E) : Ok n E := by
  obtain ⟨rfl, h1, h2⟩ := step_some h
  exact ⟨okP_kick h1, h2, fun i hi => by rw [kick_m, drift_m, kick_m]; exact hB.m i hi⟩
theorem step_back {n : Nat} {s : Int} {B E : Nat → Bd} (hB : Ok n B) (h : step n s B = some E) : step n (-s) E = some B := by
  obtain ⟨rfl, h1, h2⟩ := step_some h
  unfold step
  rw [kick_back, drift_back, kick_back, if_pos (okP_kick hB.p), if_pos hB.v]
noncomputable def run (n : Nat) (s : Int) : Nat → (Nat → Bd) → Option (Nat → Bd)
  | 0, B => some B
  | k + 1, B => (run n s k B).bind (step n s)
theorem run_ok {n : Nat} {s : Int} {k : Nat} {B E : Nat → Bd} (hB : Ok n B) (h : run n s k B = some E) : Ok n E := by
  induction k generalizing E with
  | zero => cases h; exact hB
  | succ k ih =>
    obtain ⟨C, hC, hs⟩ := Option.bind_eq_some_iff.1 h
    exact step_ok (ih hC) hs
theorem run_add (n : Nat) (s : Int) (j k : Nat) (B : Nat → Bd) : run n s (j + k) B = (run n s j B).bind (run n s k) := by
  induction k with
  | zero => cases run n s j B <;> rfl
  | succ k ih =>
    show (run n s (j + k) B).bind (step n s) = _
    rw [ih]
    cases run n s j B <;> rfl
theorem run_back {n : Nat} {s : Int} {k : Nat} {B E : Nat → Bd} (hB : Ok n B) (h : run n s k B = some E) : run n (-s) k E = some B := by
  induction k generalizing E with
  | zero => cases h; rfl
  | succ k ih =>
    obtain ⟨C, hC, hs⟩ := Option.bind_eq_some_iff.1 h
    rw [Nat.add_comm, run_add]
    show ((some E).bind (step n (-s))).bind (run n (-s) k) = _
    rw [Option.bind_some, step_back (run_ok hB hC) hs]
    exact ih hC

/-! How great the numbers become. -/
theorem mul_bd {m p M P : Int} (hm : 0 ≤ m) (hm' : m ≤ M) (h1 : -P ≤ p) (h2 : p ≤ P) (hP : 0 ≤ P) : -(M * P) ≤ m * p ∧ m * p ≤ M * P := by
  have a1 : m * p ≤ m * P := Int.mul_le_mul_of_nonneg_left h2 hm
  have a2 : m * P ≤ M * P := Int.mul_le_mul_of_nonneg_right hm' hP
  have a3 : m * -P ≤ m * p := Int.mul_le_mul_of_nonneg_left h1 hm
  rw [Int.mul_neg] at a3
  omega
theorem ks_bd {n : Nat} {B : Nat → Bd} (hm : okM n B) (i k : Nat) (hk : k ≤ n) : (ks B i k).le (k * 549755813888) := by
  induction k with
  | zero => simp [ks, C3.le, C3.zero]
  | succ k ih =>
    have ih := ih (by omega)
    unfold ks
    split
    · exact ih.mono (by omega)
    · obtain ⟨m1, m2⟩ := hm k (by omega)
      obtain ⟨⟨p1, p2⟩, ⟨p3, p4⟩, ⟨p5, p6⟩⟩ := pullC_bd ((B k).p.less (B i).p)
      have hx := mul_bd m1 m2 p1 p2 (by decide)
      have hy := mul_bd m1 m2 p3 p4 (by decide)
      have hz := mul_bd m1 m2 p5 p6 (by decide)
      obtain ⟨⟨i1, i2⟩, ⟨i3, i4⟩, ⟨i5, i6⟩⟩ := ih
      unfold C3.le C3.more pv
      simp only
      omega
theorem sgn_bd {s a M : Int} (hs : s = 1 ∨ s = -1) (h1 : -M ≤ a) (h2 : a ≤ M) : -M ≤ s * a ∧ s * a ≤ M := by
  rcases hs with rfl | rfl <;> omega
theorem kv_bd {n : Nat} {s : Int} {B : Nat → Bd} {V : Int} (hs : s = 1 ∨ s = -1) (hn : n ≤ 12) (hm : okM n B) {i k : Nat} (hk : k ≤ n) (hv : (B i).v.le V) : (kv s B i k).le (V + 6597069766656) := by
  have h := ks_bd hm i k hk
  obtain ⟨⟨i1, i2⟩, ⟨i3, i4⟩, ⟨i5, i6⟩⟩ := h
  obtain ⟨⟨v1, v2⟩, ⟨v3, v4⟩, ⟨v5, v6⟩⟩ := hv
  have hx := sgn_bd hs i1 i2
  have hy := sgn_bd hs i3 i4
  have hz := sgn_bd hs i5 i6
  have : (k : Int) ≤ 12 := by omega
  unfold C3.le kv C3.more
  simp only
  omega
end Go.Bo
