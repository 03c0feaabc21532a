/- The document's kick: pair by pair. -/
import Derived.Test.YtlfpfeidaohjmaaDoorBw18
set_option linter.unusedSimpArgs false
set_option linter.unusedVariables false
namespace Go.Proofs.YtlfpfeidaohjmaaDoor
open Go.RowKit Go.Grow Go.Bo

theorem Fits.neg {a : C3} {k : Int} {b : C3} (h : Fits a k b.neg) : Fits a (-k) b := by
  obtain ⟨h1, h2⟩ := h
  have e : ∀ x : Int, k * -x = -k * x := fun x => by rw [Int.mul_neg, Int.neg_mul]
  unfold Fits C3.more C3.neg at *
  simp only [e] at h1 h2
  exact ⟨h1, h2⟩
theorem more_neg (a : C3) (k : Int) (b : C3) : a.more k b.neg = a.more (-k) b := by
  have e : ∀ x : Int, k * -x = -k * x := fun x => by rw [Int.mul_neg, Int.neg_mul]
  unfold C3.more C3.neg
  simp only [e]
/-- The bodies when the pairs ahead of (i, k) have been worked; and when those of all ahead of i have. -/
def pB (n : Nat) (s : Int) (B : Nat → Bd) (i k : Nat) : Nat → Bd := fun j => ⟨(B j).p, pairV n s B i k j, (B j).m⟩
def oB (n : Nat) (s : Int) (B : Nat → Bd) (i : Nat) : Nat → Bd := fun j => ⟨(B j).p, if j < i then kv s B j n else kv s B j i, (B j).m⟩
theorem oB_zero (n : Nat) (s : Int) (B : Nat → Bd) : oB n s B 0 = B := by
  funext j
  refine Bd.ext rfl ?_ rfl
  unfold oB; simp only; rw [if_neg (by omega), kv_zero]
theorem oB_end (n : Nat) (s : Int) (B : Nat → Bd) (j : Nat) (hj : j < n) : oB n s B n j = kick n s B j := by
  refine Bd.ext rfl ?_ rfl
  unfold oB kick; simp only; rw [if_pos hj]
theorem pB_start (n : Nat) (s : Int) (B : Nat → Bd) {i : Nat} (h : i < n) : pB n s B i (i + 1) = oB n s B i := by
  funext j
  refine Bd.ext rfl ?_ rfl
  unfold pB oB; simp only; exact pair_start n s B i j h
theorem pB_end (n : Nat) (s : Int) (B : Nat → Bd) (i j : Nat) (hj : j < n) : pB n s B i n j = oB n s B (i + 1) j := by
  refine Bd.ext rfl ?_ rfl
  unfold pB oB; simp only; exact pair_end n s B i j hj
theorem pB_i (n : Nat) (s : Int) (B : Nat → Bd) (i k : Nat) : (pB n s B i k i).v = kv s B i k := by
  unfold pB pairV; simp
theorem pB_k (n : Nat) (s : Int) (B : Nat → Bd) {i k : Nat} (h : i < k) : (pB n s B i k k).v = kv s B k i := by
  unfold pB pairV
  simp only
  rw [if_neg (by omega), if_neg (by omega), if_neg (by omega)]
theorem pB_set (n : Nat) (s : Int) (B : Nat → Bd) {i k : Nat} (h : i < k) : updV (updV (pB n s B i k) i ((kv s B i k).more (s * (B k).m) (pv B i k))) k ((kv s B k i).more (-s * (B i).m) (pv B i k)) = pB n s B i (k + 1) := by
  have e1 := pair_i n s B h
  have e2 := pair_k n s B h
  have g1 := pB_i n s B i k
  have g2 := pB_k n s B h
  unfold pB at g1 g2
  simp only at g1 g2
  rw [g1] at e1
  rw [g2] at e2
  rw [← e1, ← e2]
  funext j
  unfold updV
  by_cases hk : j = k
  · subst hk; rw [if_pos rfl]
    by_cases hi : j = i
    · omega
    · rw [if_neg hi]; rfl
  · rw [if_neg hk]
    by_cases hi : j = i
    · subst hi; rw [if_pos rfl]; rfl
    · rw [if_neg hi]
      refine Bd.ext rfl ?_ rfl
      exact (pair_other n s B h hi hk).symm
theorem kv_v (n : Nat) (s : Int) (B : Nat → Bd) {i k : Nat} (h : i < k) : (updV (pB n s B i k) i ((kv s B i k).more (s * (B k).m) (pv B i k)) k).v = kv s B k i := by
  unfold updV
  rw [if_neg (by omega), pB_k n s B h]
end Go.Proofs.YtlfpfeidaohjmaaDoor
