/- Spans: how long they are, the program's. -/
import Derived.Test.YtjjjbkehmnfgbaaDoorNs4
set_option linter.unusedSimpArgs false
set_option linter.unusedVariables false
namespace Go.Proofs.YtjjjbkehmnfgbaaDoor
open Go.RowKit Go.Grow

theorem okUp_at {l : List (Int × Int)} : ∀ {m : Nat}, okUp l m = true → ∀ k, k < m → okAt l k = true
  | 0, _, k, hk => absurd hk (by omega)
  | m + 1, h, k, hk => by
    rw [okUp, Bool.and_eq_true] at h
    rcases Nat.lt_or_ge k m with h1 | h1
    · exact okUp_at h.1 k h1
    · obtain rfl : k = m := by omega
      exact h.2
/-- What a right list tells. -/
theorem fine_at {l : List (Int × Int)} (h : fineB l = true) (k : Nat) (hk : k < l.length) : l[k].1 < l[k].2 ∧ -1152921504606846976 ≤ l[k].1 ∧ l[k].2 ≤ 1152921504606846976 ∧ ∀ j (hj : j + 1 = k), (l[j]'(by omega)).2 < l[k].1 := by
  have h1 := okUp_at h k hk
  rcases Nat.eq_zero_or_pos k with h0 | h0
  · rw [okAt_zero hk (xa := l[k].1) (xb := l[k].2) rfl h0] at h1
    simp only [Bool.and_eq_true, decide_eq_true_eq] at h1
    exact ⟨h1.1.1, h1.1.2, h1.2, fun j hj => absurd hj (by omega)⟩
  · obtain ⟨j, hj⟩ : ∃ j, j + 1 = k := ⟨k - 1, by omega⟩
    rw [okAt_pos hk (xa := l[k].1) (xb := l[k].2) rfl hj (ya := (l[j]'(by omega)).1) (yb := (l[j]'(by omega)).2) rfl] at h1
    simp only [Bool.and_eq_true, decide_eq_true_eq] at h1
    refine ⟨h1.1.1.1, h1.1.1.2, h1.1.2, fun i hi => ?_⟩
    obtain rfl : i = j := by omega
    exact h1.2
def lenUp (l : List (Int × Int)) : Nat → Int
  | 0 => 0
  | k + 1 => lenUp l k + ((l.getD k (0, 0)).2 - (l.getD k (0, 0)).1)
theorem lenUp_le {l : List (Int × Int)} (h : fineB l = true) : ∀ k, k ≤ l.length → 0 ≤ lenUp l k ∧ lenUp l k ≤ 2305843009213693952 ∧ ∀ j (hj : j + 1 = k) (hl : j < l.length), lenUp l k ≤ l[j].2 + 1152921504606846976
  | 0, _ => ⟨Int.le_refl _, (by decide : (0 : Int) ≤ 2305843009213693952), fun j hj _ => absurd hj (by omega)⟩
  | k + 1, hk => by
    obtain ⟨h1, h2, h3⟩ := lenUp_le h k (by omega)
    obtain ⟨a1, a2, a3, a4⟩ := fine_at h k (by omega)
    have e : l.getD k (0, 0) = l[k]'(by omega) := by simp [show k < l.length by omega]
    rw [lenUp, e]
    have key : lenUp l k + ((l[k]'(by omega)).2 - (l[k]'(by omega)).1) ≤ (l[k]'(by omega)).2 + 1152921504606846976 := by
      rcases Nat.eq_zero_or_pos k with h0 | h0
      · subst h0
        show (0 : Int) + _ ≤ _
        omega
      · obtain ⟨j, hj⟩ : ∃ j, j + 1 = k := ⟨k - 1, by omega⟩
        have b1 := h3 j hj (by omega)
        have b2 := a4 j hj
        omega
    refine ⟨by omega, by omega, fun j hj hl => ?_⟩
    obtain rfl : j = k := by omega
    exact key
end Go.Proofs.YtjjjbkehmnfgbaaDoor
