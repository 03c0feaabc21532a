/- MoveNear: the nearest pair, in plain Lean. -/
import Derived.Test.YtlfpfeidaohjmaaDoorBm
set_option linter.unusedSimpArgs false
set_option linter.unusedVariables false
namespace Go.Bo
/-- When, which two, how far. -/
structure Nr where
  t : Int
  i : Int
  k : Int
  f : Int
def Nr.start : Nr := ⟨0, 0, 0, -1⟩
def sqZ (d : C3) : Int := d.x * d.x + d.y * d.y + d.z * d.z
def nrUp (t i k : Nat) (s : Int) (z : Nr) : Nr := if z.f < 0 ∨ s < z.f then ⟨t, i, k, s⟩ else z
def nrP (B : Nat → Bd) (i k : Nat) : Int := sqZ ((B k).p.less (B i).p)
def nrK (B : Nat → Bd) (t i : Nat) : Nat → Nr → Nr
  | 0, z => z
  | j + 1, z => nrUp t i (i + 1 + j) (nrP B i (i + 1 + j)) (nrK B t i j z)
def nrI (n : Nat) (B : Nat → Bd) (t : Nat) : Nat → Nr → Nr
  | 0, z => z
  | i + 1, z => nrK B t i (n - (i + 1)) (nrI n B t i z)
noncomputable def nrB (n : Nat) (B : Nat → Bd) : Nat → Nr
  | 0 => Nr.start
  | t + 1 => nrI n ((run n 1 t B).getD B) t n (nrB n B t)
theorem nrB_succ {n t : Nat} {B E : Nat → Bd} (h : run n 1 t B = some E) : nrB n B (t + 1) = nrI n E t n (nrB n B t) := by
  show nrI n ((run n 1 t B).getD B) t n (nrB n B t) = _
  rw [h]; rfl
theorem nrUp_yes {t i k : Nat} {s : Int} {z : Nr} (h : z.f < 0 ∨ s < z.f) : nrUp t i k s z = ⟨t, i, k, s⟩ := if_pos h
theorem nrUp_no {t i k : Nat} {s : Int} {z : Nr} (h : ¬ (z.f < 0 ∨ s < z.f)) : nrUp t i k s z = z := if_neg h
theorem sq_bd {x M : Int} (h1 : -M ≤ x) (h2 : x ≤ M) (hM : 0 ≤ M) : 0 ≤ x * x ∧ x * x ≤ M * M := by
  refine ⟨sq_nonneg x, ?_⟩
  rcases Int.le_total 0 x with h | h
  · exact Int.mul_le_mul h2 h2 h hM
  · have := Int.mul_le_mul (show -x ≤ M by omega) (show -x ≤ M by omega) (by omega) hM
    rwa [Int.neg_mul_neg] at this
theorem sqZ_bd {d : C3} {M : Int} (h : d.le M) (hM : 0 ≤ M) : 0 ≤ sqZ d ∧ sqZ d ≤ 3 * (M * M) := by
  obtain ⟨⟨a1, a2⟩, ⟨b1, b2⟩, ⟨c1, c2⟩⟩ := h
  have h1 := sq_bd a1 a2 hM
  have h2 := sq_bd b1 b2 hM
  have h3 := sq_bd c1 c2 hM
  unfold sqZ
  omega
end Go.Bo
