/- Cells of directions: the program's directions and faces. -/
import Derived.Test.YtjjjbkehmnfgbaaDoorAc2
set_option linter.unusedSimpArgs false
set_option linter.unusedVariables false
namespace Go.Proofs.YtjjjbkehmnfgbaaDoor
open Go.RowKit Go.Grow Go.Atl

theorem isDir_iff (d : Dr) : isDir d = true ↔ (-1048576 ≤ d.x ∧ d.x ≤ 1048576) ∧ (-1048576 ≤ d.y ∧ d.y ≤ 1048576) ∧ (-1048576 ≤ d.z ∧ d.z ≤ 1048576) ∧ (d.x ≠ 0 ∨ d.y ≠ 0 ∨ d.z ≠ 0) :=
  ⟨fun h => by have := isDir_spec h; omega, isDir_yes⟩
set_option maxRecDepth 100000 in
set_option maxHeartbeats 8000000 in
theorem direction_walk (d : Dr) (w : World) :
    Calls Tryd.prog 52 #[drV d] w fun e w' => e = .returned (.bool (isDir d)) ∧ Below w.heap.size w w' := by
  obtain ⟨x, y, z⟩ := d
  unfold drV
  simp only
  go_enter Tryd.func52, Tryd.ntmps52
  go_wp2
  all_goals
    go_ret
    refine ⟨congrArg (fun b => Ending.returned (.bool b)) ?_, grow_alloc (grow_refl _) _⟩
    rw [Bool.eq_iff_iff, isDir_iff]
    simp only [decide_eq_true_eq, true_iff, false_iff, Bool.false_eq_true]
    omega
set_option maxRecDepth 100000 in
set_option maxHeartbeats 8000000 in
theorem place_walk (u m n : Int) (bm bn : Nat) (w : World) (hm : 0 < m ∧ m ≤ 1048576) (hu : -m ≤ u ∧ u ≤ m) (hn : 1 ≤ n ∧ n ≤ 4096) (c1 : w.cell? ⟨bm, 0, none⟩ = some (.int .i64 m)) (c2 : w.cell? ⟨bn, 0, none⟩ = some (.int .i64 n)) :
    Calls Tryd.prog 54 #[.int .i64 u, .pointer (some ⟨bm, 0, none⟩), .pointer (some ⟨bn, 0, none⟩)] w fun e w' => e = .returned (.int .i64 (place u m n)) ∧ Below w.heap.size w w' := by
  have hb1 := lt_of_cell c1
  have hb2 := lt_of_cell c2
  simp only at hb1 hb2
  have hmul := mul_in (A := 2097152) (B := 4096) (a := u + m) (b := n) (by omega) (by omega) (by omega) hn.2
  have h2m : ¬ (2 * m = 0) := by omega
  have hq : ((u + m) * n).tdiv (2 * m) = (u + m) * n / (2 * m) := Int.tdiv_eq_ediv_of_nonneg hmul.1
  have HP := Lib.hid (show place u m n = min ((u + m) * n / (2 * m)) (n - 1) from rfl)
  have hqi : 0 ≤ (u + m) * n / (2 * m) := Int.ediv_nonneg hmul.1 (by omega)
  have hqj : (u + m) * n / (2 * m) ≤ (u + m) * n := Int.ediv_le_self _ hmul.1
  generalize (u + m) * n / (2 * m) = q at hq HP hqi hqj
  go_enter Tryd.func54, Tryd.ntmps54
  go_wp2
  go_quiet (fail)
  go_wp2
  all_goals
    go_ret
    refine ⟨?_, by (repeat (with_reducible first | exact grow_refl _ | refine Grow.grow_drewN ?_ _ | refine Grow.grow_drew ?_ | refine Grow.grow_alloc ?_ _))⟩
    rw [HP.out]
    refine congrArg (fun b => Ending.returned (.int .i64 b)) ?_
    first
      | omega
      | (split <;> omega)
end Go.Proofs.YtjjjbkehmnfgbaaDoor
