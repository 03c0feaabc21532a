/- The walks of the leaves of MovePull: within, inside, square, root, share. -/
import Derived.Test.YtlfpfeidaohjmaaDoorChecked
import Derived.Test.YtlfpfeidaohjmaaDoorGrow
namespace Go.Proofs.YtlfpfeidaohjmaaDoor
open Go.RowKit

def insB (x y z m : Int) : Bool := decide (-m ≤ x) && decide (x ≤ m) && decide (-m ≤ y) && decide (y ≤ m) && decide (-m ≤ z) && decide (z ≤ m)

set_option maxHeartbeats 400000 in
theorem square_walk (x y z : Int) (w : World) :
    Calls Tryd.prog 87 #[.agg #[.int .i64 x, .int .i64 y, .int .i64 z]] w fun e w' => e = .returned (.int .i64 (wrap64 (wrap64 (wrap64 (x * x) + wrap64 (y * y)) + wrap64 (z * z)))) ∧ Below w.heap.size w w' := by
  go_enter Tryd.func87, Tryd.ntmps87
  go_wp2
  go_ret
  exact ⟨rfl, (Below.refl _ _).alloc (Nat.le_refl _) _⟩

set_option maxHeartbeats 400000 in
theorem squareOf_walk (x y z : Int) (w : World) :
    Calls Tryd.prog 40 #[.agg #[.int .i64 x, .int .i64 y, .int .i64 z]] w fun e w' => e = .returned (.int .i64 (wrap64 (wrap64 (wrap64 (x * x) + wrap64 (y * y)) + wrap64 (z * z)))) ∧ Below w.heap.size w w' := by
  go_enter Tryd.func40, Tryd.ntmps40
  go_wp2
  go_ret
  exact ⟨rfl, (Below.refl _ _).alloc (Nat.le_refl _) _⟩

theorem ret_bool {a b : Bool} (h : a = b) : Ending.returned (.bool a) = .returned (.bool b) := by rw [h]

set_option maxHeartbeats 1000000 in
theorem within_walk (x y z m : Int) (hm : 0 ≤ m) (hm' : m ≤ 4611686018427387904) (w : World) :
    Calls Tryd.prog 118 #[.agg #[.int .i64 x, .int .i64 y, .int .i64 z], .int .i64 m] w fun e w' => e = .returned (.bool (insB x y z m)) ∧ Below w.heap.size w w' := by
  go_enter Tryd.func118, Tryd.ntmps118
  go_wp2
  refine wp_loop_rounds 4 ?_
  rw [rounds_succ]
  go_wp2
  all_goals first | (rw [rounds_succ]; go_wp2) | skip
  all_goals first | (rw [rounds_succ]; go_wp2) | skip
  all_goals first | (rw [rounds_succ]; go_wp2) | skip
  all_goals go_ret
  all_goals refine ⟨ret_bool ?_, ((Below.refl _ _).alloc (Nat.le_refl _) _).alloc (by simp) _⟩
  all_goals (simp [insB]; omega)

set_option maxHeartbeats 1000000 in
theorem inside_walk (x y z m : Int) (hm : 0 ≤ m) (hm' : m ≤ 4611686018427387904) (w : World) :
    Calls Tryd.prog 80 #[.agg #[.int .i64 x, .int .i64 y, .int .i64 z], .int .i64 m] w fun e w' => e = .returned (.bool (insB x y z m)) ∧ Below w.heap.size w w' := by
  by_cases h1 : -m ≤ x <;> by_cases h2 : x ≤ m <;> by_cases h3 : -m ≤ y <;> by_cases h4 : y ≤ m <;> by_cases h5 : -m ≤ z <;> by_cases h6 : z ≤ m
  all_goals first | (exfalso; omega) | skip
  all_goals (go_enter Tryd.func80, Tryd.ntmps80; go_wp2; go_ret; exact ⟨ret_bool (by simp [insB, *]), (Below.refl _ _).alloc (Nat.le_refl _) _⟩)
end Go.Proofs.YtlfpfeidaohjmaaDoor
