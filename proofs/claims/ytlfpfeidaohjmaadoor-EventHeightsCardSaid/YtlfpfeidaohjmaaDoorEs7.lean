/- Spans: where an instant stands in a list; whether a list has it (joined's closure). -/
import Derived.Test.YtlfpfeidaohjmaaDoorEs6
set_option linter.unusedSimpArgs false
set_option linter.unusedVariables false
namespace Go.Proofs.YtlfpfeidaohjmaaDoor
open Go.RowKit Go.Grow

def cmpZ (x y : Int) : Int := if x < y then -1 else if y < x then 1 else 0
set_option maxRecDepth 100000 in
set_option maxHeartbeats 4000000 in
theorem isNaN_walk (x : Int) (w : World) : Calls Tryd.prog 133 #[.int .i64 x] w fun e w' => e = .returned (.bool false) ∧ w = w' := by
  go_enter Tryd.func133, Tryd.ntmps133
  go_wp2
  go_ret
  exact ⟨by simp, rfl⟩
set_option maxRecDepth 100000 in
set_option maxHeartbeats 4000000 in
theorem compare_walk (x y : Int) (w : World) : Calls Tryd.prog 101 #[.int .i64 x, .int .i64 y] w fun e w' => e = .returned (.int .i64 (cmpZ x y)) ∧ w = w' := by
  have N1 := Lib.hid (fun z X => isNaN_walk z X)
  unfold cmpZ
  by_cases c1 : x < y
  · rw [if_pos c1]
    go_enter Tryd.func101, Tryd.ntmps101
    go_wp2_with (go_at_call 133; (with_reducible refine (N1.out _ _).mono ?_); rintro e w1 ⟨rfl, rfl⟩)
    go_ret
    exact ⟨rfl, rfl⟩
  · rw [if_neg c1]
    by_cases c2 : y < x
    · rw [if_pos c2]
      have d1 : decide (x < y) = false := decide_eq_false c1
      go_enter Tryd.func101, Tryd.ntmps101
      go_wp2_with (go_at_call 133; (with_reducible refine (N1.out _ _).mono ?_); rintro e w1 ⟨rfl, rfl⟩)
      go_ret
      exact ⟨rfl, rfl⟩
    · rw [if_neg c2]
      have d1 : decide (x < y) = false := decide_eq_false c1
      have d2 : decide (y < x) = false := decide_eq_false c2
      go_enter Tryd.func101, Tryd.ntmps101
      go_wp2_with (go_at_call 133; (with_reducible refine (N1.out _ _).mono ?_); rintro e w1 ⟨rfl, rfl⟩)
      go_ret
      exact ⟨rfl, rfl⟩
set_option maxRecDepth 100000 in
set_option maxHeartbeats 4000000 in
theorem toCmp_walk (a b x : Int) (w : World) (h1 : -2305843009213693952 ≤ x) (h2 : x ≤ 2305843009213693952) : Calls Tryd.prog 129 #[.agg #[.int .i64 a, .int .i64 b], .int .i64 x] w fun e w' => e = .returned (.int .i64 (cmpZ b (x + 1))) ∧ Below w.heap.size w w' := by
  have CW := Lib.hid (fun X => compare_walk b (x + 1) X)
  go_enter Tryd.func129, Tryd.ntmps129
  go_wp2_with (go_at_call 101; (with_reducible refine (CW.out _).mono ?_); rintro e w1 ⟨rfl, rfl⟩)
  go_ret
  exact ⟨rfl, by (repeat (with_reducible first | exact grow_refl _ | refine Grow.grow_drewN ?_ _ | refine Grow.grow_drew ?_ | refine Grow.grow_setCell ?_ ?_ _ | refine Grow.grow_alloc ?_ _)) <;> omega⟩
end Go.Proofs.YtlfpfeidaohjmaaDoor
