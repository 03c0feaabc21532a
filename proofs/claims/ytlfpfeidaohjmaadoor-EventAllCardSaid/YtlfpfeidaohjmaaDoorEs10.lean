/- Spans: who counts (the three closures). -/
import Derived.Test.YtlfpfeidaohjmaaDoorEs9
set_option linter.unusedSimpArgs false
set_option linter.unusedVariables false
namespace Go.Proofs.YtlfpfeidaohjmaaDoor
open Go.RowKit Go.Grow

/-- 0: both, 1: either, 2: the first but not the other. -/
def cnt (o : Nat) (x y : Bool) : Bool := if o = 0 then x && y else if o = 1 then x || y else x && !y
def cntF (o : Nat) : Nat := if o = 0 then 91 else if o = 1 then 90 else 92
theorem both_walk (x y : Bool) (w : World) : Calls Tryd.prog 91 #[.bool x, .bool y] w fun e w' => e = .returned (.bool (x && y)) ∧ w = w' := by
  cases x <;> cases y
  all_goals
    go_enter Tryd.func91, Tryd.ntmps91
    go_wp2
    go_ret
    exact ⟨rfl, rfl⟩
theorem either_walk (x y : Bool) (w : World) : Calls Tryd.prog 90 #[.bool x, .bool y] w fun e w' => e = .returned (.bool (x || y)) ∧ w = w' := by
  cases x <;> cases y
  all_goals
    go_enter Tryd.func90, Tryd.ntmps90
    go_wp2
    go_ret
    exact ⟨rfl, rfl⟩
theorem but_walk (x y : Bool) (w : World) : Calls Tryd.prog 92 #[.bool x, .bool y] w fun e w' => e = .returned (.bool (x && !y)) ∧ w = w' := by
  cases x <;> cases y
  all_goals
    go_enter Tryd.func92, Tryd.ntmps92
    go_wp2
    go_ret
    exact ⟨rfl, rfl⟩
end Go.Proofs.YtlfpfeidaohjmaaDoor
