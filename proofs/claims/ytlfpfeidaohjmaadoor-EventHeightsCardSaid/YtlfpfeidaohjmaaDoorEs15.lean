/- Spans that are joined: the instants' row. -/
import Derived.Test.YtlfpfeidaohjmaaDoorEs14
set_option linter.unusedSimpArgs false
set_option linter.unusedVariables false
namespace Go.Proofs.YtlfpfeidaohjmaaDoor
open Go.RowKit Go.Grow

def endsOf (l : List (Int × Int)) : List Int := l.flatMap fun s => [s.1, s.2]
theorem endsOf_length (l : List (Int × Int)) : (endsOf l).length = l.length * 2 := by
  induction l with
  | nil => rfl
  | cons x l ih =>
    rw [show endsOf (x :: l) = x.1 :: x.2 :: endsOf l from rfl]
    simp only [List.length_cons, ih]; omega
def ivL (l : List Int) : List Value := l.map (Value.int .i64)
theorem info_in : (Tryd.prog.info? 3).map (fun i => (i.zero, i.size, i.bytes)) = some (some (.int .i64 0), 1, 8) := by kernel_rfl
def AtRel (base : Nat) (W : World) (l : Nat → List (Int × Int)) (v9 v29 : Value) (wr : World) : Prop :=
  ∃ k : Nat, k ≤ 2 ∧ v29 = .int .i64 k ∧ (∃ n, wr.ownsRow base 3 1 v9 n (ivL ((List.range k).flatMap fun i => endsOf (l i))) ∧ n = ((List.range k).flatMap fun i => endsOf (l i)).length) ∧ Below base W wr
end Go.Proofs.YtlfpfeidaohjmaaDoor
