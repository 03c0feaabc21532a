/- Two structs of three integers, compared. -/
import Derived.Test.YtlfpfeidaohjmaaChecked
import Derived.WalkKit
namespace Go.Proofs.Ytlfpfeidaohjmaa
@[go_sem] theorem guard23 : Try.prog.eqGuardType Try.prog.depth 23 = false := by kernel_rfl
theorem held23 : Try.prog.stoodInHeld 23 = false := by kernel_rfl
theorem under23 : Try.prog.underlying 23 = some (.struct (Try.prog.fieldsOf 23)) := by kernel_rfl
@[go_sem] theorem eq23 (a b c d e f : Int) (w : World) : (Op.equalIn 10000 23 (.agg #[.int .i64 a, .int .i64 b, .int .i64 c]) (.agg #[.int .i64 d, .int .i64 e, .int .i64 f])).run Try.prog w = .ok (a == d && (b == e && c == f)) w := by
  rw [show (10000 : Nat) = 9999 + 1 from rfl, run_equalIn_agg w 9999 23 _ _ under23 held23]
  simp only [Program.fieldsOf, Try.underlying23]
  go_simp
  by_cases h1 : a = d <;> by_cases h2 : b = e <;> by_cases h3 : c = f <;> simp [h1, h2, h3]
end Go.Proofs.Ytlfpfeidaohjmaa
