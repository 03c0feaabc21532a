/- Two structs of three integers, compared. -/
import Derived.Test.YtlfpfeidaohjmaaDoorChecked
import Derived.WalkKit
namespace Go.Proofs.YtlfpfeidaohjmaaDoor
@[go_sem] theorem guardCell : Tryd.prog.eqGuardType Tryd.prog.depth 33 = false := by kernel_rfl
theorem heldCell : Tryd.prog.stoodInHeld 33 = false := by kernel_rfl
theorem underCell : Tryd.prog.underlying 33 = some (.struct (Tryd.prog.fieldsOf 33)) := by kernel_rfl
@[go_sem] theorem eqCell (a b c d e f : Int) (w : World) : (Op.equalIn 10000 33 (.agg #[.int .i64 a, .int .i64 b, .int .i64 c]) (.agg #[.int .i64 d, .int .i64 e, .int .i64 f])).run Tryd.prog w = .ok (a == d && (b == e && c == f)) w := by
  rw [show (10000 : Nat) = 9999 + 1 from rfl, run_equalIn_agg w 9999 33 _ _ underCell heldCell]
  simp only [Program.fieldsOf, Tryd.underlying33]
  go_simp
  by_cases h1 : a = d <;> by_cases h2 : b = e <;> by_cases h3 : c = f <;> simp [h1, h2, h3]
end Go.Proofs.YtlfpfeidaohjmaaDoor
