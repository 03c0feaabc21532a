/- The closed facts of the row of PlateShapes. -/
import Derived.Test.YtlnbeildplafbaaGreatDoorRows
import Derived.ProofKit
import Derived.SevenTiedAt
namespace Go.Proofs.YtlnbeildplafbaaGreatDoor
set_option maxRecDepth 100000 in
set_option maxHeartbeats 64000000 in
theorem closedPlateShapes : joinedFacts Tryz.prog 3 Tryz.f3 Rows.plateShapesSpec Rows.plateShapesRow = true := by
  unfold joinedFacts
  simp only [Bool.and_eq_true]
  and_intros
  all_goals (as_aux_lemma => kernel_rfl)
end Go.Proofs.YtlnbeildplafbaaGreatDoor
