/- Cells of directions: the document's cell. -/
import Derived.Test.YtlnbeildplafbaaGreatDoorAc5
set_option linter.unusedSimpArgs false
set_option linter.unusedVariables false
namespace Go.Proofs.YtlnbeildplafbaaGreatDoor
open Go.RowKit Go.Grow Go.Atl

theorem known_eqA {w : World} {b : Nat} {c c' : Array Value} (h : Known w b c) (e : c = c') : Known w b c' := e ▸ h
theorem quiet_sum {P : Program} {f : FuncId} {args : Array Value} {w : World} {n m : Nat} {v : Value} (h : Calls P f args (w.drewN (n + m)) fun e w' => e = .returned v ∧ w.drewN (n + m) = w') :
    Calls P f args (w.drewN (n + m)) fun e w'' => e = .returned v ∧ ∃ k, w'' = w.drewN (n + k) :=
  h.mono fun _ _ ⟨he, hm⟩ => ⟨he, m, hm.symm⟩
theorem cellAt_0 {d : Dr} (h : axis d = 0) (L : Nat) : spV (cellAt d L) = .agg #[.int .i64 (0 + if d.x < 0 then 1 else 0), .int .i64 L, .int .i64 (stripUp d.y (sz d.x) L), .int .i64 (stripUp d.z (sz d.x) L)] := by unfold spV cellAt faceOf fU fV fM; rw [h]; rfl
theorem cellAt_1 {d : Dr} (h : axis d = 1) (L : Nat) : spV (cellAt d L) = .agg #[.int .i64 (2 + if d.y < 0 then 1 else 0), .int .i64 L, .int .i64 (stripUp d.x (sz d.y) L), .int .i64 (stripUp d.z (sz d.y) L)] := by unfold spV cellAt faceOf fU fV fM; rw [h]; rfl
theorem cellAt_2 {d : Dr} (h : axis d = 2) (L : Nat) : spV (cellAt d L) = .agg #[.int .i64 (4 + if d.z < 0 then 1 else 0), .int .i64 L, .int .i64 (stripUp d.x (sz d.z) L), .int .i64 (stripUp d.y (sz d.z) L)] := by unfold spV cellAt faceOf fU fV fM; rw [h]; rfl
end Go.Proofs.YtlnbeildplafbaaGreatDoor
