/- The law's own look at an error: each sentinel has its number. -/
import Derived.Test.YtlnbeildplafbaaGreatDoorCode
set_option linter.unusedSimpArgs false
set_option linter.unusedVariables false
namespace Go.Proofs.YtlnbeildplafbaaGreatDoor
open Go.RowKit Go.Grow

theorem errV_or (a : Nat → Addr) (k : Nat) : errV a k = .nilIface ∨ ∃ u, errV a k = .iface 353 u := by
  unfold errV; split
  · exact .inl rfl
  · exact .inr ⟨_, rfl⟩
set_option maxRecDepth 100000 in
set_option maxHeartbeats 4000000 in
/-- An error, and its number. -/
theorem coded_same (a : Nat → Addr) (k : Nat) (hk : k ≤ 10) (w : World) (hs : Sen a allK w) (hh : Hand w) (hne : ∀ j ∈ allK, ∀ k ∈ allK, j ≠ k → a j ≠ a k) :
    Calls Tryz.prog 12 #[errV a k, .int .i64 k] w fun e w' => e = .returned (.bool true) ∧ Below w.heap.size w w' := by
  have C := Lib.hid (code_any a k hk w hs hh hne)
  clear hs hh hne
  rcases errV_or a k with hE | ⟨u, hE⟩
  all_goals
    rw [hE] at C ⊢
    clear hE
    go_enter Tryz.func12, Tryz.ntmps12
    go_wp2_with (go_at_call 33; (with_reducible refine C.out.mono ?_); rintro e w1 ⟨rfl, hB⟩; have HB := Lib.hid hB; clear hB)
    go_ret
    exact ⟨by simp, HB.out⟩
end Go.Proofs.YtlnbeildplafbaaGreatDoor
