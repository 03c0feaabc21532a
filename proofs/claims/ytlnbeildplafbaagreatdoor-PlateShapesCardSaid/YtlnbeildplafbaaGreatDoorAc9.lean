/- Cells: whether they are right; those in which they lie. -/
import Derived.Test.YtlnbeildplafbaaGreatDoorAc6
set_option linter.unusedSimpArgs false
set_option linter.unusedVariables false
namespace Go.Proofs.YtlnbeildplafbaaGreatDoor
open Go.RowKit Go.Grow Go.Atl

theorem validS_iff (s : Sp) : validS s = true ↔ 0 ≤ s.face ∧ s.face < 6 ∧ 0 ≤ s.level ∧ s.level ≤ 12 ∧ 0 ≤ s.col ∧ 0 ≤ s.row ∧ s.col < 2 ^ s.level.toNat ∧ s.row < 2 ^ s.level.toNat := by
  unfold validS
  simp only [Bool.and_eq_true, decide_eq_true_eq]
  constructor
  · rintro ⟨⟨⟨⟨⟨⟨⟨a, b⟩, c⟩, d⟩, e⟩, f⟩, g⟩, h⟩; exact ⟨a, b, c, d, e, f, g, h⟩
  · rintro ⟨a, b, c, d, e, f, g, h⟩; exact ⟨⟨⟨⟨⟨⟨⟨a, b⟩, c⟩, d⟩, e⟩, f⟩, g⟩, h⟩
theorem valid_no {s : Sp} (h : ¬ (0 ≤ s.face ∧ s.face < 6 ∧ 0 ≤ s.level ∧ s.level ≤ 12 ∧ 0 ≤ s.col ∧ 0 ≤ s.row ∧ s.col < 2 ^ s.level.toNat ∧ s.row < 2 ^ s.level.toNat)) : validS s = false := by
  cases hv : validS s with
  | false => rfl
  | true => exact absurd ((validS_iff s).1 hv) h
end Go.Proofs.YtlnbeildplafbaaGreatDoor
/- Cells of directions: huge, spotOf, Up, listed. -/
set_option linter.unusedSimpArgs false
set_option linter.unusedVariables false
namespace Go.Proofs.YtlnbeildplafbaaGreatDoor
open Go.RowKit Go.Grow Go.Atl

def hugeB (n : Int) : Bool := decide (1152921504606846976 < n) || decide (n < -1152921504606846976)
set_option maxRecDepth 100000 in
set_option maxHeartbeats 16000000 in
theorem huge_walk (n : Int) (w : World) :
    Calls Tryz.prog 6 #[.int .i64 n] w fun e w' => e = .returned (.bool (hugeB n)) ∧ Below w.heap.size w w' := by
  unfold hugeB
  by_cases c0 : 1152921504606846976 < n
  · have u0 : decide (1152921504606846976 < n) = true := decide_eq_true c0
    go_enter Tryz.func6, Tryz.ntmps6
    go_wp2
    go_ret
    exact ⟨by first | rfl | (rw [u0]; rfl) | (simp [u0]), (by (repeat (with_reducible first | exact grow_refl _ | refine Grow.grow_drewN ?_ _ | refine Grow.grow_drew ?_ | refine Grow.grow_alloc ?_ _)))⟩
  · have u0 : decide (1152921504606846976 < n) = false := decide_eq_false c0
    go_enter Tryz.func6, Tryz.ntmps6
    go_wp2
    go_ret
    exact ⟨by first | rfl | (rw [u0]; rfl) | (simp [u0]), (by (repeat (with_reducible first | exact grow_refl _ | refine Grow.grow_drewN ?_ _ | refine Grow.grow_drew ?_ | refine Grow.grow_alloc ?_ _)))⟩

theorem results_cell1 {P : Program} {fn : Func} {p : Tmp} {ty : TypeId} (h : fn.results = #[.cell p ty]) (tmps : Array Value) (w : World) (g : Nat) (cs : List Value) (d : TypeDesc)
    (hp : tmps.getD p undef = .pointer (some ⟨g, 0, none⟩)) (hK : Known w g cs.toArray) (hu : P.underlying ty = some d) (hd : d.isRow = true) (hi : (P.info? ty).map (·.size) = some cs.length) :
    (results fn tmps).run P w = .ok (.agg cs.toArray) w := by
  have hp' : tmps[p]?.getD undef = .pointer (some ⟨g, 0, none⟩) := by simpa using hp
  have hl := run_loadVar_mid (P := P) w g 0 ty cs d (fun j v hv => by rw [Nat.zero_add, hK.cell j]; simpa using hv) hu hd hi
  simp [results, h, hp', asAddr, hl]
end Go.Proofs.YtlnbeildplafbaaGreatDoor
/- Cells of directions: Up, listed. -/
set_option linter.unusedSimpArgs false
set_option linter.unusedVariables false
namespace Go.Proofs.YtlnbeildplafbaaGreatDoor
open Go.RowKit Go.Grow Go.Atl

theorem up_frame (w w1 : World) (a b c d : Value) (HB' : Below ((w.alloc (.cells #[a, b, c, d] 87)).alloc (.cells #[.int .i64 0, .int .i64 0, .int .i64 0, .int .i64 0] 87)).heap.size ((w.alloc (.cells #[a, b, c, d] 87)).alloc (.cells #[.int .i64 0, .int .i64 0, .int .i64 0, .int .i64 0] 87)) w1) :
    Known w1 w.heap.size #[a, b, c, d] ∧ Known w1 (w.heap.size + 1) #[.int .i64 0, .int .i64 0, .int .i64 0, .int .i64 0] ∧ Below w.heap.size w w1 :=
  ⟨((Known.new w #[a, b, c, d] 87).alloc _).below HB',
    (Known.new' (w := w.alloc (.cells #[a, b, c, d] 87)) (b := w.heap.size + 1) (by simp)).below HB',
    grow_trans (grow_alloc (grow_alloc (grow_refl w) _) _) HB'⟩
set_option maxRecDepth 100000 in
set_option maxHeartbeats 16000000 in
theorem listed_walk (w : World) :
    Calls Tryz.prog 14 #[] w fun e w' => e = .returned (.bool true) ∧ Below w.heap.size w w' := by
  have CW := Lib.hid (show ∀ X, Calls Tryz.prog 35 #[.agg #[.int .i64 5, .int .i64 5, .int .i64 0], .int .i64 1] X fun e w' => e = .returned (.tuple #[.agg #[.int .i64 0, .int .i64 1, .int .i64 1, .int .i64 1], .nilIface]) ∧ Below X.heap.size X w' from fun X => by
    have h := cellOf_good ⟨5, 5, 0⟩ 1 X (by decide) (by decide)
    rw [show cellAt ⟨5, 5, 0⟩ 1 = ⟨0, 1, 1, 1⟩ by decide] at h
    exact h)
  have hal := alloc_sp
  go_enter Tryz.func14, Tryz.ntmps14
  go_wp2_with (go_at_call 35; (with_reducible refine (CW.out _).mono ?_); rintro e w1 ⟨rfl, hb⟩; have HB := Lib.hid hb; clear hb)
  go_ret
  exact ⟨rfl, (by (repeat (with_reducible first | exact (grow_trans (grow_refl w) HB.out) | exact HB.out | refine Grow.grow_drewN ?_ _ | refine Grow.grow_drew ?_ | refine Grow.grow_alloc ?_ _)) <;> (try have := HB.out.size) <;> omega)⟩
end Go.Proofs.YtlnbeildplafbaaGreatDoor
