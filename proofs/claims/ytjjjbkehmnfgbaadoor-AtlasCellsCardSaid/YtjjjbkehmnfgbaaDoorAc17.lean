/- Cells of directions: a new atlas. -/
import Derived.Test.YtjjjbkehmnfgbaaDoorAc16
import Derived.Carry
set_option linter.unusedSimpArgs false
set_option linter.unusedVariables false
namespace Go.Proofs.YtjjjbkehmnfgbaaDoor
open Go.RowKit Go.Grow Go.Atl

set_option maxRecDepth 100000 in
set_option maxHeartbeats 32000000 in
theorem new_no (a : Nat → Addr) (lev : Int) (w : World) (hs : Sen a [2, 5] w) (hl : lev < 0 ∨ 12 < lev) :
    Calls Tryd.prog 58 #[.int .i64 lev] w fun e w' => e = .returned (.tuple #[.pointer none, errV a 2]) ∧ Below w.heap.size w w' := by
  have HE2 := Lib.hid (errV_pos a (show 2 ≠ 0 by decide))
  have g5 := (hs 2 (by decide)).1
  simp only [gOf] at g5
  have l5 := lt_of_cell g5
  simp only at l5
  clear hs
  by_cases h0 : lev < 0
  · have u0 : decide (lev < 0) = true := decide_eq_true h0
    clear hl
    go_enter Tryd.func58, Tryd.ntmps58
    go_wp2
    go_quiet (fail)
    go_wp2
    go_ret2
    exact ⟨by rw [HE2.out]; rfl, (by (repeat (with_reducible first | exact grow_refl _ | refine Grow.grow_drewN ?_ _ | refine Grow.grow_drew ?_)))⟩
  · have u0 : decide (lev < 0) = false := decide_eq_false h0
    have u1 : decide (12 < lev) = true := decide_eq_true (by omega)
    clear hl
    go_enter Tryd.func58, Tryd.ntmps58
    go_wp2
    go_quiet (fail)
    go_wp2
    go_ret2
    exact ⟨by rw [HE2.out]; rfl, (by (repeat (with_reducible first | exact grow_refl _ | refine Grow.grow_drewN ?_ _ | refine Grow.grow_drew ?_)))⟩
set_option maxRecDepth 100000 in
set_option maxHeartbeats 32000000 in
theorem new_good (L : Nat) (w : World) (hl : L ≤ 12) :
    Calls Tryd.prog 58 #[.int .i64 L] w fun e w' => e = .returned (.tuple #[.pointer (some ⟨w.heap.size + 2, 0, none⟩), .nilIface]) ∧ w' = ((w.alloc (.map #[] 0)).alloc (.map #[] 0)).alloc (.cells #[.int .i64 L, .map (some w.heap.size), .slice none 0 0, .map (some (w.heap.size + 1)), .int .i64 0] 137) := by
  have u0 : decide ((L : Int) < 0) = false := decide_eq_false (by omega)
  have u1 : decide (12 < (L : Int)) = false := decide_eq_false (by omega)
  have hmm := @run_makeMap Tryd.prog
  go_enter Tryd.func58, Tryd.ntmps58
  go_wp2
  go_ret2
  exact ⟨rfl, rfl⟩
end Go.Proofs.YtjjjbkehmnfgbaaDoor
