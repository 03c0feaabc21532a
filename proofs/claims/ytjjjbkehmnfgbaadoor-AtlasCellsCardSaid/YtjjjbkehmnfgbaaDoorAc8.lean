/- Cells of directions: huge, spotOf, Up, listed. -/
import Derived.Test.YtjjjbkehmnfgbaaDoorAc7
set_option linter.unusedSimpArgs false
set_option linter.unusedVariables false
namespace Go.Proofs.YtjjjbkehmnfgbaaDoor
open Go.RowKit Go.Grow Go.Atl

def hugeB (n : Int) : Bool := decide (1152921504606846976 < n) || decide (n < -1152921504606846976)
set_option maxRecDepth 100000 in
set_option maxHeartbeats 16000000 in
theorem huge_walk (n : Int) (w : World) :
    Calls Tryd.prog 19 #[.int .i64 n] w fun e w' => e = .returned (.bool (hugeB n)) ∧ Below w.heap.size w w' := by
  unfold hugeB
  by_cases c0 : 1152921504606846976 < n
  · have u0 : decide (1152921504606846976 < n) = true := decide_eq_true c0
    go_enter Tryd.func19, Tryd.ntmps19
    go_wp2
    go_ret
    exact ⟨by first | rfl | (rw [u0]; rfl) | (simp [u0]), (by (repeat (with_reducible first | exact grow_refl _ | refine Grow.grow_drewN ?_ _ | refine Grow.grow_drew ?_ | refine Grow.grow_alloc ?_ _)))⟩
  · have u0 : decide (1152921504606846976 < n) = false := decide_eq_false c0
    go_enter Tryd.func19, Tryd.ntmps19
    go_wp2
    go_ret
    exact ⟨by first | rfl | (rw [u0]; rfl) | (simp [u0]), (by (repeat (with_reducible first | exact grow_refl _ | refine Grow.grow_drewN ?_ _ | refine Grow.grow_drew ?_ | refine Grow.grow_alloc ?_ _)))⟩

theorem results_cell1 {P : Program} {fn : Func} {p : Tmp} {ty : TypeId} (h : fn.results = #[.cell p ty]) (tmps : Array Value) (w : World) (g : Nat) (cs : List Value) (d : TypeDesc)
    (hp : tmps.getD p undef = .pointer (some ⟨g, 0, none⟩)) (hK : Known w g cs.toArray) (hu : P.underlying ty = some d) (hd : d.isRow = true) (hi : (P.info? ty).map (·.size) = some cs.length) :
    (results fn tmps).run P w = .ok (.agg cs.toArray) w := by
  have hp' : tmps[p]?.getD undef = .pointer (some ⟨g, 0, none⟩) := by simpa using hp
  have hl := run_loadVar_mid (P := P) w g 0 ty cs d (fun j v hv => by rw [Nat.zero_add, hK.cell j]; simpa using hv) hu hd hi
  simp [results, h, hp', asAddr, hl]
set_option maxRecDepth 100000 in
set_option maxHeartbeats 16000000 in
theorem spotOf_walk (s : Sp) (w : World) :
    Calls Tryd.prog 22 #[spV s] w fun e w' => e = .returned (spV s) ∧ Below w.heap.size w w' := by
  obtain ⟨a, b, c, d⟩ := s
  unfold spV
  simp only
  have hal := alloc_sp
  go_enter Tryd.func22, Tryd.ntmps22
  go_wp2
  have KF := Lib.hid (Known.new' (w := w.alloc (.cells #[.int .i64 a, .int .i64 b, .int .i64 c, .int .i64 d] 48)) (c := #[.int .i64 a, .int .i64 b, .int .i64 c, .int .i64 d]) (t := 51) (b := w.heap.size + 1) (by simp))
  (try simp only [Exit.inBlock, Exit.then])
  refine bodyPost_ret (results_cell1 rfl _ _ (w.heap.size + 1) [.int .i64 a, .int .i64 b, .int .i64 c, .int .i64 d] _ rfl KF.out Tryd.underlying51 rfl (by kernel_rfl)) rfl ?_
  exact ⟨rfl, (by (repeat (with_reducible first | exact grow_refl _ | refine Grow.grow_drewN ?_ _ | refine Grow.grow_drew ?_ | refine Grow.grow_setCell ?_ ?_ _ | refine Grow.grow_alloc ?_ _)) <;> (try simp only [World.alloc_size]) <;> omega)⟩
end Go.Proofs.YtjjjbkehmnfgbaaDoor
