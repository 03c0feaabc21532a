/- Bodies: sums of places. -/
import Derived.Test.YtlfpfeidaohjmaaDoorBp
import Derived.Test.YtlfpfeidaohjmaaDoorKno
set_option linter.unusedSimpArgs false
set_option linter.unusedVariables false
namespace Go.Proofs.YtlfpfeidaohjmaaDoor
open Go.RowKit Go.Grow Go.Bo

def vec (c : C3) : Value := .agg #[.int .i64 c.x, .int .i64 c.y, .int .i64 c.z]
/-- The product and the sum are no greater than a number can be. -/
def Fits (a : C3) (k : Int) (b : C3) : Prop := C3.le ⟨k * b.x, k * b.y, k * b.z⟩ 4611686018427387904 ∧ (a.more k b).le 4611686018427387904
theorem Fits.parts {a : C3} {k : Int} {b : C3} (h : Fits a k b) :
    ((-4611686018427387904 ≤ k * b.x ∧ k * b.x ≤ 4611686018427387904) ∧ (-4611686018427387904 ≤ k * b.y ∧ k * b.y ≤ 4611686018427387904) ∧ (-4611686018427387904 ≤ k * b.z ∧ k * b.z ≤ 4611686018427387904)) ∧
    ((-4611686018427387904 ≤ a.x + k * b.x ∧ a.x + k * b.x ≤ 4611686018427387904) ∧ (-4611686018427387904 ≤ a.y + k * b.y ∧ a.y + k * b.y ≤ 4611686018427387904) ∧ (-4611686018427387904 ≤ a.z + k * b.z ∧ a.z + k * b.z ≤ 4611686018427387904)) := h
set_option maxRecDepth 100000 in
set_option maxHeartbeats 4000000 in
theorem add_walk (a b : C3) (k : Int) (w : World) (h : Fits a k b) :
    Calls Tryd.prog 70 #[vec a, vec b, .int .i64 k] w fun e w' => e = .returned (vec (a.more k b)) ∧ Below w.heap.size w w' := by
  obtain ⟨⟨⟨p1, p2⟩, ⟨p3, p4⟩, ⟨p5, p6⟩⟩, ⟨⟨q1, q2⟩, ⟨q3, q4⟩, ⟨q5, q6⟩⟩⟩ := h.parts
  obtain ⟨ax, ay, az⟩ := a
  obtain ⟨bx, b_y, bz⟩ := b
  unfold vec C3.more
  simp only at p1 p2 p3 p4 p5 p6 q1 q2 q3 q4 q5 q6 ⊢
  clear h
  have e1 : IntKind.i64.wrap (k * bx) = k * bx := IntWalk.i64_in _ (by omega)
  have e2 : IntKind.i64.wrap (k * b_y) = k * b_y := IntWalk.i64_in _ (by omega)
  have e3 : IntKind.i64.wrap (k * bz) = k * bz := IntWalk.i64_in _ (by omega)
  have f1 : IntKind.i64.wrap (ax + k * bx) = ax + k * bx := IntWalk.i64_in _ (by omega)
  have f2 : IntKind.i64.wrap (ay + k * b_y) = ay + k * b_y := IntWalk.i64_in _ (by omega)
  have f3 : IntKind.i64.wrap (az + k * bz) = az + k * bz := IntWalk.i64_in _ (by omega)
  go_enter Tryd.func70, Tryd.ntmps70
  go_wp2
  refine bodyPost_ret (v := .agg #[.int .i64 (ax + k * bx), .int .i64 (ay + k * b_y), .int .i64 (az + k * bz)]) (by simp [results, Tryd.results70, go_sem, ↓IntWalk.iteOmega]) rfl ⟨rfl, ?_⟩
  · repeat first
      | exact Grow.grow_refl _
      | refine Grow.grow_alloc ?_ _
      | refine Grow.grow_setCell ?_ (by simp; omega) _

set_option maxRecDepth 100000 in
set_option maxHeartbeats 4000000 in
theorem more_walk (a b : C3) (k : Int) (w : World) (h : Fits a k b) :
    Calls Tryd.prog 21 #[vec a, .int .i64 k, vec b] w fun e w' => e = .returned (vec (a.more k b)) ∧ Below w.heap.size w w' := by
  obtain ⟨⟨⟨p1, p2⟩, ⟨p3, p4⟩, ⟨p5, p6⟩⟩, ⟨⟨q1, q2⟩, ⟨q3, q4⟩, ⟨q5, q6⟩⟩⟩ := h.parts
  obtain ⟨ax, ay, az⟩ := a
  obtain ⟨bx, b_y, bz⟩ := b
  unfold vec C3.more
  simp only at p1 p2 p3 p4 p5 p6 q1 q2 q3 q4 q5 q6 ⊢
  clear h
  have e1 : IntKind.i64.wrap (k * bx) = k * bx := IntWalk.i64_in _ (by omega)
  have e2 : IntKind.i64.wrap (k * b_y) = k * b_y := IntWalk.i64_in _ (by omega)
  have e3 : IntKind.i64.wrap (k * bz) = k * bz := IntWalk.i64_in _ (by omega)
  have f1 : IntKind.i64.wrap (ax + k * bx) = ax + k * bx := IntWalk.i64_in _ (by omega)
  have f2 : IntKind.i64.wrap (ay + k * b_y) = ay + k * b_y := IntWalk.i64_in _ (by omega)
  have f3 : IntKind.i64.wrap (az + k * bz) = az + k * bz := IntWalk.i64_in _ (by omega)
  go_enter Tryd.func21, Tryd.ntmps21
  go_wp2
  refine bodyPost_ret (v := .agg #[.int .i64 (ax + k * bx), .int .i64 (ay + k * b_y), .int .i64 (az + k * bz)]) (by simp [results, Tryd.results21, go_sem, ↓IntWalk.iteOmega]) rfl ⟨rfl, ?_⟩
  · repeat first
      | exact Grow.grow_refl _
      | refine Grow.grow_alloc ?_ _
      | refine Grow.grow_setCell ?_ (by simp; omega) _

set_option maxRecDepth 100000 in
set_option maxHeartbeats 4000000 in
theorem less_walk (a b : C3) (w : World) (h : (a.less b).le 4611686018427387904) :
    Calls Tryd.prog 41 #[vec a, vec b] w fun e w' => e = .returned (vec (a.less b)) ∧ Below w.heap.size w w' := by
  obtain ⟨⟨q1, q2⟩, ⟨q3, q4⟩, ⟨q5, q6⟩⟩ := h
  obtain ⟨ax, ay, az⟩ := a
  obtain ⟨bx, b_y, bz⟩ := b
  unfold vec C3.less at *
  simp only at q1 q2 q3 q4 q5 q6 ⊢
  have f1 : IntKind.i64.wrap (ax - bx) = ax - bx := IntWalk.i64_in _ (by omega)
  have f2 : IntKind.i64.wrap (ay - b_y) = ay - b_y := IntWalk.i64_in _ (by omega)
  have f3 : IntKind.i64.wrap (az - bz) = az - bz := IntWalk.i64_in _ (by omega)
  go_enter Tryd.func41, Tryd.ntmps41
  go_wp2
  refine bodyPost_ret (v := .agg #[.int .i64 (ax - bx), .int .i64 (ay - b_y), .int .i64 (az - bz)]) (by simp [results, Tryd.results41, go_sem, ↓IntWalk.iteOmega]) rfl ⟨rfl, ?_⟩
  · repeat first
      | exact Grow.grow_refl _
      | refine Grow.grow_alloc ?_ _
      | refine Grow.grow_setCell ?_ (by simp; omega) _

end Go.Proofs.YtlfpfeidaohjmaaDoor
