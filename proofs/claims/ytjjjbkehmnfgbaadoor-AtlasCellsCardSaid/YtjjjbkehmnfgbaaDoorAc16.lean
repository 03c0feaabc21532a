/- Cells of directions: the document's In below the atlas' level; the program's atlas, its size and coarse level. -/
import Derived.Test.YtjjjbkehmnfgbaaDoorAc15
set_option linter.unusedSimpArgs false
set_option linter.unusedVariables false
namespace Go.Proofs.YtjjjbkehmnfgbaaDoor
open Go.RowKit Go.Grow Go.Atl

set_option maxRecDepth 100000 in
set_option maxHeartbeats 32000000 in
theorem dIn_low (w : World) (B g : Nat) (lev : Int) (es : List En) (v : Value) (f c rw_ L : Int) (h : DAt w B g lev es v) (hlev : lev < L) :
    Calls Tryd.prog 28 #[.pointer (some ⟨g, 0, none⟩), spV ⟨f, L, c, rw_⟩] w fun en' w' => en' = .returned (.slice none 0 0) ∧ Below w.heap.size w w' := by
  have hgw : g < w.heap.size := by have := h.2.1; have := h.2.2.1; omega
  have KG1 := Lib.hid (h.1.alloc (.cells #[.int .i64 f, .int .i64 L, .int .i64 c, .int .i64 rw_] 48))
  clear h
  have u0 : decide (lev < L) = true := decide_eq_true hlev
  unfold spV
  simp only
  have g0 := KG1.out.cell 0
  have lg := KG1.out.lt
  simp only [List.getElem?_toArray, List.getElem?_cons_zero, List.getElem?_cons_succ] at g0
  go_enter Tryd.func28, Tryd.ntmps28
  go_wp2
  go_quiet (fail)
  go_wp2
  go_ret
  exact ⟨rfl, (by (repeat (with_reducible first | exact grow_refl _ | refine Grow.grow_drewN ?_ _ | refine Grow.grow_drew ?_ | refine Grow.grow_alloc ?_ _)))⟩
/-- The program's atlas at g, its maps at m1 and m2; its row above B. -/
def AAt (w : World) (B g m1 m2 : Nat) (lev : Int) (es : List En) (v : Value) : Prop := Known w g #[.int .i64 lev, .map (some m1), v, .map (some m2), .int .i64 0] ∧ g < B ∧ B ≤ w.heap.size ∧ w.ownsRow B 131 5 v es.length (enL es)
theorem AAt.off {X : Nat → Prop} {w w' : World} {B g m1 m2 : Nat} {lev : Int} {es : List En} {v : Value} (h : AAt w B g m1 m2 lev es v) (o : Off X w w') (hg : ¬ X g) (hv : ∀ k, v.ownBlock = some k → ¬ X k) : AAt w' B g m1 m2 lev es v :=
  ⟨h.1.off o hg, h.2.1, Nat.le_trans h.2.2.1 o.size, owns_off h.2.2.2 o hv⟩
set_option maxRecDepth 100000 in
set_option maxHeartbeats 32000000 in
theorem asize_walk (w : World) (B g m1 m2 : Nat) (lev : Int) (es : List En) (v : Value) (h : AAt w B g m1 m2 lev es v) :
    Calls Tryd.prog 61 #[.pointer (some ⟨g, 0, none⟩)] w fun en' w' => en' = .returned (.int .i64 es.length) ∧ w = w' := by
  obtain ⟨r, cap, rfl, _⟩ := ens_of_owns h.2.2.2
  have g2 := h.1.cell 2
  have lg := h.1.lt
  simp only [List.getElem?_toArray, List.getElem?_cons_zero, List.getElem?_cons_succ] at g2
  clear h
  go_enter Tryd.func61, Tryd.ntmps61
  go_wp2
  go_ret
  exact ⟨rfl, rfl⟩
set_option maxRecDepth 100000 in
set_option maxHeartbeats 32000000 in
theorem coarse_walk (w : World) (B g m1 m2 : Nat) (lev : Int) (es : List En) (v : Value) (h : AAt w B g m1 m2 lev es v) :
    Calls Tryd.prog 77 #[.pointer (some ⟨g, 0, none⟩)] w fun en' w' => en' = .returned (.int .i64 (min lev 5)) ∧ w = w' := by
  have g2 := h.1.cell 0
  have lg := h.1.lt
  simp only [List.getElem?_toArray, List.getElem?_cons_zero, List.getElem?_cons_succ] at g2
  clear h
  by_cases c0 : lev ≤ 5
  · have u0 : decide (lev ≤ 5) = true := decide_eq_true c0
    have u1 : decide (5 < lev) = false := decide_eq_false (by omega)
    have hm := Lib.hid (show min lev 5 = lev by omega)
    rw [hm.out]
    go_enter Tryd.func77, Tryd.ntmps77
    go_wp2
    go_ret
    exact ⟨by first | rfl | simp [u0, u1], rfl⟩
  · have u0 : decide (lev ≤ 5) = false := decide_eq_false c0
    have u1 : decide (5 < lev) = true := decide_eq_true (by omega)
    have hm := Lib.hid (show min lev 5 = 5 by omega)
    rw [hm.out]
    go_enter Tryd.func77, Tryd.ntmps77
    go_wp2
    go_ret
    exact ⟨by first | rfl | simp [u0, u1], rfl⟩
end Go.Proofs.YtjjjbkehmnfgbaaDoor
