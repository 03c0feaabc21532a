/- What cells hold, beside Kno: objects held, sums that are numbers. Nothing of a program stands here. -/
import Derived.Test.YtaakbajhbmbhcaaDoorFl
import Derived.Test.YtaakbajhbmbhcaaDoorKno
import Derived.Lib.Hide
namespace Go.Grow
open Go Go.RowKit
theorem Known.held {w : World} {b : Nat} {c : Array Value} {t : TypeId} (h : w.heap[b]? = some (.cells c t)) : Known w b c :=
  ⟨Fl.cell_of_held h, Fl.frozen_of_held h, Fl.lt_of_held h⟩
end Go.Grow

namespace Go.Fl
open Go Go.RowKit Go.Grow
section
variable {P : Program}
theorem op2_some {f : Nat → Nat → Option Nat} {x y c : Nat} (h : op2 f (fl x) (fl y) = some c) : f x y = some c := by
  unfold op2 at h
  cases hx : fl x with
  | none => rw [hx] at h; cases h
  | some a =>
    cases hy : fl y with
    | none => rw [hx, hy] at h; cases h
    | some b =>
      obtain rfl := fl_some hx
      obtain rfl := fl_some hy
      rw [hx, hy] at h
      exact h
/-- A number comes out: nothing is drawn. -/
theorem run_arith_some {bop : BinOp} (hb : (bop == .add || bop == .sub || bop == .mul || bop == .quo) = true) {x y c : Nat} (h : fop bop (fl x) (fl y) = some c) (w : World) :
    (Op.floatArith bop .f64 x y).run P w = .ok (.float .f64 c) w := by
  have main : ∀ (f : Nat → Nat → Option Nat), op2 f (fl x) (fl y) = some c →
      (Op.floatArith bop .f64 x y = (match f x y with | some r => pure (.float .f64 r) | none => do pure (.float .f64 (← choose (.nanBits .f64 x y))))) →
      (Op.floatArith bop .f64 x y).run P w = .ok (.float .f64 c) w := fun f hf he => by
    rw [he, op2_some hf]
    rfl
  cases bop <;> first | (cases hb; done) | skip
  · exact main _ h rfl
  · exact main _ h rfl
  · exact main _ h rfl
  · exact main _ h rfl
theorem wpList_arith_some {ops : Array Oper} {rest : List Oper} {o : Oper} {a : Act} {w : World} {Q : Exit → Act → World → Prop} (hgd : o.guard = none)
    {bop : BinOp} {t t2 : TypeId} {x y : Operand} {b1 b2 c : Nat} (hop : o.op = .binOp bop t x y t2) (hb : (bop == .add || bop == .sub || bop == .mul || bop == .quo) = true)
    (hx : a.eval x = .float .f64 b1) (hy : a.eval y = .float .f64 b2) (hc : fop bop (fl b1) (fl b2) = some c)
    (h : wpList P ops Q rest (a.put o.dst (.float .f64 c)) w) : wpList P ops Q (o :: rest) a w := by
  have h3 : (execOp a.eval o).run P w = .ok (.value (.float .f64 c)) w := by
    unfold execOp
    simp only [hop, hx, hy]
    have hg : (eqGuard bop t x y (.float .f64 b1) (.float .f64 b2)).run P w = .ok () w := by
      cases bop <;> first | (cases hb; done) | rfl
    have hbin : binOp bop t (.float .f64 b1) (.float .f64 b2) = Op.floatArith bop .f64 b1 b2 := by
      cases bop <;> first | (cases hb; done) | rfl
    simp only [Sem.run_bind, hg, Result.andThen_ok, hbin, run_arith_some hb hc, Sem.run_pure]
  refine wpList_plain hgd fun K hK => ?_
  unfold Oper.wp
  rw [h3]
  exact hK _ _ h
end
end Go.Fl
