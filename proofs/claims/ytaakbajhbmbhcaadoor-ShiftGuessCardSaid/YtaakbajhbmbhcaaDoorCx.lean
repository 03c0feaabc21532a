/- Complex numbers, all NaNs being one: what '+' and '-' make of them, as rules for the walk. Nothing of a program stands here. -/
import Derived.Test.YtaakbajhbmbhcaaDoorKn
set_option linter.unusedSimpArgs false
set_option linter.unusedVariables false
namespace Go.Fl
open Go Go.RowKit Go.Grow Go.Rel

/-- A complex number, all NaNs being one. -/
structure C2 where
  re : Option Nat
  im : Option Nat
def IsC (X : C2) (v : Value) : Prop := ∃ a b, v = .complex .f64 a b ∧ fl a = X.re ∧ fl b = X.im
section
variable {P : Program}
theorem run_cpart {bop : BinOp} (hb : (bop == .add || bop == .sub || bop == .mul || bop == .quo) = true) (x y : Nat) (w : World) :
    ∃ b, fl b = fop bop (fl x) (fl y) ∧ ∃ n, (Op.Complex.arith bop .f64 x y).run P w = .ok b (w.drewN n) := by
  obtain ⟨b, h1, n, h3⟩ := run_arith (P := P) hb x y w
  refine ⟨b, h1, n, ?_⟩
  unfold Op.Complex.arith
  simp only [Sem.run_bind, h3, Result.andThen_ok, Sem.run_pure]
theorem run_carith {bop : BinOp} (hb : (bop == .add || bop == .sub) = true) (x y u v : Nat) (w : World) :
    ∃ b c, fl b = fop bop (fl x) (fl u) ∧ fl c = fop bop (fl y) (fl v) ∧ ∃ n, (Op.complexOp bop .f64 x y u v).run P w = .ok (.complex .f64 b c) (w.drewN n) := by
  have hb4 : (bop == .add || bop == .sub || bop == .mul || bop == .quo) = true := by
    revert hb; cases bop <;> decide
  obtain ⟨b, h1, n, h3⟩ := run_cpart (P := P) hb4 x u w
  obtain ⟨c, g1, m, g3⟩ := run_cpart (P := P) hb4 y v (w.drewN n)
  refine ⟨b, c, h1, g1, n + m, ?_⟩
  have e : Op.complexOp bop .f64 x y u v = (do pure (Value.complex .f64 (← Op.Complex.arith bop .f64 x u) (← Op.Complex.arith bop .f64 y v))) := by
    cases bop <;> first | (cases hb; done) | rfl
  rw [e]
  simp only [Sem.run_bind, h3, g3, Result.andThen_ok, Sem.run_pure, World.drewN_drewN]
theorem exec_carith {o : Oper} {a : Act} {bop : BinOp} {t t2 : TypeId} {x y : Operand} {b1 b2 c1 c2 : Nat} (hop : o.op = .binOp bop t x y t2) (hb : (bop == .add || bop == .sub) = true)
    (hx : a.eval x = .complex .f64 b1 b2) (hy : a.eval y = .complex .f64 c1 c2) (w : World) :
    ∃ b c, fl b = fop bop (fl b1) (fl c1) ∧ fl c = fop bop (fl b2) (fl c2) ∧ ∃ n, (execOp a.eval o).run P w = .ok (.value (.complex .f64 b c)) (w.drewN n) := by
  obtain ⟨b, c, h1, h2, n, h3⟩ := run_carith (P := P) hb b1 b2 c1 c2 w
  refine ⟨b, c, h1, h2, n, ?_⟩
  unfold execOp
  simp only [hop, hx, hy]
  have hg : (eqGuard bop t x y (.complex .f64 b1 b2) (.complex .f64 c1 c2)).run P w = .ok () w := by
    cases bop <;> first | (cases hb; done) | rfl
  have hbin : binOp bop t (.complex .f64 b1 b2) (.complex .f64 c1 c2) = Op.complexOp bop .f64 b1 b2 c1 c2 := by
    cases bop <;> first | (cases hb; done) | rfl
  simp only [Sem.run_bind, hg, Result.andThen_ok, hbin, h3, Sem.run_pure]
theorem wpList_carith {ops : Array Oper} {rest : List Oper} {o : Oper} {a : Act} {w : World} {Q : Exit → Act → World → Prop} (hgd : o.guard = none)
    {bop : BinOp} {t t2 : TypeId} {x y : Operand} {b1 b2 c1 c2 : Nat} (hop : o.op = .binOp bop t x y t2) (hb : (bop == .add || bop == .sub) = true)
    (hx : a.eval x = .complex .f64 b1 b2) (hy : a.eval y = .complex .f64 c1 c2)
    (h : ∀ b c n, Hid (fl b = fop bop (fl b1) (fl c1)) → Hid (fl c = fop bop (fl b2) (fl c2)) → wpList P ops Q rest (a.put o.dst (.complex .f64 b c)) (w.drewN n)) : wpList P ops Q (o :: rest) a w := by
  obtain ⟨b, c, h1, h2, n, h3⟩ := exec_carith (P := P) hop hb hx hy w
  refine wpList_plain hgd fun K hK => ?_
  unfold Oper.wp
  rw [h3]
  exact hK _ _ (h b c n h1 h2)
theorem rel_carith {ops : Array Oper} {R : FuncId → Array Value → Value → Prop} {Q : Act → List (Nat × Obj) → Prop} {rest : List Oper} {o : Oper} {a : Act} {G : List (Nat × Obj)} {w : World}
    (hw : Region.wanted o (yielded ops a.tmps) = true)
    {bop : BinOp} {t t2 : TypeId} {x y : Operand} {b1 b2 c1 c2 : Nat} (hop : o.op = .binOp bop t x y t2) (hb : (bop == .add || bop == .sub) = true)
    (hx : a.eval x = .complex .f64 b1 b2) (hy : a.eval y = .complex .f64 c1 c2)
    (h : ∀ b c, Hid (fl b = fop bop (fl b1) (fl c1)) → Hid (fl c = fop bop (fl b2) (fl c2)) → wpRel P ops w R Q rest (a.put o.dst (.complex .f64 b c)) G) :
    wpRel P ops w R Q (o :: rest) a G := by
  refine ⟨.val (IsC ⟨fop bop (fl b1) (fl c1), fop bop (fl b2) (fl c2)⟩), .inl ⟨hw, by rw [hop]; rfl, .inl fun w1 _ => ?_⟩, fun v ⟨b, c, hv, hb, hc⟩ => by subst hv; exact h b c hb hc⟩
  obtain ⟨b, c, h1, h2, n, h3⟩ := exec_carith (P := P) hop hb hx hy w1
  rw [h3]
  exact ⟨grow_drewN (grow_refl _) n, b, c, rfl, h1, h2⟩
end
end Go.Fl
