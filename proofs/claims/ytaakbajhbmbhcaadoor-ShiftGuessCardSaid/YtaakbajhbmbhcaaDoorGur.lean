/- The parts of a complex number, in a region whose order is open. Nothing of a program stands here. -/
import Derived.Test.YtaakbajhbmbhcaaDoorFl
namespace Go.Fl
open Go Go.RowKit Go.Grow Go.Rel
variable {P : Program}
theorem rel_value1 {ops : Array Oper} {R : FuncId → Array Value → Value → Prop} {Q : Act → List (Nat × Obj) → Prop} {rest : List Oper} {o : Oper} {a : Act} {G : List (Nat × Obj)} {w : World} {v : Value}
    (hw : Region.wanted o (yielded ops a.tmps) = true) (hn : isNew o.op = false) (hr : ∀ w1 : World, (execOp a.eval o).run P w1 = .ok (.value v) w1)
    (h : wpRel P ops w R Q rest (a.put o.dst v) G) : wpRel P ops w R Q (o :: rest) a G :=
  ⟨.val fun u => u = v, .inl ⟨hw, hn, .inl fun w1 hw1 => by rw [hr]; exact ⟨grow_refl _, rfl⟩⟩, fun u hu => by rw [hu]; exact h⟩
theorem rel_real {ops : Array Oper} {R : FuncId → Array Value → Value → Prop} {Q : Act → List (Nat × Obj) → Prop} {rest : List Oper} {o : Oper} {a : Act} {G : List (Nat × Obj)} {w : World}
    {x : Operand} {t : TypeId} {p q : Nat} (hw : Region.wanted o (yielded ops a.tmps) = true) (hop : o.op = .call { callee := .builtin .real, args := #[x], argTypes := #[t] }) (hx : a.eval x = .complex .f64 p q)
    (h : wpRel P ops w R Q rest (a.put o.dst (.float .f64 p)) G) : wpRel P ops w R Q (o :: rest) a G :=
  rel_value1 hw (by rw [hop]; rfl) (fun w1 => by
    obtain ⟨dst, op, ty, pos, after, guard⟩ := o
    simp only at hop
    subst hop
    have e : (#[x] : Array Operand).map a.eval = #[.complex .f64 p q] := by simp [hx]
    show (do pure (.value (← Builtin.real_ #[t] ty ((#[x] : Array Operand).map a.eval))) : Sem Next).run P w1 = _
    rw [e]
    rfl) h
theorem rel_imag {ops : Array Oper} {R : FuncId → Array Value → Value → Prop} {Q : Act → List (Nat × Obj) → Prop} {rest : List Oper} {o : Oper} {a : Act} {G : List (Nat × Obj)} {w : World}
    {x : Operand} {t : TypeId} {p q : Nat} (hw : Region.wanted o (yielded ops a.tmps) = true) (hop : o.op = .call { callee := .builtin .imag, args := #[x], argTypes := #[t] }) (hx : a.eval x = .complex .f64 p q)
    (h : wpRel P ops w R Q rest (a.put o.dst (.float .f64 q)) G) : wpRel P ops w R Q (o :: rest) a G :=
  rel_value1 hw (by rw [hop]; rfl) (fun w1 => by
    obtain ⟨dst, op, ty, pos, after, guard⟩ := o
    simp only at hop
    subst hop
    have e : (#[x] : Array Operand).map a.eval = #[.complex .f64 p q] := by simp [hx]
    show (do pure (.value (← Builtin.imag_ #[t] ty ((#[x] : Array Operand).map a.eval))) : Sem Next).run P w1 = _
    rw [e]
    rfl) h
end Go.Fl
/- A complex number of two parts, in a region whose order is open. Nothing of a program stands here. -/
namespace Go.Fl
open Go Go.RowKit Go.Grow Go.Rel
variable {P : Program}
theorem rel_complex {ops : Array Oper} {R : FuncId → Array Value → Value → Prop} {Q : Act → List (Nat × Obj) → Prop} {rest : List Oper} {o : Oper} {a : Act} {G : List (Nat × Obj)} {w : World}
    {x y : Operand} {t t2 : TypeId} {p q : Nat} (hw : Region.wanted o (yielded ops a.tmps) = true) (hop : o.op = .call { callee := .builtin .complex, args := #[x, y], argTypes := #[t, t2] }) (hx : a.eval x = .float .f64 p) (hy : a.eval y = .float .f64 q)
    (h : wpRel P ops w R Q rest (a.put o.dst (.complex .f64 p q)) G) : wpRel P ops w R Q (o :: rest) a G :=
  rel_value1 hw (by rw [hop]; rfl) (fun w1 => by
    obtain ⟨dst, op, ty, pos, after, guard⟩ := o
    simp only at hop
    subst hop
    have e : (#[x, y] : Array Operand).map a.eval = #[.float .f64 p, .float .f64 q] := by simp [hx, hy]
    show (do pure (.value (← Builtin.complex_ #[t, t2] ty ((#[x, y] : Array Operand).map a.eval))) : Sem Next).run P w1 = _
    rw [e]
    rfl) h
end Go.Fl
