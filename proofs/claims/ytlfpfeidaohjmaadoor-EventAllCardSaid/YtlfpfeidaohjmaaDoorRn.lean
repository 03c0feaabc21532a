/- A look whether a pointer is one, in a region whose order is open. Nothing of a program stands here. -/
import Derived.Test.YtlfpfeidaohjmaaDoorFl
namespace Go.Fl
open Go Go.RowKit Go.Grow Go.Rel
variable {P : Program}
theorem rel_nilCheck {ops : Array Oper} {R : FuncId → Array Value → Value → Prop} {Q : Act → List (Nat × Obj) → Prop} {rest : List Oper} {o : Oper} {a : Act} {G : List (Nat × Obj)} {w : World}
    {x : Operand} {ad : Addr} (hw : Region.wanted o (yielded ops a.tmps) = true) (hop : o.op = .nilCheck x) (hx : a.eval x = .pointer (some ad))
    (h : wpRel P ops w R Q rest (a.put o.dst (.pointer (some ad))) G) : wpRel P ops w R Q (o :: rest) a G := by
  refine ⟨.val fun u => u = .pointer (some ad), .inl ⟨hw, by rw [hop]; rfl, .inl fun w1 hw1 => ?_⟩, fun u hu => by rw [hu]; exact h⟩
  unfold execOp
  rw [hop]
  simp only [hx]
  exact ⟨grow_refl _, rfl⟩
/-- An operation of one value, whatever the world. -/
theorem rel_value {ops : Array Oper} {R : FuncId → Array Value → Value → Prop} {Q : Act → List (Nat × Obj) → Prop} {rest : List Oper} {o : Oper} {a : Act} {G : List (Nat × Obj)} {w : World} {v : Value}
    (hw : Region.wanted o (yielded ops a.tmps) = true) (hn : isNew o.op = false) (hr : ∀ w1 : World, (execOp a.eval o).run P w1 = .ok (.value v) w1)
    (h : wpRel P ops w R Q rest (a.put o.dst v) G) : wpRel P ops w R Q (o :: rest) a G :=
  ⟨.val fun u => u = v, .inl ⟨hw, hn, .inl fun w1 hw1 => by rw [hr]; exact ⟨grow_refl _, rfl⟩⟩, fun u hu => by rw [hu]; exact h⟩
theorem rel_len {ops : Array Oper} {R : FuncId → Array Value → Value → Prop} {Q : Act → List (Nat × Obj) → Prop} {rest : List Oper} {o : Oper} {a : Act} {G : List (Nat × Obj)} {w : World}
    {x : Operand} {t : TypeId} {r : Option Addr} {n c : Nat} (hw : Region.wanted o (yielded ops a.tmps) = true) (hop : o.op = .call { callee := .builtin .len, args := #[x], argTypes := #[t] }) (hx : a.eval x = .slice r n c) {e : TypeId} (ht : P.underlying t = some (.slice e))
    (h : wpRel P ops w R Q rest (a.put o.dst (.int .i64 n)) G) : wpRel P ops w R Q (o :: rest) a G :=
  rel_value hw (by rw [hop]; rfl) (fun w1 => by
    unfold execOp
    rw [hop]
    simp [resolve, invoke, builtin, Builtin.len_, hx, run_underlying ht, goInt]) h
end Go.Fl
