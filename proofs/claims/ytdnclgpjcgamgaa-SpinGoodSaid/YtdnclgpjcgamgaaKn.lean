/- What the cells of a block hold, kept from world to world. Nothing of a program stands here. -/
import Derived.Test.YtdnclgpjcgamgaaFl
import Derived.Lib.Hide
namespace Go.Grow
open Go Go.RowKit

/-- Block b is there, is free to be written, and holds c. -/
structure Known (w : World) (b : Nat) (c : Array Value) : Prop where
  cell : ∀ i, w.cell? ⟨b, i, none⟩ = c[i]?
  frozen : ∀ i, w.frozen? ⟨b, i, none⟩ = false
  lt : b < w.heap.size

theorem Known.at {w W : World} {b : Nat} {c c' : Array Value} (_ : Known w b c) (h : Known W b c') : Known W b c' := h
theorem have_known {G : Prop} {W : World} {b : Nat} {c : Array Value} (h : Known W b c) (k : Known W b c → G) : G := k h
theorem Known.ge {w : World} {b : Nat} {c : Array Value} {n : Nat} (_ : Known w b c) (h : n ≤ b) : n ≤ b := h
theorem Known.below {w w' : World} {b : Nat} {c : Array Value} (h : Known w b c) (hb : Below w.heap.size w w') : Known w' b c :=
  ⟨fun i => by rw [hb.cell (p := ⟨b, i, none⟩) h.lt]; exact h.cell i, fun i => by rw [hb.frozen (p := ⟨b, i, none⟩) h.lt]; exact h.frozen i, Nat.lt_of_lt_of_le h.lt hb.size⟩
theorem Known.new (w : World) (c : Array Value) (t : TypeId) : Known (w.alloc (.cells c t)) w.heap.size c :=
  ⟨fun i => by rw [cell?_cells]; simp, fun i => by rw [frozen?_cells]; simp [unbox], by simp⟩
theorem Known.alloc {w : World} {b : Nat} {c : Array Value} (h : Known w b c) (o : Obj) : Known (w.alloc o) b c :=
  h.below (grow_alloc (grow_refl w) o)
theorem Known.drewN {w : World} {b : Nat} {c : Array Value} (h : Known w b c) (n : Nat) : Known (w.drewN n) b c :=
  h.below (grow_drewN (grow_refl w) n)
theorem Known.held {w : World} {b : Nat} {c : Array Value} {t : TypeId} (h : w.heap[b]? = some (.cells c t)) : Known w b c :=
  ⟨Fl.cell_of_held h, Fl.frozen_of_held h, Fl.lt_of_held h⟩
theorem frozen?_setCell (w : World) (a a' : Addr) (v : Value) : (w.setCell a v).frozen? a' = w.frozen? a' := by
  unfold World.frozen? World.setCell
  simp only [Array.getElem?_modify]
  by_cases hb : a.block = a'.block
  · rw [if_pos hb]
    cases w.heap[a'.block]? with
    | none => rfl
    | some o => cases o <;> rfl
  · rw [if_neg hb]
theorem Known.same {w : World} {b : Nat} {c : Array Value} (h : Known w b c) (i : Nat) (v : Value) : Known (w.setCell ⟨b, i, none⟩ v) b (c.setIfInBounds i v) := by
  refine ⟨fun j => ?_, fun j => ?_, ?_⟩
  · rw [cell?_put, h.cell i, h.cell j, Array.getElem?_setIfInBounds]
    by_cases e : i = j
    · subst e
      simp
      by_cases hi : i < c.size <;> simp [hi]
    · simp [e]
  · rw [frozen?_setCell]; exact h.frozen j
  · simpa using h.lt
theorem Known.other {w : World} {b : Nat} {c : Array Value} (h : Known w b c) {b' : Nat} (hb : b' ≠ b) (i : Nat) (v : Value) : Known (w.setCell ⟨b', i, none⟩ v) b c :=
  ⟨fun j => by rw [cell?_put, if_neg (fun e => hb e.1)]; exact h.cell j, fun j => by rw [frozen?_setCell]; exact h.frozen j, by simpa using h.lt⟩
theorem seal_wp {P : Program} {cd : Code} {Q : Exit → Act → World → Prop} {a : Act} {w : World} (h : ∀ W, RowKit.Hid (W = w) → cd.wp P Q a W) : cd.wp P Q a w := h w (Lib.hid rfl)
theorem seal_list {P : Program} {ops : Array Oper} {Q : Exit → Act → World → Prop} {l : List Oper} {a : Act} {w : World} (h : ∀ W, RowKit.Hid (W = w) → wpList P ops Q l a W) : wpList P ops Q l a w := h w (Lib.hid rfl)
theorem seal_calls {P : Program} {f : FuncId} {args : Array Value} {Q : Ending → World → Prop} {w : World} (h : ∀ W, RowKit.Hid (W = w) → Calls P f args W Q) : Calls P f args w Q := h w (Lib.hid rfl)
end Go.Grow

namespace Go.Fl
open Go Go.RowKit Go.Grow
section
variable {P : Program}
theorem op2_some {f : Nat → Nat → Option Nat} {x y c : Nat} (h : op2 f (fl x) (fl y) = some c) : f x y = some c := by
  unfold op2 at h
  cases hx : fl x with
  | none => rw [hx] at h; cases h
  | some a =>
    cases hy : fl y with
    | none => rw [hx, hy] at h; cases h
    | some b =>
      obtain rfl := fl_some hx
      obtain rfl := fl_some hy
      rw [hx, hy] at h
      exact h
/-- A number comes out: nothing is drawn. -/
theorem run_arith_some {bop : BinOp} (hb : (bop == .add || bop == .sub || bop == .mul || bop == .quo) = true) {x y c : Nat} (h : fop bop (fl x) (fl y) = some c) (w : World) :
    (Op.floatArith bop .f64 x y).run P w = .ok (.float .f64 c) w := by
  have main : ∀ (f : Nat → Nat → Option Nat), op2 f (fl x) (fl y) = some c →
      (Op.floatArith bop .f64 x y = (match f x y with | some r => pure (.float .f64 r) | none => do pure (.float .f64 (← choose (.nanBits .f64 x y))))) →
      (Op.floatArith bop .f64 x y).run P w = .ok (.float .f64 c) w := fun f hf he => by
    rw [he, op2_some hf]
    rfl
  cases bop <;> first | (cases hb; done) | skip
  · exact main _ h rfl
  · exact main _ h rfl
  · exact main _ h rfl
  · exact main _ h rfl
theorem wpList_arith_some {ops : Array Oper} {rest : List Oper} {o : Oper} {a : Act} {w : World} {Q : Exit → Act → World → Prop} (hgd : o.guard = none)
    {bop : BinOp} {t t2 : TypeId} {x y : Operand} {b1 b2 c : Nat} (hop : o.op = .binOp bop t x y t2) (hb : (bop == .add || bop == .sub || bop == .mul || bop == .quo) = true)
    (hx : a.eval x = .float .f64 b1) (hy : a.eval y = .float .f64 b2) (hc : fop bop (fl b1) (fl b2) = some c)
    (h : wpList P ops Q rest (a.put o.dst (.float .f64 c)) w) : wpList P ops Q (o :: rest) a w := by
  have h3 : (execOp a.eval o).run P w = .ok (.value (.float .f64 c)) w := by
    unfold execOp
    simp only [hop, hx, hy]
    have hg : (eqGuard bop t x y (.float .f64 b1) (.float .f64 b2)).run P w = .ok () w := by
      cases bop <;> first | (cases hb; done) | rfl
    have hbin : binOp bop t (.float .f64 b1) (.float .f64 b2) = Op.floatArith bop .f64 b1 b2 := by
      cases bop <;> first | (cases hb; done) | rfl
    simp only [Sem.run_bind, hg, Result.andThen_ok, hbin, run_arith_some hb hc, Sem.run_pure]
  refine wpList_plain hgd fun K hK => ?_
  unfold Oper.wp
  rw [h3]
  exact hK _ _ h
end
end Go.Fl
