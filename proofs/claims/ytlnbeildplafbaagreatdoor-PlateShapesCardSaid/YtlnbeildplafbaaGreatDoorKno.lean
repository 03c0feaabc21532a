/- What the cells of a block hold, kept from world to world. Nothing of a program stands here. -/
import Derived.Test.YtlnbeildplafbaaGreatDoorGrow
import Derived.Lib.Hide
set_option linter.unusedSimpArgs false
set_option linter.unusedVariables false
namespace Go.Grow
open Go Go.RowKit

/-- Block b is there, is free to be written, and holds c. -/
structure Known (w : World) (b : Nat) (c : Array Value) : Prop where
  cell : ∀ i, w.cell? ⟨b, i, none⟩ = c[i]?
  frozen : ∀ i, w.frozen? ⟨b, i, none⟩ = false
  lt : b < w.heap.size

theorem Known.at {w W : World} {b : Nat} {c c' : Array Value} (_ : Known w b c) (h : Known W b c') : Known W b c' := h
theorem have_known {G : Prop} {W : World} {b : Nat} {c : Array Value} (h : Known W b c) (k : Known W b c → G) : G := k h
theorem Known.ge {w : World} {b : Nat} {c : Array Value} {n : Nat} (_ : Known w b c) (h : n ≤ b) : n ≤ b := h
theorem Known.below {w w' : World} {b : Nat} {c : Array Value} (h : Known w b c) (hb : Below w.heap.size w w') : Known w' b c :=
  ⟨fun i => by rw [hb.cell (p := ⟨b, i, none⟩) h.lt]; exact h.cell i, fun i => by rw [hb.frozen (p := ⟨b, i, none⟩) h.lt]; exact h.frozen i, Nat.lt_of_lt_of_le h.lt hb.size⟩
theorem Known.new (w : World) (c : Array Value) (t : TypeId) : Known (w.alloc (.cells c t)) w.heap.size c :=
  ⟨fun i => by rw [cell?_cells]; simp, fun i => by rw [frozen?_cells]; simp [unbox], by simp⟩
theorem Known.new' {w : World} {c : Array Value} {t : TypeId} {b : Nat} (h : b = w.heap.size) : Known (w.alloc (.cells c t)) b c := h ▸ Known.new w c t
theorem Known.alloc {w : World} {b : Nat} {c : Array Value} (h : Known w b c) (o : Obj) : Known (w.alloc o) b c :=
  h.below (grow_alloc (grow_refl w) o)
theorem Known.drew {w : World} {b : Nat} {c : Array Value} (h : Known w b c) : Known w.drew b c := h.below (grow_drew (grow_refl w))
theorem Known.drewN {w : World} {b : Nat} {c : Array Value} (h : Known w b c) (n : Nat) : Known (w.drewN n) b c :=
  h.below (grow_drewN (grow_refl w) n)
theorem frozen?_setCell (w : World) (a a' : Addr) (v : Value) : (w.setCell a v).frozen? a' = w.frozen? a' := by
  unfold World.frozen? World.setCell
  simp only [Array.getElem?_modify]
  by_cases hb : a.block = a'.block
  · rw [if_pos hb]
    cases w.heap[a'.block]? with
    | none => rfl
    | some o => cases o <;> rfl
  · rw [if_neg hb]
theorem Known.same {w : World} {b : Nat} {c : Array Value} (h : Known w b c) (i : Nat) (v : Value) : Known (w.setCell ⟨b, i, none⟩ v) b (c.setIfInBounds i v) := by
  refine ⟨fun j => ?_, fun j => ?_, ?_⟩
  · rw [cell?_put, h.cell i, h.cell j, Array.getElem?_setIfInBounds]
    by_cases e : i = j
    · subst e
      simp
      by_cases hi : i < c.size <;> simp [hi]
    · simp [e]
  · rw [frozen?_setCell]; exact h.frozen j
  · simpa using h.lt
theorem Known.other {w : World} {b : Nat} {c : Array Value} (h : Known w b c) {b' : Nat} (hb : b' ≠ b) (i : Nat) (v : Value) : Known (w.setCell ⟨b', i, none⟩ v) b c :=
  ⟨fun j => by rw [cell?_put, if_neg (fun e => hb e.1)]; exact h.cell j, fun j => by rw [frozen?_setCell]; exact h.frozen j, by simpa using h.lt⟩
theorem seal_wp {P : Program} {cd : Code} {Q : Exit → Act → World → Prop} {a : Act} {w : World} (h : ∀ W, RowKit.Hid (W = w) → cd.wp P Q a W) : cd.wp P Q a w := h w (Lib.hid rfl)
theorem seal_list {P : Program} {ops : Array Oper} {Q : Exit → Act → World → Prop} {l : List Oper} {a : Act} {w : World} (h : ∀ W, RowKit.Hid (W = w) → wpList P ops Q l a W) : wpList P ops Q l a w := h w (Lib.hid rfl)
theorem seal_calls {P : Program} {f : FuncId} {args : Array Value} {Q : Ending → World → Prop} {w : World} (h : ∀ W, RowKit.Hid (W = w) → Calls P f args W Q) : Calls P f args w Q := h w (Lib.hid rfl)

/-- Nothing but block b was written; new blocks may be there. -/
structure But (b : Nat) (w w' : World) : Prop where
  os : w'.os = w.os
  tape : w'.tape = w.tape
  output : w'.output = w.output
  size : w.heap.size ≤ w'.heap.size
  block : ∀ k, k < w.heap.size → k ≠ b → w'.heap[k]? = w.heap[k]?
theorem But.refl (b : Nat) (w : World) : But b w w := ⟨rfl, rfl, rfl, Nat.le_refl _, fun _ _ _ => rfl⟩
theorem But.of_below {b : Nat} {w w' : World} (h : Below w.heap.size w w') : But b w w' := ⟨h.os, h.tape, h.output, h.size, fun k hk _ => h.block k hk⟩
theorem But.trans {b : Nat} {a w w' : World} (h : But b a w) (k : But b w w') : But b a w' :=
  ⟨k.os.trans h.os, k.tape.trans h.tape, k.output.trans h.output, Nat.le_trans h.size k.size, fun i hi hb => (k.block i (Nat.lt_of_lt_of_le hi h.size) hb).trans (h.block i hi hb)⟩
theorem But.alloc {b : Nat} {a w : World} (h : But b a w) (o : Obj) : But b a (w.alloc o) := h.trans (But.of_below (grow_alloc (grow_refl w) o))
theorem But.drewN {b : Nat} {a w : World} (h : But b a w) (n : Nat) : But b a (w.drewN n) := h.trans (But.of_below (grow_drewN (grow_refl w) n))
theorem But.drew {b : Nat} {a w : World} (h : But b a w) : But b a w.drew := h.trans (But.of_below (grow_drew (grow_refl w)))
theorem But.setCell {b : Nat} {a w : World} (h : But b a w) (i : Nat) (v : Value) : But b a (w.setCell ⟨b, i, none⟩ v) :=
  h.trans ⟨rfl, rfl, rfl, by simp, fun k _ hk => by
    unfold World.setCell
    simp only [Array.getElem?_modify]
    rw [if_neg (fun e => hk e.symm)]⟩
theorem But.fresh {b c : Nat} {a w : World} (h : But b a w) (hc : a.heap.size ≤ c) (i : Nat) (v : Value) : But b a (w.setCell ⟨c, i, none⟩ v) := by
  refine ⟨h.os, h.tape, h.output, by simpa using h.size, fun k hk hb => ?_⟩
  rw [← h.block k hk hb]
  unfold World.setCell
  simp only [Array.getElem?_modify]
  rw [if_neg (by omega)]
theorem But.below {b : Nat} {a w w' : World} (h : But b w w') (hw : Below a.heap.size a w) (hb : a.heap.size ≤ b) : Below a.heap.size a w' :=
  hw.trans ⟨h.os, h.tape, h.output, h.size, fun k hk => h.block k (Nat.lt_of_lt_of_le hk hw.size) (by omega)⟩
theorem Known.but {w w' : World} {b b' : Nat} {c : Array Value} (h : Known w b c) (hb : But b' w w') (hne : b ≠ b') : Known w' b c := by
  have e := hb.block b h.lt hne
  refine ⟨fun i => ?_, fun i => ?_, Nat.lt_of_lt_of_le h.lt hb.size⟩
  · rw [← h.cell i]; unfold World.cell?; simp only [e]
  · rw [← h.frozen i]; unfold World.frozen?; simp only [e]
theorem cell?_but {w w' : World} {b' : Nat} (hb : But b' w w') {p : Addr} (hp : p.block < w.heap.size) (hne : p.block ≠ b') : w'.cell? p = w.cell? p := by
  unfold World.cell?; rw [hb.block _ hp hne]
end Go.Grow
