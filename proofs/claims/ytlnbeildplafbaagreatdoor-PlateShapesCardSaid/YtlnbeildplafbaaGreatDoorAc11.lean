/- Cells of directions: atlases in memory; what changes nothing but some blocks. -/
import Derived.Test.YtlnbeildplafbaaGreatDoorAc10
import Derived.Laws.AppendOwn
import Derived.MapKept
set_option linter.unusedSimpArgs false
set_option linter.unusedVariables false
namespace Go.Proofs.YtlnbeildplafbaaGreatDoor
open Go.RowKit Go.Grow Go.Atl

structure Off (X : Nat → Prop) (w w' : World) : Prop where
  os : w'.os = w.os
  tape : w'.tape = w.tape
  output : w'.output = w.output
  size : w.heap.size ≤ w'.heap.size
  block : ∀ k, k < w.heap.size → ¬ X k → w'.heap[k]? = w.heap[k]?
theorem Off.refl (X : Nat → Prop) (w : World) : Off X w w := ⟨rfl, rfl, rfl, Nat.le_refl _, fun _ _ _ => rfl⟩
theorem Off.of_below {X : Nat → Prop} {w w' : World} (h : Below w.heap.size w w') : Off X w w' := ⟨h.os, h.tape, h.output, h.size, fun k hk _ => h.block k hk⟩
theorem Off.trans {X : Nat → Prop} {a w w' : World} (h : Off X a w) (k : Off X w w') : Off X a w' :=
  ⟨k.os.trans h.os, k.tape.trans h.tape, k.output.trans h.output, Nat.le_trans h.size k.size, fun i hi hb => (k.block i (Nat.lt_of_lt_of_le hi h.size) hb).trans (h.block i hi hb)⟩
theorem Off.grown {X : Nat → Prop} {w w' : World} {row : Option Nat} (g : w.grownBy w' row) (h : ∀ k, row = some k → X k) : Off X w w' :=
  ⟨g.os, g.tape, g.output, g.size, fun k hk hx => g.block k hk (fun e => hx (h k e.symm))⟩
theorem Off.below {X : Nat → Prop} {a w w' : World} (h : Off X w w') (hw : Below a.heap.size a w) (hb : ∀ k, X k → a.heap.size ≤ k) : Below a.heap.size a w' :=
  hw.trans ⟨h.os, h.tape, h.output, h.size, fun k hk => h.block k (Nat.lt_of_lt_of_le hk hw.size) (fun hx => absurd (hb k hx) (by omega))⟩
theorem Off.mono {X Y : Nat → Prop} {w w' : World} (h : Off X w w') (hxy : ∀ k, X k → Y k) : Off Y w w' :=
  ⟨h.os, h.tape, h.output, h.size, fun k hk hy => h.block k hk (fun hx => hy (hxy k hx))⟩
theorem Off.alloc {X : Nat → Prop} {a w : World} (h : Off X a w) (o : Obj) : Off X a (w.alloc o) := h.trans (Off.of_below (grow_alloc (grow_refl w) o))
theorem Off.drew {X : Nat → Prop} {a w : World} (h : Off X a w) : Off X a w.drew := h.trans (Off.of_below (grow_drew (grow_refl w)))
theorem Off.drewN {X : Nat → Prop} {a w : World} (h : Off X a w) (n : Nat) : Off X a (w.drewN n) := h.trans (Off.of_below (grow_drewN (grow_refl w) n))
theorem Off.setCell {X : Nat → Prop} {a w : World} (h : Off X a w) {b : Nat} (hb : X b) (i : Nat) (v : Value) : Off X a (w.setCell ⟨b, i, none⟩ v) :=
  h.trans ⟨rfl, rfl, rfl, by simp, fun k _ hk => by
    unfold World.setCell
    simp only [Array.getElem?_modify]
    rw [if_neg (show ¬ b = k from fun e => hk (by rw [← e]; exact hb))]⟩
theorem _root_.Go.Grow.Known.off {X : Nat → Prop} {w w' : World} {b : Nat} {c : Array Value} (h : Known w b c) (o : Off X w w') (hb : ¬ X b) : Known w' b c := by
  have e := o.block b h.lt hb
  refine ⟨fun i => ?_, fun i => ?_, Nat.lt_of_lt_of_le h.lt o.size⟩
  · rw [← h.cell i]; unfold World.cell?; simp only [e]
  · rw [← h.frozen i]; unfold World.frozen?; simp only [e]
theorem owns_off {X : Nat → Prop} {w w' : World} {base : Nat} {e : TypeId} {size : Nat} {v : Value} {n : Nat} {xs : List Value} (h : w.ownsRow base e size v n xs) (o : Off X w w') (hv : ∀ k, v.ownBlock = some k → ¬ X k) : w'.ownsRow base e size v n xs := by
  obtain ⟨hl, ⟨hv', hn⟩ | ⟨g, cap, cur, rfl, hb, hh, hr⟩⟩ := h
  · exact ⟨hl, .inl ⟨hv', hn⟩⟩
  · refine ⟨hl, .inr ⟨g, cap, cur, rfl, hb, ?_, hr⟩⟩
    rw [o.block g (Array.getElem?_eq_some_iff.1 hh).1 (hv g rfl), hh]
theorem owns_block {w : World} {base : Nat} {e : TypeId} {size : Nat} {v : Value} {n : Nat} {xs : List Value} (h : w.ownsRow base e size v n xs) {k : Nat} (hk : v.ownBlock = some k) : base ≤ k ∧ k < w.heap.size ∧ ∃ cur f, w.heap[k]? = some (.cells cur e f) := by
  obtain ⟨hl, ⟨rfl, hn⟩ | ⟨g, cap, cur, rfl, hb, hh, hr⟩⟩ := h
  · simp [Value.ownBlock] at hk
  · obtain rfl : g = k := by simpa [Value.ownBlock] using hk
    exact ⟨hb, (Array.getElem?_eq_some_iff.1 hh).1, cur, _, hh⟩
theorem owns_cellsE {w : World} {base : Nat} {e : TypeId} {size : Nat} {g n cap : Nat} {xs : List Value} (h : w.ownsRow base e size (.slice (some ⟨g, 0, none⟩) n cap) n xs) : ∀ j u, xs[j]? = some u → w.cell? ⟨g, j, none⟩ = some u := fun j u hu => by
  obtain ⟨hl, ⟨hv, _⟩ | ⟨g', cap', cur, hv, _, hh, _, _, _, hx⟩⟩ := h
  · simp at hv
  · have hg : g' = g := by simp at hv; exact hv.1.symm
    subst hg
    unfold World.cell?
    rw [hh]
    rw [← hx] at hu
    obtain ⟨h1, h2⟩ := List.getElem?_eq_some_iff.1 hu
    rw [List.getElem_take] at h2
    have : cur.toList[j]? = some u := List.getElem?_eq_some_iff.2 ⟨by simp at h1; simp; omega, h2⟩
    simpa using this
/-! rows of entries -/
def enC (e : En) : List Value := [.string e.name, .int .i64 e.at'.x, .int .i64 e.at'.y, .int .i64 e.at'.z, .int .i64 e.light]
def enL (l : List En) : List Value := l.flatMap enC
theorem enL_append (a b : List En) : enL (a ++ b) = enL a ++ enL b := by simp [enL]
theorem enL_length (l : List En) : (enL l).length = l.length * 5 := by
  induction l with
  | nil => rfl
  | cons x p ih =>
    rw [show enL (x :: p) = enC x ++ enL p from rfl]
    simp only [List.length_append, List.length_cons, ih]
    simp [enC]; omega
theorem enL_get : ∀ (l : List En) (k : Nat) (h : k < l.length), (enL l)[k * 5]? = some (.string (en l k).name) ∧ (enL l)[k * 5 + 1]? = some (.int .i64 (en l k).at'.x) ∧ (enL l)[k * 5 + 2]? = some (.int .i64 (en l k).at'.y) ∧ (enL l)[k * 5 + 3]? = some (.int .i64 (en l k).at'.z) ∧ (enL l)[k * 5 + 4]? = some (.int .i64 (en l k).light)
  | [], k, h => absurd h (by simp)
  | x :: p, 0, h => ⟨rfl, rfl, rfl, rfl, rfl⟩
  | x :: p, k + 1, h => by
    have := enL_get p k (by simpa using h)
    rw [show enL (x :: p) = .string x.name :: .int .i64 x.at'.x :: .int .i64 x.at'.y :: .int .i64 x.at'.z :: .int .i64 x.light :: enL p from rfl, show (k + 1) * 5 = k * 5 + 1 + 1 + 1 + 1 + 1 by omega, show en (x :: p) (k + 1) = en p k by unfold en; simp]
    simpa using this
theorem ens_of_owns {w : World} {base n : Nat} {v : Value} {p : List En} {e : TypeId} (h : w.ownsRow base e 5 v n (enL p)) : ∃ r cap, v = .slice r p.length cap ∧ EnsAt w r p := by
  have hlen : n = p.length := by have := h.1; rw [enL_length] at this; omega
  subst hlen
  obtain ⟨hl, ⟨hv, hn⟩ | ⟨g, cap, cur, hv, hg⟩⟩ := h
  · exact ⟨none, 0, by rw [hv, hn], .inl (List.length_eq_zero_iff.1 hn)⟩
  · subst hv
    have hc := owns_cellsE (w := w) (base := base) (e := e) (size := 5) (g := g) (n := p.length) (cap := cap) (xs := enL p) ⟨hl, .inr ⟨g, cap, cur, rfl, hg⟩⟩
    refine ⟨some ⟨g, 0, none⟩, cap, rfl, .inr ⟨g, 0, rfl, fun k hk => ?_⟩⟩
    obtain ⟨h0, h1, h2, h3, h4⟩ := enL_get p k hk
    rw [Nat.zero_add]
    exact ⟨hc _ _ h0, hc _ _ h1, hc _ _ h2, hc _ _ h3, hc _ _ h4⟩
def enV (e : En) : Value := .agg #[.string e.name, .int .i64 e.at'.x, .int .i64 e.at'.y, .int .i64 e.at'.z, .int .i64 e.light]
/-- The document's atlas at g; its row above B. -/
def DAt (w : World) (B g : Nat) (lev : Int) (es : List En) (v : Value) : Prop := Known w g #[.int .i64 lev, v] ∧ g < B ∧ B ≤ w.heap.size ∧ w.ownsRow B 60 5 v es.length (enL es)
theorem DAt.off {X : Nat → Prop} {w w' : World} {B g : Nat} {lev : Int} {es : List En} {v : Value} (h : DAt w B g lev es v) (o : Off X w w') (hg : ¬ X g) (hv : ∀ k, v.ownBlock = some k → ¬ X k) : DAt w' B g lev es v :=
  ⟨h.1.off o hg, h.2.1, Nat.le_trans h.2.2.1 o.size, owns_off h.2.2.2 o hv⟩
def hadUp (e : En) (es : List En) : Nat → Bool
  | 0 => decide (e.name = .empty) || decide (40 < e.name.size)
  | k + 1 => hadUp e es k || decide ((en es k).name = e.name)
def addE (es : List En) (e : En) : Nat := if hadUp e es es.length then 10 else if isDir e.at' = false then 5 else if 4000 ≤ es.length then 2 else 0
def addL (es : List En) (e : En) : List En := if addE es e = 0 then es ++ [e] else es
theorem info_en : (Tryz.prog.info? 60).map (fun i => (i.zero, i.size, i.bytes)) = some (some (.agg #[.string .empty, .int .i64 0, .int .i64 0, .int .i64 0, .int .i64 0]), 5, 48) := by kernel_rfl
theorem toList_decE (a b : ByteArray) : (a.toList == b.toList) = decide (a = b) := by
  rw [Bool.eq_iff_iff, decide_eq_true_eq, beq_iff_eq, ByteArray.toList_eq, ByteArray.toList_eq]
  refine ⟨fun h => ?_, fun h => by rw [h]⟩
  obtain ⟨⟨x⟩⟩ := a
  obtain ⟨⟨y⟩⟩ := b
  simpa using h
end Go.Proofs.YtlnbeildplafbaaGreatDoor
