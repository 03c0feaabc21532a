/- Rows of pairs of whole numbers in memory. -/
import Derived.Test.YtdnclgpjcgamgaaDoorSen
import Derived.Test.YtdnclgpjcgamgaaDoorKno
import Derived.OwnWalk
import Derived.LoopTactic
import Derived.Deep.LoopGhost
import Derived.Outline
import Derived.Test.YtdnclgpjcgamgaaDoorOne
import Derived.Maps.AppendAt
import Derived.Laws.AppendOwn
import Derived.Laws.OwnMore
import Derived.StillTail
set_option linter.unusedSimpArgs false
set_option linter.unusedVariables false
namespace Go.Proofs.YtdnclgpjcgamgaaDoor
open Go.RowKit Go.Grow

/-- Spans lie in w. -/
def SpAt (w : World) (r : Option Addr) (l : List (Int × Int)) : Prop := l = [] ∨ ∃ b o, r = some ⟨b, o, none⟩ ∧ ∀ k (h : k < l.length), w.cell? ⟨b, o + k * 2, none⟩ = some (.int .i64 l[k].1) ∧ w.cell? ⟨b, o + k * 2 + 1, none⟩ = some (.int .i64 l[k].2)
theorem lt_of_cellS {w : World} {p : Addr} {v : Value} (h : w.cell? p = some v) : p.block < w.heap.size := by
  rcases Nat.lt_or_ge p.block w.heap.size with h1 | h1
  · exact h1
  · unfold World.cell? at h
    rw [Array.getElem?_eq_none h1] at h
    simp at h
theorem SpAt.below {w w' : World} {r : Option Addr} {l : List (Int × Int)} (h : SpAt w r l) (hb : Below w.heap.size w w') : SpAt w' r l := by
  rcases h with h | ⟨b, o, rfl, hc⟩
  · exact .inl h
  · refine .inr ⟨b, o, rfl, fun k hk => ?_⟩
    obtain ⟨c0, c1⟩ := hc k hk
    have hl : b < w.heap.size := lt_of_cellS c0
    exact ⟨(hb.cell (p := ⟨b, o + k * 2, none⟩) hl).trans c0, (hb.cell (p := ⟨b, o + k * 2 + 1, none⟩) hl).trans c1⟩
theorem ownsRow_belowS {w w' : World} {base : Nat} {e : TypeId} {size : Nat} {v : Value} {n : Nat} {xs : List Value} (h : w.ownsRow base e size v n xs) (hb : Below w.heap.size w w') : w'.ownsRow base e size v n xs :=
  h.kept (row := none) ⟨hb.os, hb.tape, hb.output, hb.size, fun k hk _ => hb.block k hk⟩ (by
    cases hv : v.ownBlock with
    | none => exact .inl rfl
    | some k => exact .inr (by simp))
theorem below_grownS {base : Nat} {w w1 w2 : World} {row : Option Nat} (h : Below base w w1) (hb : base ≤ w1.heap.size) (g : w1.grownBy w2 row) (hr : ∀ k, row = some k → base ≤ k) : Below base w w2 :=
  h.trans ⟨g.os, g.tape, g.output, g.size, fun k hk => g.block k (Nat.lt_of_lt_of_le hk hb) (fun e => by have := hr k e.symm; omega)⟩
theorem owns_cellsS {w : World} {base : Nat} {e : TypeId} {size : Nat} {g n cap : Nat} {xs : List Value} (h : w.ownsRow base e size (.slice (some ⟨g, 0, none⟩) n cap) n xs) : ∀ j u, xs[j]? = some u → w.cell? ⟨g, j, none⟩ = some u := fun j u hu => by
  have := h.cells (g := g) rfl j u hu
  rwa [show (⟨g, 0, none⟩ : Addr).add j = ⟨g, j, none⟩ by unfold Addr.add; split <;> simp_all] at this
def spL (l : List (Int × Int)) : List Value := l.flatMap fun p => [.int .i64 p.1, .int .i64 p.2]
theorem spL_append (a b : List (Int × Int)) : spL (a ++ b) = spL a ++ spL b := by simp [spL]
theorem spL_length (l : List (Int × Int)) : (spL l).length = l.length * 2 := by
  induction l with
  | nil => rfl
  | cons x l ih =>
    rw [show spL (x :: l) = .int .i64 x.1 :: .int .i64 x.2 :: spL l from rfl]
    simp only [List.length_cons, ih]; omega
theorem spL_get : ∀ (l : List (Int × Int)) (k : Nat) (h : k < l.length), (spL l)[k * 2]? = some (.int .i64 l[k].1) ∧ (spL l)[k * 2 + 1]? = some (.int .i64 l[k].2)
  | [], k, h => absurd h (by simp)
  | x :: l, 0, h => ⟨rfl, rfl⟩
  | x :: l, k + 1, h => by
    have := spL_get l k (by simpa using h)
    rw [show spL (x :: l) = .int .i64 x.1 :: .int .i64 x.2 :: spL l from rfl, show (k + 1) * 2 = k * 2 + 1 + 1 by omega]
    simpa using this
theorem sp_cell (a b : Int) : ∀ u ∈ [Value.int .i64 a, Value.int .i64 b], u.oneCell' = true := fun u h => by simp at h; rcases h with rfl | rfl <;> rfl
theorem news_sp (w : World) (c : List Value) (t : TypeId) : ∀ j u, c[j]? = some u → (w.alloc (.cells c.toArray t)).cell? ((⟨w.heap.size, 0, none⟩ : Addr).add j) = some u := fun j u h => by
  have K := Known.new w c.toArray t
  rw [show (⟨w.heap.size, 0, none⟩ : Addr).add j = ⟨w.heap.size, j, none⟩ by unfold Addr.add; split <;> simp_all, K.cell j]
  simpa using h
/-- A row of spans of the call's own, read. -/
theorem sp_of_owns {w : World} {base n : Nat} {v : Value} {l : List (Int × Int)} {e : TypeId} (h : w.ownsRow base e 2 v n (spL l)) : ∃ r cap, v = .slice r l.length cap ∧ SpAt w r l := by
  have hlen : n = l.length := by have := h.1; rw [spL_length] at this; omega
  subst hlen
  obtain ⟨hl, ⟨hv, hn⟩ | ⟨g, cap, cur, hv, hg⟩⟩ := h
  · exact ⟨none, 0, by rw [hv, hn], .inl (List.length_eq_zero_iff.1 hn)⟩
  · subst hv
    have hc := owns_cellsS (w := w) (base := base) (e := e) (size := 2) (g := g) (n := l.length) (cap := cap) (xs := spL l) ⟨hl, .inr ⟨g, cap, cur, rfl, hg⟩⟩
    refine ⟨some ⟨g, 0, none⟩, cap, rfl, .inr ⟨g, 0, rfl, fun k hk => ?_⟩⟩
    obtain ⟨h0, h1⟩ := spL_get l k hk
    rw [Nat.zero_add]
    exact ⟨hc _ _ h0, hc _ _ h1⟩
def SpPost (w : World) (l : List (Int × Int)) (e : Ending) (w' : World) : Prop := ∃ r c, e = .returned (.slice r l.length c) ∧ SpAt w' r l ∧ Below w.heap.size w w'
def CopyRel (t : TypeId) (w : World) (l : List (Int × Int)) (v3 v4 : Value) (wr : World) : Prop :=
  ∃ k : Nat, k ≤ l.length ∧ v4 = .int .i64 k ∧ wr.ownsRow w.heap.size t 2 v3 k (spL (l.take k)) ∧ Below w.heap.size w wr
theorem take_snocS (l : List (Int × Int)) (k : Nat) (h : k < l.length) : l.take (k + 1) = l.take k ++ [l[k]] := by
  rw [List.take_succ_eq_append_getElem h]
end Go.Proofs.YtdnclgpjcgamgaaDoor
