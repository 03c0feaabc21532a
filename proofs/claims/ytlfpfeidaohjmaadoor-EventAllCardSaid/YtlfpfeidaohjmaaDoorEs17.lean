/- The shelf's contracts in the shape that the walk wants: instants, each once. -/
import Derived.Test.YtlfpfeidaohjmaaDoorEs16
set_option linter.unusedSimpArgs false
set_option linter.unusedVariables false
namespace Go.Proofs.YtlfpfeidaohjmaaDoor
open Go.RowKit Go.Grow Go.Shelf Go.Sort

/-- Whole numbers lie in w. -/
def InAt (w : World) (r : Option Addr) (T : List Int) : Prop := T = [] ∨ ∃ b o, r = some ⟨b, o, none⟩ ∧ ∀ k (h : k < T.length), w.cell? ⟨b, o + k, none⟩ = some (.int .i64 T[k])
theorem InAt.below {w w' : World} {r : Option Addr} {T : List Int} (h : InAt w r T) (hb : Below w.heap.size w w') : InAt w' r T := by
  rcases h with h | ⟨b, o, rfl, hc⟩
  · exact .inl h
  · refine .inr ⟨b, o, rfl, fun k hk => ?_⟩
    have hl : b < w.heap.size := lt_of_cellS (hc k hk)
    exact (hb.cell (p := ⟨b, o + k, none⟩) hl).trans (hc k hk)
theorem compact_len (zs : List Int) : (Lib.compact zs).length ≤ zs.length := by
  unfold Lib.compact Lib.compactUpTo
  rw [List.length_map]
  exact Nat.le_trans (List.length_filter_le _ _) (by simp)
def CompPost (base : Nat) (zs : List Int) (w : World) (e : Ending) (w' : World) : Prop := ∃ r c, e = .returned (.slice r (Lib.compact zs).length c) ∧ InAt w' r (Lib.compact zs) ∧ Below base w w'
theorem compactOwn_walk (base : Nat) (v : Value) (zs : List Int) (w : World) (hz : zs.length ≤ 100000) (hown : w.ownsRow base 3 1 v zs.length (ivL zs)) :
    Calls Tryd.prog 130 #[v] w (CompPost base zs w) := by
  obtain ⟨hl, ⟨hv, hn⟩ | ⟨g, cap, cur, hv, hg, hb, h1, h2, h3, h4⟩⟩ := hown
  · subst hv
    have e : zs = [] := List.length_eq_zero_iff.1 hn
    subst e
    refine (Any.slices_Compact_int_empty YtlfpfeidaohjmaaDoor.laysCompact none 0 w).mono fun e w' ⟨h1, h2⟩ => ?_
    subst h2
    exact ⟨none, 0, h1, .inl rfl, Below.refl _ _⟩
  · subst hv
    have hH := holds_of_blockI (ss := zs) hb (by simpa [ivL] using h4)
    have hlt : g < w.heap.size := (Array.getElem?_eq_some_iff.1 hb).1
    refine (compact_walk g 0 cap zs w hH (by omega) h1).mono fun e w' ⟨he, q, hw⟩ => ?_
    have hc := compact_len zs
    subst hw
    refine ⟨_, cap, he, .inr ⟨g, 0, rfl, fun k hk => ?_⟩, ?_⟩
    · have hA : Holds (Value.int .i64) (Sort.ahead w q) g 0 zs.toArray := fun j hj => hH j hj
      have hP := holds_putRow (Value.int .i64) (Sort.ahead w q) g 0 zs.toArray (Lib.compact zs ++ List.replicate (zs.length - (Lib.compact zs).length) 0).toArray hA (by simp; omega)
      have h5 := (hP k (by simp; omega)).1
      rw [h5]
      simp [List.getElem?_append, hk]
    · have gb := grownBy_sortedI (w := w) (g := g) (n := q) (os := #[]) (Lib.compact zs ++ List.replicate (zs.length - (Lib.compact zs).length) 0).toArray
      rw [grow_empty] at gb
      exact ⟨gb.os, gb.tape, gb.output, gb.size, fun k hk => gb.block k (Nat.lt_of_lt_of_le hk (Nat.le_of_lt (Nat.lt_of_le_of_lt hg hlt))) (fun e => by cases e; omega)⟩
end Go.Proofs.YtlfpfeidaohjmaaDoor
