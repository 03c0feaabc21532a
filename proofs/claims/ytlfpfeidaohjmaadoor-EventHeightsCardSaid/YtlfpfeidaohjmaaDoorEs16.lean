/- The shelf's contracts in the shape that the walk wants: a row of instants of the call's own, sorted. -/
import Derived.Test.YtlfpfeidaohjmaaDoorEs15
import Derived.Sort.OwnSortedInts
import Derived.Shelf.Slices.In.SortNone
import Derived.Shelf.Slices.CompactI
set_option linter.unusedSimpArgs false
set_option linter.unusedVariables false
namespace Go.Proofs.YtlfpfeidaohjmaaDoor
open Go.RowKit Go.Grow Go.Shelf Go.Sort

def srt (zs : List Int) : List Int := zs.mergeSort fun x y => decide (x ≤ y)
theorem sortOwn_walk (base : Nat) (v : Value) (zs : List Int) (w : World) (hz : zs.length ≤ 100000) (hown : w.ownsRow base 3 1 v zs.length (ivL zs)) :
    Calls Tryd.prog 126 #[v] w fun e w' => e = .returned (.tuple #[]) ∧ w'.ownsRow base 3 1 v zs.length (ivL (srt zs)) ∧ Below base w w' := by
  obtain ⟨hl, ⟨hv, hn⟩ | ⟨g, cap, cur, hv, hg, hb, h1, h2, h3, h4⟩⟩ := hown
  · subst hv
    have e : zs = [] := List.length_eq_zero_iff.1 hn
    subst e
    refine (Any.slices_Sort_int_none YtlfpfeidaohjmaaDoor.laysSort none 0 w).mono fun e w' ⟨h1, h2⟩ => ?_
    subst h2
    exact ⟨h1, by simpa [srt, ivL] using World.ownsRow_nil w' base 3 1, Below.refl _ _⟩
  · subst hv
    have hH := holds_of_blockI (ss := zs) hb (by simpa [ivL] using h4)
    have hlt : g < w.heap.size := (Array.getElem?_eq_some_iff.1 hb).1
    refine (sort_walk g 0 cap zs w hH hlt (by omega)).mono fun e w' ⟨he, n, os, hw⟩ => ?_
    subst hw
    refine ⟨he, ?_, ?_⟩
    · exact ownsRow_sortedI (ss := zs) (ts := srt zs) (by simp [srt]) hg hb h1 h2 h3
    · have gb := grownBy_sortedI (w := w) (g := g) (n := n) (os := os) (srt zs).toArray
      exact ⟨gb.os, gb.tape, gb.output, gb.size, fun k hk => gb.block k (Nat.lt_of_lt_of_le hk (Nat.le_of_lt (Nat.lt_of_le_of_lt hg hlt))) (fun e => by cases e; omega)⟩
end Go.Proofs.YtlfpfeidaohjmaaDoor
