/- Spans that are joined: the walk. -/
import Derived.Test.YtlfpfeidaohjmaaDoorEs13
import Derived.Test.YtlfpfeidaohjmaaDoorEs10
import Derived.Sort.OwnSortedInts
import Derived.Shelf.Slices.In.SortNone
import Derived.Shelf.Slices.CompactI
set_option linter.unusedSimpArgs false
set_option linter.unusedVariables false
namespace Go.Proofs.YtlfpfeidaohjmaaDoor
open Go.RowKit Go.Grow

/-- The two lists, as spans is called with them. -/
theorem two_walk (a : Nat → Addr) (r1 r2 : Option Addr) (l1 l2 : List (Int × Int)) (c1 c2 : Nat) (w X : World) (hX : Below w.heap.size w X) (hs : Sen a [2, 5] w) (h1 : SpAt w r1 l1) (h2 : SpAt w r2 l2) (hl1 : l1.length ≤ 9223372036854775807) (hl2 : l2.length ≤ 9223372036854775807) :
    Calls Tryd.prog 93 #[.slice (some ⟨X.heap.size, 0, none⟩) 2 2] (X.alloc (.cells #[.slice r1 l1.length c1, .slice r2 l2.length c2] 92)) fun e w' => e = .returned (errV a (lsE [⟨r1, l1, c1⟩, ⟨r2, l2, c2⟩])) ∧ Below w.heap.size w w' := by
  have hb : Below w.heap.size w (X.alloc (.cells #[.slice r1 l1.length c1, .slice r2 l2.length c2] 92)) := grow_alloc hX _
  have K := Known.new X #[.slice r1 l1.length c1, .slice r2 l2.length c2] 92
  have h := lists_walk a X.heap.size 2 [⟨r1, l1, c1⟩, ⟨r2, l2, c2⟩] _ (hs.below hb) (by simp) (fun k hk => by
    have : k = 0 ∨ k = 1 := by have : k < 2 := by simpa using hk
                               omega
    rcases this with rfl | rfl
    · exact ⟨K.cell 0, h1.below hb, hl1⟩
    · exact ⟨K.cell 1, h2.below hb, hl2⟩)
  exact h.mono fun e w' ⟨g1, g2⟩ => ⟨g1, grow_trans hb g2⟩
set_option maxRecDepth 100000 in
set_option maxHeartbeats 8000000 in
theorem joined_no (a : Nat → Addr) (fn : Value) (r1 r2 : Option Addr) (l1 l2 : List (Int × Int)) (c1 c2 : Nat) (w : World) (hs : Sen a [2, 5] w) (h1 : SpAt w r1 l1) (h2 : SpAt w r2 l2) (hl1 : l1.length ≤ 9223372036854775807) (hl2 : l2.length ≤ 9223372036854775807) (hE : lsE [⟨r1, l1, c1⟩, ⟨r2, l2, c2⟩] ≠ 0) :
    Calls Tryd.prog 89 #[.slice r1 l1.length c1, .slice r2 l2.length c2, fn] w fun e w' => e = .returned (.tuple #[.slice none 0 0, errV a (lsE [⟨r1, l1, c1⟩, ⟨r2, l2, c2⟩])]) ∧ Below w.heap.size w w' := by
  have SP := Lib.hid (two_walk a r1 r2 l1 l2 c1 c2 w w (Below.refl _ _) hs h1 h2 hl1 hl2)
  have hu := errV_pos a hE
  rw [hu] at SP ⊢
  clear hs h1 h2 hE hu
  go_enter Tryd.func89, Tryd.ntmps89
  go_wp2_with (go_at_call 93; (with_reducible refine SP.out.mono ?_); rintro e w1 ⟨rfl, hb⟩; have HB := Lib.hid hb; clear hb)
  go_ret2
  exact ⟨rfl, HB.out⟩
end Go.Proofs.YtlfpfeidaohjmaaDoor
/- Spans that are joined: the instants' row. -/
set_option linter.unusedSimpArgs false
set_option linter.unusedVariables false
namespace Go.Proofs.YtlfpfeidaohjmaaDoor
open Go.RowKit Go.Grow

def endsOf (l : List (Int × Int)) : List Int := l.flatMap fun s => [s.1, s.2]
theorem endsOf_length (l : List (Int × Int)) : (endsOf l).length = l.length * 2 := by
  induction l with
  | nil => rfl
  | cons x l ih =>
    rw [show endsOf (x :: l) = x.1 :: x.2 :: endsOf l from rfl]
    simp only [List.length_cons, ih]; omega
def ivL (l : List Int) : List Value := l.map (Value.int .i64)
theorem info_in : (Tryd.prog.info? 3).map (fun i => (i.zero, i.size, i.bytes)) = some (some (.int .i64 0), 1, 8) := by kernel_rfl
def AtRel (base : Nat) (W : World) (l : Nat → List (Int × Int)) (v9 v29 : Value) (wr : World) : Prop :=
  ∃ k : Nat, k ≤ 2 ∧ v29 = .int .i64 k ∧ (∃ n, wr.ownsRow base 3 1 v9 n (ivL ((List.range k).flatMap fun i => endsOf (l i))) ∧ n = ((List.range k).flatMap fun i => endsOf (l i)).length) ∧ Below base W wr
end Go.Proofs.YtlfpfeidaohjmaaDoor
/- The shelf's contracts in the shape that the walk wants: a row of instants of the call's own, sorted. -/
set_option linter.unusedSimpArgs false
set_option linter.unusedVariables false
namespace Go.Proofs.YtlfpfeidaohjmaaDoor
open Go.RowKit Go.Grow Go.Shelf Go.Sort

def srt (zs : List Int) : List Int := zs.mergeSort fun x y => decide (x ≤ y)
theorem sortOwn_walk (base : Nat) (v : Value) (zs : List Int) (w : World) (hz : zs.length ≤ 100000) (hown : w.ownsRow base 3 1 v zs.length (ivL zs)) :
    Calls Tryd.prog 126 #[v] w fun e w' => e = .returned (.tuple #[]) ∧ w'.ownsRow base 3 1 v zs.length (ivL (srt zs)) ∧ Below base w w' := by
  obtain ⟨hl, ⟨hv, hn⟩ | ⟨g, cap, cur, hv, hg, hb, h1, h2, h3, h4⟩⟩ := hown
  · subst hv
    have e : zs = [] := List.length_eq_zero_iff.1 hn
    subst e
    refine (Any.slices_Sort_int_none YtlfpfeidaohjmaaDoor.laysSort none 0 w).mono fun e w' ⟨h1, h2⟩ => ?_
    subst h2
    exact ⟨h1, by simpa [srt, ivL] using World.ownsRow_nil w' base 3 1, Below.refl _ _⟩
  · subst hv
    have hH := holds_of_blockI (ss := zs) hb (by simpa [ivL] using h4)
    have hlt : g < w.heap.size := (Array.getElem?_eq_some_iff.1 hb).1
    refine (sort_walk g 0 cap zs w hH hlt (by omega)).mono fun e w' ⟨he, n, os, hw⟩ => ?_
    subst hw
    refine ⟨he, ?_, ?_⟩
    · exact ownsRow_sortedI (ss := zs) (ts := srt zs) (by simp [srt]) hg hb h1 h2 h3
    · have gb := grownBy_sortedI (w := w) (g := g) (n := n) (os := os) (srt zs).toArray
      exact ⟨gb.os, gb.tape, gb.output, gb.size, fun k hk => gb.block k (Nat.lt_of_lt_of_le hk (Nat.le_of_lt (Nat.lt_of_le_of_lt hg hlt))) (fun e => by cases e; omega)⟩
end Go.Proofs.YtlfpfeidaohjmaaDoor
