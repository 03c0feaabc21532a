/- Spans that are joined: the walk. -/
import Derived.Test.YtlfpfeidaohjmaaDoorEs13
import Derived.Test.YtlfpfeidaohjmaaDoorEs10
set_option linter.unusedSimpArgs false
set_option linter.unusedVariables false
namespace Go.Proofs.YtlfpfeidaohjmaaDoor
open Go.RowKit Go.Grow

/-- The two lists, as spans is called with them. -/
theorem two_walk (a : Nat → Addr) (r1 r2 : Option Addr) (l1 l2 : List (Int × Int)) (c1 c2 : Nat) (w X : World) (hX : Below w.heap.size w X) (hs : Sen a [2, 5] w) (h1 : SpAt w r1 l1) (h2 : SpAt w r2 l2) (hl1 : l1.length ≤ 9223372036854775807) (hl2 : l2.length ≤ 9223372036854775807) :
    Calls Tryd.prog 93 #[.slice (some ⟨X.heap.size, 0, none⟩) 2 2] (X.alloc (.cells #[.slice r1 l1.length c1, .slice r2 l2.length c2] 92)) fun e w' => e = .returned (errV a (lsE [⟨r1, l1, c1⟩, ⟨r2, l2, c2⟩])) ∧ Below w.heap.size w w' := by
  have hb : Below w.heap.size w (X.alloc (.cells #[.slice r1 l1.length c1, .slice r2 l2.length c2] 92)) := grow_alloc hX _
  have K := Known.new X #[.slice r1 l1.length c1, .slice r2 l2.length c2] 92
  have h := lists_walk a X.heap.size 2 [⟨r1, l1, c1⟩, ⟨r2, l2, c2⟩] _ (hs.below hb) (by simp) (fun k hk => by
    have : k = 0 ∨ k = 1 := by have : k < 2 := by simpa using hk
                               omega
    rcases this with rfl | rfl
    · exact ⟨K.cell 0, h1.below hb, hl1⟩
    · exact ⟨K.cell 1, h2.below hb, hl2⟩)
  exact h.mono fun e w' ⟨g1, g2⟩ => ⟨g1, grow_trans hb g2⟩
set_option maxRecDepth 100000 in
set_option maxHeartbeats 8000000 in
theorem joined_no (a : Nat → Addr) (fn : Value) (r1 r2 : Option Addr) (l1 l2 : List (Int × Int)) (c1 c2 : Nat) (w : World) (hs : Sen a [2, 5] w) (h1 : SpAt w r1 l1) (h2 : SpAt w r2 l2) (hl1 : l1.length ≤ 9223372036854775807) (hl2 : l2.length ≤ 9223372036854775807) (hE : lsE [⟨r1, l1, c1⟩, ⟨r2, l2, c2⟩] ≠ 0) :
    Calls Tryd.prog 89 #[.slice r1 l1.length c1, .slice r2 l2.length c2, fn] w fun e w' => e = .returned (.tuple #[.slice none 0 0, errV a (lsE [⟨r1, l1, c1⟩, ⟨r2, l2, c2⟩])]) ∧ Below w.heap.size w w' := by
  have SP := Lib.hid (two_walk a r1 r2 l1 l2 c1 c2 w w (Below.refl _ _) hs h1 h2 hl1 hl2)
  have hu := errV_pos a hE
  rw [hu] at SP ⊢
  clear hs h1 h2 hE hu
  go_enter Tryd.func89, Tryd.ntmps89
  go_wp2_with (go_at_call 93; (with_reducible refine SP.out.mono ?_); rintro e w1 ⟨rfl, hb⟩; have HB := Lib.hid hb; clear hb)
  go_ret2
  exact ⟨rfl, HB.out⟩
end Go.Proofs.YtlfpfeidaohjmaaDoor
