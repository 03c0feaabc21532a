/- EventSpans: the law's walk, whatever the lists. -/
import Derived.Test.YtlfpfeidaohjmaaDoorEs23
set_option linter.unusedSimpArgs false
set_option linter.unusedVariables false
namespace Go.Proofs.YtlfpfeidaohjmaaDoor
open Go.RowKit Go.Grow

theorem law_walk (a : Nat → Addr) (r1 r2 : Option Addr) (l1 l2 : List (Int × Int)) (n1 n2 c1 c2 : Nat) (w : World) (hs : Sen a allK w) (hh : Hand w) (hne : ∀ j ∈ allK, ∀ k ∈ allK, j ≠ k → a j ≠ a k) (h1 : SpAt w r1 l1) (h2 : SpAt w r2 l2) (e1 : l1.length = n1) (e2 : l2.length = n2) (hl1 : n1 * 16 ≤ 140737488355328) (hl2 : n2 * 16 ≤ 140737488355328) :
    Calls Tryd.prog 10 #[.slice r1 n1 c1, .slice r2 n2 c2] w fun e w' => e = .returned (.bool true) ∧ Below w.heap.size w w' := by
  subst e1
  subst e2
  have hs2 : Sen a [2, 5] w := hs.sub (by decide)
  have big : 4000 < l1.length ∨ 4000 < l2.length → spE l1 l2 ≠ 0 := fun h => by
    unfold spE
    rw [if_pos h]
    decide
  rcases (show l1.length ≤ 60 ∨ (60 < l1.length ∧ l1.length ≤ 4000) ∨ 4000 < l1.length by omega) with p | ⟨p, p'⟩ | p
  · rcases (show l2.length ≤ 60 ∨ (60 < l2.length ∧ l2.length ≤ 4000) ∨ 4000 < l2.length by omega) with q | ⟨q, q'⟩ | q
    · by_cases hE : spE l1 l2 = 0
      · exact law_good a r1 r2 l1 l2 c1 c2 w hs hh hne h1 h2 hl1 hl2 p q hE
      · exact law_bad1 a r1 r2 l1 l2 c1 c2 w hs hh hne h1 h2 hl1 hl2 p q hE
    · exact law_skip2 a r1 r2 l1 l2 c1 c2 w hs2 p q q'
    · exact law_bad2 a r1 r2 l1 l2 c1 c2 w hs hh hne h1 h2 hl1 hl2 p q (big (.inr q))
  · exact law_skip1 a r1 r2 l1 l2 c1 c2 w hs2 p p'
  · rcases (show l2.length ≤ 60 ∨ (60 < l2.length ∧ l2.length ≤ 4000) ∨ 4000 < l2.length by omega) with q | ⟨q, q'⟩ | q
    · exact law_bad3 a r1 r2 l1 l2 c1 c2 w hs hh hne h1 h2 hl1 hl2 p q (big (.inl p))
    · exact law_skip3 a r1 r2 l1 l2 c1 c2 w hs2 p q q'
    · exact law_bad4 a r1 r2 l1 l2 c1 c2 w hs hh hne h1 h2 hl1 hl2 p q (big (.inl p))
end Go.Proofs.YtlfpfeidaohjmaaDoor
