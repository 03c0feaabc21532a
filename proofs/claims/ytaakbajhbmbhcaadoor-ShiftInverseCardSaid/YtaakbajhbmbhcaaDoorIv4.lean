/- ShiftInverse: what the law gives, for every row. -/
import Derived.Test.YtaakbajhbmbhcaaDoorIv3
set_option linter.unusedSimpArgs false
set_option linter.unusedVariables false
namespace Go.Proofs.YtaakbajhbmbhcaaDoor
open Go.RowKit Go.Fl Go.Grow Go.Tr

theorem inverse_walk (a : Nat → Addr) (r : Option Addr) (l : List (Nat × Nat)) (n cap : Nat) (w : World) (hs : Sen a [2, 5] w) (hl : l.length = n) (hr : PrAt w r l) (hn : n ≤ 9223372036854775807) :
    Calls Tryd.prog 3 #[.slice r n cap] w fun e w' => e = .returned (.bool true) ∧ Below w.heap.size w w' := by
  by_cases h : 64 < n
  · exact inverse_long a r n cap w hs hn h
  · cases h2 : isP2 n with
    | false => exact inverse_odd a r n cap w hs (by omega) h2
    | true =>
      obtain ⟨p, hm, _, h0⟩ := isP2_pow h2
      exact inverse_main a r l p n cap w hs hl hr (by omega) h0 hm h2
end Go.Proofs.YtaakbajhbmbhcaaDoor
