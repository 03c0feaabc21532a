/- The document's run of any bodies. -/
import Derived.Test.YtlfpfeidaohjmaaDoorBw24
set_option linter.unusedSimpArgs false
set_option linter.unusedVariables false
namespace Go.Proofs.YtlfpfeidaohjmaaDoor
open Go.RowKit Go.Grow Go.Bo

theorem runOf_all (r : Option Addr) (n cap : Nat) (k : Int) (B : Nat → Bd) (w : World) (hr : BodsAt w r n B) (h0 : validE n B = 0) (hk : -2000 ≤ k ∧ k ≤ 2000) :
    Calls Tryd.prog 32 #[.slice r n cap, .int .i64 k] w (RunOfIn w n k B) := by
  rcases Nat.eq_zero_or_pos n with h | h
  · subst h
    obtain ⟨E, hE⟩ := run_zero_n (sgn k) k.natAbs B
    exact (runOf0 r cap k B w hk).mono fun e w' ⟨⟨r', c, he⟩, hb⟩ => ⟨hb, .inl ⟨E, r', c, hE, he, .inl rfl⟩⟩
  · exact runOf_inside r n cap k B w hr h0 hk h
def RunOfSome (w : World) (n : Nat) (E : Nat → Bd) (e : Ending) (w' : World) : Prop :=
  ∃ r c, e = .returned (.tuple #[.slice r n c, .int .i64 0]) ∧ BodsAt w' r n E ∧ Below w.heap.size w w'
theorem runOf_some (r : Option Addr) (n cap : Nat) (k : Int) (B E : Nat → Bd) (w : World) (hr : BodsAt w r n B) (h0 : validE n B = 0) (hk : -2000 ≤ k ∧ k ≤ 2000) (hE : runZ n k B = some E) :
    Calls Tryd.prog 32 #[.slice r n cap, .int .i64 k] w (RunOfSome w n E) :=
  (runOf_all r n cap k B w hr h0 hk).mono fun e w' ⟨hb, h⟩ => by
    rcases h with ⟨F, r', c, h1, h2, h3⟩ | ⟨h1, _⟩
    · rw [hE] at h1; cases h1; exact ⟨r', c, h2, h3, hb⟩
    · rw [hE] at h1; cases h1
theorem runOf_none (r : Option Addr) (n cap : Nat) (k : Int) (B : Nat → Bd) (w : World) (hr : BodsAt w r n B) (h0 : validE n B = 0) (hk : -2000 ≤ k ∧ k ≤ 2000) (hE : runZ n k B = none) :
    Calls Tryd.prog 32 #[.slice r n cap, .int .i64 k] w (RunOfOut w 6) :=
  (runOf_all r n cap k B w hr h0 hk).mono fun e w' ⟨hb, h⟩ => by
    rcases h with ⟨F, r', c, h1, _⟩ | ⟨_, h2⟩
    · rw [hE] at h1; cases h1
    · exact ⟨h2, hb⟩
end Go.Proofs.YtlfpfeidaohjmaaDoor
