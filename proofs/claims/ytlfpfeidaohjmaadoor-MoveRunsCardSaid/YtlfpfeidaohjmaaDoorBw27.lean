/- MoveRuns: the law's walk, whatever the bodies and the steps. -/
import Derived.Test.YtlfpfeidaohjmaaDoorBw26
set_option linter.unusedSimpArgs false
set_option linter.unusedVariables false
namespace Go.Proofs.YtlfpfeidaohjmaaDoor
open Go.RowKit Go.Grow Go.Bo

set_option maxRecDepth 100000 in
set_option maxHeartbeats 16000000 in
theorem runs_long (a : Nat → Addr) (r : Option Addr) (n cap : Nat) (st : Int) (w : World) (hs : Sen a [2, 5, 6] w) (hl : ¬ shortB n st) :
    Calls Tryd.prog 6 #[.slice r n cap, .int .i64 st] w fun e w' => e = .returned (.bool true) ∧ Below w.heap.size w w' := by
  have MV := Lib.hid (fun x (hx : Below w.heap.size w x) => moves_walk a x (hs.below hx))
  have g : Hid (Below w.heap.size w w) := Lib.hid (grow_refl w)
  have SH := Lib.hid (short_no r n cap st · hl)
  clear hs hl
  go_enter Tryd.func6, Tryd.ntmps6
  go_wp2_with (first
    | (go_at_call 14; (with_reducible refine (MV.out _ g.out).mono ?_); rintro e w1 ⟨rfl, hb⟩; replace g := Lib.hid (grow_trans g.out hb); clear hb)
    | (go_at_call 15; (with_reducible refine (SH.out _).mono ?_); rintro e w2 ⟨rfl, rfl⟩))
  go_ret
  exact ⟨rfl, g.out⟩

theorem moveRuns_walk (a : Nat → Addr) (r : Option Addr) (n cap : Nat) (st : Int) (B : Nat → Bd) (w : World) (hs : Sen a [2, 5, 6] w) (hr : BodsAt w r n B) (hn : n ≤ 9223372036854775807)
    (CD : ∀ k ≤ 10, ∀ x, Below w.heap.size w x → Calls Tryd.prog 33 #[errV a k, .int .i64 k] x fun e w' => e = .returned (.bool true) ∧ Below x.heap.size x w') :
    Calls Tryd.prog 6 #[.slice r n cap, .int .i64 st] w fun e w' => e = .returned (.bool true) ∧ Below w.heap.size w w' := by
  by_cases hsh : shortB n st
  · by_cases h0 : validE n B = 0
    · by_cases hk : -2000 ≤ st ∧ st ≤ 2000
      · cases hE : runZ n st B with
        | none =>
          exact runs_short a r n cap st B B 0 6 0 w hs hr hsh h0 (by omega) (by omega) CD
            (fun x' r' c hx hc hb => (run_none a r' n c st B x' hn hb hc (hs.below hx) h0 hk hE).mono fun e w' ⟨h1, h2⟩ => ⟨none, 0, h1, .inl rfl, h2⟩)
            (fun x' hx => (runOf_none r n cap st B x' (hr.below hx) h0 hk hE).mono fun e w' ⟨h1, h2⟩ => ⟨none, 0, h1, .inl rfl, h2⟩)
        | some E =>
          exact runs_short a r n cap st B E n 0 0 w hs hr hsh h0 (by omega) (by have := hsh.1; omega) CD
            (fun x' r' c hx hc hb => (run_some a r' n c st B E x' hn hb hc (hs.below hx) h0 hk hE).mono fun e w' ⟨r1, c1, h1, _, h3, h4⟩ => ⟨r1, c1, h1, h3, h4⟩)
            (fun x' hx => (runOf_some r n cap st B E x' (hr.below hx) h0 hk hE).mono fun e w' ⟨r1, c1, h1, h3, h4⟩ => ⟨r1, c1, h1, h3, h4⟩)
      · exact runs_short a r n cap st B B 0 2 0 w hs hr hsh h0 (by omega) (by omega) CD
          (fun x' r' c hx hc hb => (run_far a r' n c st B x' hn hb (hs.below hx) h0 (by omega)).mono fun e w' ⟨h1, h2⟩ => ⟨none, 0, h1, .inl rfl, h2⟩)
          (fun x' hx => (runOf_far r n cap st B x' hn (hr.below hx) h0 (by omega)).mono fun e w' ⟨h1, h2⟩ => ⟨none, 0, h1, .inl rfl, h2⟩)
    · exact runs_short a r n cap st B B 0 (validE n B) (validE n B) w hs hr hsh rfl (validE_le n B) (by omega) CD
        (fun x' r' c hx hc hb => (run_bad a r' n c st B x' hn hb (hs.below hx) h0).mono fun e w' ⟨h1, h2⟩ => ⟨none, 0, h1, .inl rfl, h2⟩)
        (fun x' hx => (runOf_bad r n cap st B x' hn (hr.below hx) h0).mono fun e w' ⟨h1, h2⟩ => ⟨none, 0, h1, .inl rfl, h2⟩)
  · exact runs_long a r n cap st w hs hsh
end Go.Proofs.YtlfpfeidaohjmaaDoor
