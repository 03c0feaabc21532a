/- The law's small walks over mounts. -/
import Derived.Test.YtlfpfeidaohjmaaDoorMw2
import Derived.Test.YtlfpfeidaohjmaaDoorMw6
import Derived.Test.YtlfpfeidaohjmaaDoorMw8
import Derived.Test.YtlfpfeidaohjmaaDoorMp
import Derived.Deep.DeepCutAuto
set_option linter.unusedSimpArgs false
set_option linter.unusedVariables false
namespace Go.Proofs.YtlfpfeidaohjmaaDoor
open Go.RowKit Go.Grow Go.Mo

/-- A command is taken. -/
theorem take_any (a : Nat → Addr) (b : Nat) (s : St) (hs : s.ok) (n x y : Int) (c : ByteArray) (w : World) (m : Known w b (mCells a s)) (hsen : Sen a [6, 7, 10] w) (hbs : ∀ k ∈ [6, 7, 10], gOf k ≠ b ∧ (a k).block ≠ b) :
    Calls Tryd.prog 28 #[.pointer (some ⟨b, 0, none⟩), cmdV n c x y] w fun e w' => e = .returned (repV a (take s n (kindOf c) x y).2) ∧ Left a b (take s n (kindOf c) x y).1 w w' := by
  cases ht : s.taken with
  | false =>
    have e : take s n (kindOf c) x y = ({ (done { s with taken := true, number := n, quiet := 0 } (kindOf c) x y).2 with err := (done { s with taken := true, number := n, quiet := 0 } (kindOf c) x y).1 }, reply (done { s with taken := true, number := n, quiet := 0 } (kindOf c) x y).2 n (done { s with taken := true, number := n, quiet := 0 } (kindOf c) x y).1) := by unfold take; rw [ht]; rfl
    rw [e]
    exact take_new a b s hs n x y c w m hsen hbs (.inl ht) _ rfl
  | true =>
    by_cases h1 : n = s.number
    · have e : take s n (kindOf c) x y = (s, reply s n s.err) := by unfold take; rw [ht, if_pos (by simp [h1])]
      rw [e]
      exact take_same a b s hs n x y c w m hsen hbs ht h1
    · by_cases h2 : n < s.number
      · have e : take s n (kindOf c) x y = (s, reply s n 7) := by unfold take; rw [ht, if_neg (by simp [h1]), if_pos (by simp [h2])]
        rw [e]
        exact take_old a b s hs n x y c w m hsen hbs ht h2
      · have e : take s n (kindOf c) x y = ({ (done { s with taken := true, number := n, quiet := 0 } (kindOf c) x y).2 with err := (done { s with taken := true, number := n, quiet := 0 } (kindOf c) x y).1 }, reply (done { s with taken := true, number := n, quiet := 0 } (kindOf c) x y).2 n (done { s with taken := true, number := n, quiet := 0 } (kindOf c) x y).1) := by unfold take; rw [ht, if_neg (by simp [h1]), if_neg (by simp [h2])]
        rw [e]
        exact take_new a b s hs n x y c w m hsen hbs (.inr ⟨ht, by omega⟩) _ rfl

/-- A new mount, by what comes of it. -/
theorem new_ok (a : Nat → Addr) (A B : Lim) (n : Int) (h0 : newE A B n = 0) (w : World) (hsen : Sen a [2, 5] w) :
    Calls Tryd.prog 23 #[.agg #[.int .i64 A.low, .int .i64 A.high, .int .i64 A.fast, .int .i64 A.home], .agg #[.int .i64 B.low, .int .i64 B.high, .int .i64 B.fast, .int .i64 B.home], .int .i64 n] w
      fun e w' => ∃ b, w.heap.size ≤ b ∧ e = .returned (.tuple #[.pointer (some ⟨b, 0, none⟩), .nilIface]) ∧ Known w' b (mCells a (st0 A B n)) ∧ Below w.heap.size w w' :=
  (new_walk a A B n w hsen).mono fun e w' ⟨hb, h⟩ => by
    rcases h with ⟨h, _⟩ | ⟨_, b, h1, h2, h3⟩
    · exact absurd h0 h
    · exact ⟨b, h1, h2, h3, hb⟩
theorem new_no (a : Nat → Addr) (A B : Lim) (n : Int) (h0 : newE A B n ≠ 0) (w : World) (hsen : Sen a [2, 5] w) :
    Calls Tryd.prog 23 #[.agg #[.int .i64 A.low, .int .i64 A.high, .int .i64 A.fast, .int .i64 A.home], .agg #[.int .i64 B.low, .int .i64 B.high, .int .i64 B.fast, .int .i64 B.home], .int .i64 n] w
      fun e w' => e = .returned (.tuple #[.pointer none, .iface 261 (.pointer (some (a (newE A B n))))]) ∧ Below w.heap.size w w' :=
  (new_walk a A B n w hsen).mono fun e w' ⟨hb, h⟩ => by
    rcases h with ⟨_, h⟩ | ⟨h, _⟩
    · rw [errV_pos a h0] at h
      exact ⟨h, hb⟩
    · exact absurd h h0

set_option maxRecDepth 100000 in
set_option maxHeartbeats 4000000 in
theorem mounted_walk (a : Nat → Addr) (w : World) (hsen : Sen a [2, 5] w) :
    Calls Tryd.prog 22 #[] w fun e w' => e = .returned (.bool true) ∧ Below w.heap.size w w' := by
  have HN := Lib.hid (new_ok a ⟨0, 9, 1, 0⟩ ⟨0, 9, 1, 0⟩ 5 (by decide) w hsen)
  clear hsen
  go_enter Tryd.func22, Tryd.ntmps22
  go_wp2_with (first
    | (go_at_call 23; (with_reducible refine HN.out.mono ?_); rintro e w1 ⟨b, hb, rfl, m, hB⟩; have HB := Lib.hid hB; clear hB hb)
    | (go_at_call 31; refine (state_walk a b (st0 ⟨0, 9, 1, 0⟩ ⟨0, 9, 1, 0⟩ 5) _ ?_).mono ?_; exact m; rintro e w2 ⟨rfl, hB2⟩; simp only [st0]; have HB2 := Lib.hid hB2; clear hB2))
  go_ret
  exact ⟨rfl, grow_trans HB.out HB2.out⟩

end Go.Proofs.YtlfpfeidaohjmaaDoor
