/- The document's mount: its small functions. -/
import Derived.Test.YtlfpfeidaohjmaaDoorMw3
import Derived.Test.YtlfpfeidaohjmaaDoorMw7
import Derived.Test.YtlfpfeidaohjmaaDoorMw8
import Derived.StillTailTactics
set_option linter.unusedSimpArgs false
set_option linter.unusedVariables false
namespace Go.Proofs.YtlfpfeidaohjmaaDoor
open Go.RowKit Go.Grow Go.Mo

/-- The cells of the document's mount. -/
def rCells (m : Rf) : Array Value :=
  #[.int .i64 m.a.low, .int .i64 m.a.high, .int .i64 m.a.fast, .int .i64 m.a.home, .int .i64 m.b.low, .int .i64 m.b.high, .int .i64 m.b.fast, .int .i64 m.b.home,
    .int .i64 m.x, .int .i64 m.y, .int .i64 m.p, .int .i64 m.q, .int .i64 m.state, .int .i64 m.patience, .int .i64 m.quiet, .bool m.taken, .int .i64 m.number, .int .i64 m.code]
def RLeft (b : Nat) (m : Rf) (w w' : World) : Prop := Known w' b (rCells m) ∧ But b w w'
theorem rleft_mk {b : Nat} {m : Rf} {w w' : World} {c : Array Value} (h : Known w' b c) (e : c = rCells m) (k : But b w w') : RLeft b m w w' := ⟨e ▸ h, k⟩

set_option maxRecDepth 100000 in
set_option maxHeartbeats 4000000 in
theorem large_walk (n : Int) (w : World) : Calls Tryd.prog 83 #[.int .i64 n] w fun e w' => e = .returned (.bool (big n)) ∧ w = w' := by
  rcases big_cases n with ⟨h1, hb⟩ | ⟨h1, h2, hb⟩ | ⟨h1, h2, hb⟩
  all_goals
    have HB := Lib.hid hb
    clear hb
    go_enter Tryd.func83, Tryd.ntmps83
    go_wp2
    go_ret
    exact ⟨by rw [HB.out]; simp [*], rfl⟩
theorem towards_walk (x y f : Int) (h1 : -1099511627776 ≤ x) (h2 : x ≤ 1099511627776) (h3 : -1099511627776 ≤ y) (h4 : y ≤ 1099511627776) (h5 : 1 ≤ f) (h6 : f ≤ 1099511627776) (w : World) :
    Calls Tryd.prog 84 #[.int .i64 x, .int .i64 y, .int .i64 f] w fun e w' => e = .returned (.int .i64 (towards x y f)) ∧ w = w' := by
  by_cases g1 : f < y - x
  · have HT := Lib.hid (show towards x y f = x + f by unfold towards; rw [if_pos g1])
    go_enter Tryd.func84, Tryd.ntmps84
    go_wp2
    go_ret
    exact ⟨by rw [HT.out]; rfl, rfl⟩
  · by_cases g2 : f < x - y
    · have HT := Lib.hid (show towards x y f = x - f by unfold towards; rw [if_neg g1, if_pos g2])
      go_enter Tryd.func84, Tryd.ntmps84
      go_wp2
      go_ret
      exact ⟨by rw [HT.out]; rfl, rfl⟩
    · have HT := Lib.hid (show towards x y f = y by unfold towards; rw [if_neg g1, if_neg g2])
      go_enter Tryd.func84, Tryd.ntmps84
      go_wp2
      go_ret
      exact ⟨by rw [HT.out]; rfl, rfl⟩

set_option maxRecDepth 100000 in
set_option maxHeartbeats 4000000 in
theorem shape_walk (l : Lim) (w : World) : Calls Tryd.prog 81 #[limV l] w fun e w' => e = .returned (.bool (!bad l)) ∧ Below w.heap.size w w' := by
  unfold limV
  rcases bad_cases l with ⟨A0, hA⟩ | ⟨A0, A1, hA⟩ | ⟨A0, A1, A2, hA⟩ | ⟨A0, A1, A2, A3, hA⟩ | ⟨A0, A1, A2, A3, hA⟩
  all_goals
    have HA := Lib.hid hA
    clear hA
    (try simp only [Int.not_lt] at *)
    go_enter Tryd.func81, Tryd.ntmps81
    go_wp2
    try go_quiet (fail)
    try go_wp2
    go_ret
    refine ⟨by rw [HA.out]; simp [*]; try omega, ?_⟩
    (repeat (with_reducible first | exact Grow.grow_refl _ | refine Grow.grow_setCell ?_ ?_ _ | refine Grow.grow_alloc ?_ _ | refine Grow.grow_drewN ?_ _ | refine Grow.grow_drew ?_)) <;> (first | omega | (simp; done))
theorem limits_large (l : Lim) (w : World) : Calls Tryd.prog 82 #[limV l] w fun e w' => e = .returned (.bool (wide l)) ∧ Below w.heap.size w w' := by
  unfold limV wide
  have L1 := Lib.hid (fun w => large_walk l.low w)
  have L2 := Lib.hid (fun w => large_walk l.high w)
  have L3 := Lib.hid (fun w => large_walk l.fast w)
  have L4 := Lib.hid (fun w => large_walk l.home w)
  cases h1 : big l.low <;> cases h2 : big l.high <;> cases h3 : big l.fast <;> cases h4 : big l.home
  all_goals
    rw [h1] at L1
    rw [h2] at L2
    rw [h3] at L3
    rw [h4] at L4
    clear h1 h2 h3 h4
    go_enter Tryd.func82, Tryd.ntmps82
    go_wp2_with (go_at_call 83; (first | (with_reducible refine (L1.out _).mono ?_) | (with_reducible refine (L2.out _).mono ?_) | (with_reducible refine (L3.out _).mono ?_) | (with_reducible refine (L4.out _).mono ?_)); rintro e w1 ⟨rfl, rfl⟩)
    go_ret
    refine ⟨rfl, ?_⟩
    (repeat (with_reducible first | exact Grow.grow_refl _ | refine Grow.grow_setCell ?_ ?_ _ | refine Grow.grow_alloc ?_ _ | refine Grow.grow_drewN ?_ _ | refine Grow.grow_drew ?_)) <;> (first | omega | (simp; done))

end Go.Proofs.YtlfpfeidaohjmaaDoor
