/- A row of one event, sorted. -/
import Derived.Test.YtlfpfeidaohjmaaDoorEb11
set_option linter.unusedSimpArgs false
set_option linter.unusedVariables false
namespace Go.Proofs.YtlfpfeidaohjmaaDoor
open Go.RowKit Go.Grow Go.Fl

theorem len_walk (x : Int) (h0 : 0 ≤ x) (h1 : x ≤ 18446744073709551615) (w : World) :
    Calls Tryd.prog 132 #[.int .u64 x] w fun e w' => e = .returned (.int .i64 (Lib.bitLen x.toNat)) ∧ w' = w :=
  Any.bits_Len YtlfpfeidaohjmaaDoor.laysLen x w h0 h1
set_option maxRecDepth 100000 in
set_option maxHeartbeats 8000000 in
theorem ins1_walk (r : Option Addr) (c : Nat) (fv : Value) (w : World) :
    Calls Tryd.prog 151 #[.slice r 1 c, .int .i64 0, .int .i64 1, fv] w fun e w' => e = .returned (.tuple #[]) ∧ w' = w := by
  go_enter Tryd.func151, Tryd.ntmps151
  go_wp2
  refine wp_loop_rounds 1 ?_
  rw [rounds_succ]
  go_wp2
  go_end0
  exact ⟨rfl, rfl⟩
set_option maxRecDepth 100000 in
set_option maxHeartbeats 8000000 in
theorem pdq1_walk (r : Option Addr) (c : Nat) (lim : Int) (fv : Value) (w : World) :
    Calls Tryd.prog 131 #[.slice r 1 c, .int .i64 0, .int .i64 1, .int .i64 lim, fv] w fun e w' => e = .returned (.tuple #[]) ∧ w' = w := by
  have I1 := Lib.hid (fun X => ins1_walk r c fv X)
  go_enter Tryd.func131, Tryd.ntmps131
  go_wp2
  refine wp_loop_rounds 1 ?_
  rw [rounds_succ]
  go_wp2_with (go_at_call 151; (with_reducible refine (I1.out _).mono ?_); rintro e w1 ⟨rfl, rfl⟩)
  (try simp only [Exit.inBlock, Exit.then]); refine bodyPost_ret (results_none rfl _ _ _) rfl ?_
  exact ⟨rfl, rfl⟩
set_option maxRecDepth 100000 in
set_option maxHeartbeats 8000000 in
theorem sort1_walk (r : Option Addr) (c : Nat) (fv : Value) (w : World) :
    Calls Tryd.prog 98 #[.slice r 1 c, fv] w fun e w' => e = .returned (.tuple #[]) ∧ w' = w := by
  have P1 := Lib.hid (fun l X => pdq1_walk r c l fv X)
  have LN := Lib.hid (fun X => len_walk 1 (by omega) (by omega) X)
  go_enter Tryd.func98, Tryd.ntmps98
  go_wp2_with (first
    | (go_at_call 132; (with_reducible refine (LN.out _).mono ?_); rintro e w1 ⟨rfl, rfl⟩)
    | (go_at_call 131; (with_reducible refine (P1.out _ _).mono ?_); rintro e w1 ⟨rfl, rfl⟩))
  go_end0
  exact ⟨rfl, rfl⟩
end Go.Proofs.YtlfpfeidaohjmaaDoor
