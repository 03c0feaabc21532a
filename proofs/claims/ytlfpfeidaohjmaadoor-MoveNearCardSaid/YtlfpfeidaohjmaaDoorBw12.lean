/- Run: so many steps. -/
import Derived.Test.YtlfpfeidaohjmaaDoorBw11
import Derived.LoopN
import Derived.Deep.QuietTactic
import Derived.BigQuiet
set_option linter.unusedSimpArgs false
set_option linter.unusedVariables false
namespace Go.Proofs.YtlfpfeidaohjmaaDoor
open Go.RowKit Go.Grow Go.Bo

set_option maxRecDepth 100000 in
set_option maxHeartbeats 8000000 in
theorem kick0 (r : Option Addr) (cap : Nat) (s : Int) (w : World) :
    Calls Tryd.prog 116 #[.slice r 0 cap, .int .i64 s] w fun e w' => e = .returned (.tuple #[]) ∧ Below w.heap.size w w' := by
  go_enter Tryd.func116, Tryd.ntmps116
  go_wp2
  refine wp_loop_rounds 1 ?_
  rw [rounds_succ]
  go_wp2
  go_end0
  exact ⟨rfl, grow_refl _⟩
set_option maxRecDepth 100000 in
set_option maxHeartbeats 8000000 in
theorem drift0 (r : Option Addr) (cap : Nat) (s : Int) (w : World) :
    Calls Tryd.prog 119 #[.slice r 0 cap, .int .i64 s] w fun e w' => e = .returned (.tuple #[]) ∧ Below w.heap.size w w' := by
  go_enter Tryd.func119, Tryd.ntmps119
  go_wp2
  refine wp_loop_rounds 1 ?_
  rw [rounds_succ]
  go_wp2
  go_end0
  exact ⟨rfl, grow_refl _⟩
theorem any0 (B : Nat → Bd) (p : Bd → Bool) : anyB 0 B p = false := (anyB_false 0 B p).2 fun k hk => absurd hk (by omega)
set_option maxRecDepth 100000 in
set_option maxHeartbeats 8000000 in
theorem step0 (r : Option Addr) (cap : Nat) (s : Int) (w : World) :
    Calls Tryd.prog 69 #[.slice r 0 cap, .int .i64 s] w fun e w' => e = .returned (.bool true) ∧ Below w.heap.size w w' := by
  have K1 := Lib.hid (fun x => kick0 r cap s x)
  have D1 := Lib.hid (fun x => drift0 r cap s x)
  have H1 := Lib.hid (fun x => has_step1 r 0 cap (fun _ => ⟨C3.zero, C3.zero, 0⟩) x (by omega) (.inl rfl))
  have H2 := Lib.hid (fun x => has_step2 r 0 cap (fun _ => ⟨C3.zero, C3.zero, 0⟩) x (by omega) (.inl rfl))
  have FR := Lib.hid (fun x => free_walk r 0 cap (fun _ => ⟨C3.zero, C3.zero, 0⟩) x (by omega) (.inl rfl))
  rw [any0] at H1 H2 FR
  have g : Hid (Below w.heap.size w w) := Lib.hid (grow_refl _)
  have s0 := trivial
  go_enter Tryd.func69, Tryd.ntmps69
  go_wp2_with (first
    | (go_at_call 116; (with_reducible refine (K1.out _).mono ?_); rintro e w1 ⟨rfl, hb⟩; replace g := Lib.hid (grow_trans g.out hb); clear hb)
    | (clear s0; go_at_call 77; (with_reducible refine (H1.out _).mono ?_); rintro e w2 ⟨rfl, hb⟩; replace g := Lib.hid (grow_trans g.out hb); clear hb; have s1 := trivial)
    | (go_at_call 119; (with_reducible refine (D1.out _).mono ?_); rintro e w3 ⟨rfl, hb⟩; replace g := Lib.hid (grow_trans g.out hb); clear hb)
    | (clear s1; go_at_call 77; (with_reducible refine (H2.out _).mono ?_); rintro e w4 ⟨rfl, hb⟩; replace g := Lib.hid (grow_trans g.out hb); clear hb)
    | (go_at_call 79; (with_reducible refine (FR.out _).mono ?_); rintro e w6 ⟨rfl, hb⟩; replace g := Lib.hid (grow_trans g.out hb); clear hb))
  go_ret
  exact ⟨rfl, g.out⟩

def sgn (k : Int) : Int := if k < 0 then -1 else 1
theorem sgn_or (k : Int) : sgn k = 1 ∨ sgn k = -1 := by unfold sgn; split <;> simp
/-- Bodies after so many steps, on or back. -/
noncomputable def runZ (n : Nat) (k : Int) (B : Nat → Bd) : Option (Nat → Bd) := Bo.run n (sgn k) k.natAbs B
theorem run_stop {n : Nat} {s : Int} {k K : Nat} {B E : Nat → Bd} (h : Bo.run n s k B = some E) (hs : Bo.step n s E = none) (hk : k < K) : Bo.run n s K B = none := by
  obtain ⟨m, rfl⟩ : ∃ m, K = k + (1 + m) := ⟨K - k - 1, by omega⟩
  rw [run_add, h, Option.bind_some, run_add]
  show ((some E).bind (Bo.step n s)).bind _ = none
  rw [Option.bind_some, hs]; rfl
theorem run_on {n : Nat} {s : Int} {k : Nat} {B E F : Nat → Bd} (h : Bo.run n s k B = some E) (hs : Bo.step n s E = some F) : Bo.run n s (k + 1) B = some F := by
  show (Bo.run n s k B).bind (Bo.step n s) = _
  rw [h]; exact hs
theorem run_zero_n (s : Int) (k : Nat) (B : Nat → Bd) : ∃ E, Bo.run 0 s k B = some E := by
  induction k with
  | zero => exact ⟨B, rfl⟩
  | succ k ih =>
    obtain ⟨E, h⟩ := ih
    refine ⟨kick 0 s (drift s (kick 0 s E)), run_on h ?_⟩
    unfold Bo.step
    rw [if_pos (show okP 0 _ from fun i hi => absurd hi (by omega)), if_pos (show okV 0 _ from fun i hi => absurd hi (by omega))]

def RunIn (a : Nat → Addr) (w : World) (n : Nat) (k : Int) (B : Nat → Bd) (e : Ending) (w' : World) : Prop :=
  Below w.heap.size w w' ∧ ((∃ E r c, runZ n k B = some E ∧ e = .returned (.tuple #[.slice r n c, .nilIface]) ∧ BodsAt w' r n E ∧ (r = none → c = 0)) ∨ (runZ n k B = none ∧ e = .returned (.tuple #[.slice none 0 0, errV a 6])))
def RunOut (a : Nat → Addr) (w : World) (x : Nat) (e : Ending) (w' : World) : Prop := e = .returned (.tuple #[.slice none 0 0, errV a x]) ∧ Below w.heap.size w w'

set_option maxRecDepth 100000 in
set_option maxHeartbeats 8000000 in
theorem run_bad (a : Nat → Addr) (r : Option Addr) (n cap : Nat) (k : Int) (B : Nat → Bd) (w : World) (hn : n ≤ 9223372036854775807) (hr : BodsAt w r n B) (hs : Sen a [2, 5, 6] w) (h0 : validE n B ≠ 0) :
    Calls Tryd.prog 16 #[.slice r n cap, .int .i64 k] w (RunOut a w (validE n B)) := by
  have V := Lib.hid (valid_walk a r n cap B w hn hr hs)
  have HE := Lib.hid (errV_pos a h0)
  rw [HE.out] at V
  clear hr hs h0
  go_enter Tryd.func16, Tryd.ntmps16
  go_wp2_with (go_at_call 34; (with_reducible refine V.out.mono ?_); rintro e w1 ⟨rfl, hb⟩; have HB := Lib.hid hb; clear hb)
  go_ret2
  exact ⟨by rw [HE.out]; rfl, HB.out⟩
set_option maxRecDepth 100000 in
set_option maxHeartbeats 8000000 in
theorem run_far (a : Nat → Addr) (r : Option Addr) (n cap : Nat) (k : Int) (B : Nat → Bd) (w : World) (hn : n ≤ 9223372036854775807) (hr : BodsAt w r n B) (hs : Sen a [2, 5, 6] w) (h0 : validE n B = 0) (hk : 2000 < k ∨ k < -2000) :
    Calls Tryd.prog 16 #[.slice r n cap, .int .i64 k] w (RunOut a w 2) := by
  have V := Lib.hid (valid_walk a r n cap B w hn hr hs)
  rw [h0, errV_zero] at V
  have HE := Lib.hid (errV_pos a (show 2 ≠ 0 by decide))
  have c2 := (hs 2 (by decide)).1
  have l2 := (hs.lt (k := 2) (by decide)).1
  simp only [gOf] at c2 l2
  clear hr hs h0
  rcases hk with hk | hk
  all_goals
    go_enter Tryd.func16, Tryd.ntmps16
    go_wp2_with (go_at_call 34; (with_reducible refine V.out.mono ?_); rintro e w1 ⟨rfl, hb⟩; have HB := Lib.hid hb; obtain ⟨hc1, hf1, hz1⟩ := facts hb; clear hb)
    go_quiet (fail)
    go_wp2
    go_ret2
    exact ⟨by rw [HE.out]; rfl, grow_drewN HB.out _⟩
end Go.Proofs.YtlfpfeidaohjmaaDoor
