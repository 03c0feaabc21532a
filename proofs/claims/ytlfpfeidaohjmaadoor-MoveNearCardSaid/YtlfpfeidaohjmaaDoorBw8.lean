/- A drift: each body goes on by its speed. -/
import Derived.Test.YtlfpfeidaohjmaaDoorBw7
set_option linter.unusedSimpArgs false
set_option linter.unusedVariables false
namespace Go.Proofs.YtlfpfeidaohjmaaDoor
open Go.RowKit Go.Grow Go.Bo

def drB (s : Int) (B : Nat → Bd) (k : Nat) : Nat → Bd := fun j => if j < k then drift s B j else B j
theorem drB_zero (s : Int) (B : Nat → Bd) : drB s B 0 = B := by funext j; unfold drB; rw [if_neg (by omega)]
theorem drB_at (s : Int) (B : Nat → Bd) (k : Nat) : drB s B k k = B k := by unfold drB; rw [if_neg (by omega)]
theorem drB_succ (s : Int) (B : Nat → Bd) (k : Nat) : updP (drB s B k) k ((B k).p.more s (B k).v) = drB s B (k + 1) := by
  funext j
  unfold updP
  by_cases e : j = k
  · subst e
    rw [if_pos rfl, drB_at]
    unfold drB
    rw [if_pos (by omega)]; rfl
  · rw [if_neg e]
    unfold drB
    by_cases h : j < k
    · rw [if_pos h, if_pos (by omega)]
    · rw [if_neg h, if_neg (by omega)]
/-- What a callee leaves that writes the row alone. -/
def Wrote (w : World) (g o n : Nat) (C : Nat → Bd) (e : Ending) (w' : World) : Prop := e = .returned (.tuple #[]) ∧ Row w' g o n C ∧ But g w w'

set_option maxRecDepth 100000 in
set_option maxHeartbeats 8000000 in
theorem drift_walk (g o n cap : Nat) (s : Int) (B : Nat → Bd) (w : World) (hn : n ≤ 1000000) (hr : Row w g o n B) (hf : ∀ i, i < n → Fits (B i).p s (B i).v) :
    Calls Tryd.prog 119 #[.slice (some ⟨g, o, none⟩) n cap, .int .i64 s] w (Wrote w g o n (drift s B)) := by
  have HR := Lib.hid hr
  have HF := Lib.hid hf
  clear hr hf
  go_enter Tryd.func119, Tryd.ntmps119
  go_wp2
  go_loopw [7] (fun v7 wr => ∃ k : Nat, k ≤ n ∧ v7 = .int .i64 k ∧ Row wr g o n (drB s B k) ∧ But g w wr) (fun i _ => n - (intOf i).toNat)
  case atStart => exact ⟨0, Nat.zero_le _, rfl, by rw [drB_zero]; exact HR.out, But.refl _ _⟩
  case round =>
    obtain ⟨k, hk, rfl, hrow, hbut⟩ := hrel
    have R := Lib.hid hrow
    have BT := Lib.hid hbut
    by_cases hlt : k < n
    · obtain ⟨c0, c1, c2, c3, c4, c5, c6⟩ := hrow.body k hlt
      have fz := hrow.frozen
      have hl := hrow.lt
      rw [drB_at] at c0 c1 c2 c3 c4 c5 c6
      have AD := Lib.hid (fun x => add_walk (B k).p (B k).v s x (HF.out k hlt))
      have NX := Lib.hid (drB_succ s B k)
      clear hrow hbut
      unfold vec at AD
      generalize (B k).p.more s (B k).v = np at AD NX
      generalize B k = d at c0 c1 c2 c3 c4 c5 c6 AD
      obtain ⟨⟨x, y, z⟩, ⟨u, v, q⟩, m⟩ := d
      simp only at c0 c1 c2 c3 c4 c5 c6 AD
      go_wp2
      refine Grow.wp_region_over_tail 16 (by kernel_rfl) (by kernel_rfl) ?_
      simp only [List.take_succ_cons, List.take_zero, List.drop_succ_cons, List.drop_zero]
      repeat (go_big_quiet_step ((go_at_call 70; with_reducible exact Calls.over_of (AD.out _))))
      refine wpQuiet_nil ?_
      intro x9 hz9
      have RX := Lib.hid (R.out.below (below_over wr x9))
      have BX := Lib.hid (BT.out.trans (But.of_below (below_over wr x9)))
      have fx := RX.out.frozen
      have hlx := RX.out.lt
      obtain ⟨d0, d1, d2, _⟩ := RX.out.body k hlt
      rw [drB_at] at d0 d1 d2
      clear R BT c0 c1 c2 c3 c4 c5 c6 fz hl
      generalize over wr x9 = w4 at *
      go_wp2
      go_roundw
      case rel =>
        refine ⟨k + 1, by omega, by go_num, ?_, but_set3 BX.out (o + k * 7) np⟩
        rw [← NX.out]
        exact RX.out.setP hlt np
      case measure => simp [intOf]; omega
    · obtain rfl : k = n := by omega
      go_wp2
      go_end0
      exact ⟨rfl, R.out.at (fun j hj => by unfold drB; rw [if_pos hj]), BT.out⟩
end Go.Proofs.YtlfpfeidaohjmaaDoor
