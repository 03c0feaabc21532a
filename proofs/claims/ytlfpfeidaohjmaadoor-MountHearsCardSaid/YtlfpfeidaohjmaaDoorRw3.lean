/- The document's mount does what a command says. -/
import Derived.Test.YtlfpfeidaohjmaaDoorRw2
set_option linter.unusedSimpArgs false
set_option linter.unusedVariables false
namespace Go.Proofs.YtlfpfeidaohjmaaDoor
open Go.RowKit Go.Grow Go.Mo

set_option maxRecDepth 100000 in
set_option maxHeartbeats 24000000 in
theorem rdo_slew (b : Nat) (m0 : Rf) (hm : RB m0) (n x y : Int) (c : ByteArray) (w : World) (m : Known w b (rCells m0)) (d0 : (c.toList == [115, 108, 101, 119]) = true) :
    Calls Tryd.prog 86 #[.pointer (some ⟨b, 0, none⟩), cmdV n c x y] w fun e w' => e = .returned (.int .i64 (rdone m0 .slew x y).1) ∧ RLeft b (rdone m0 .slew x y).2 w w' := by
  obtain ⟨a, b', mx, my, p, q, st, pa, qu, ta, nu, er⟩ := m0
  obtain ⟨v1, v2, v3, v4, v5, v6⟩ := hm.a
  obtain ⟨n1, n2, n3, n4, n5, n6⟩ := hm.b
  clear hm
  unfold rCells at m
  simp only at v1 v2 v3 v4 v5 v6 n1 n2 n3 n4 n5 n6 m
  have hbw := m.lt
  have k := But.refl b w
  have z1 : IntKind.i64.wrap (-a.fast) = -a.fast := IntWalk.i64_in _ (by omega)
  have z2 : IntKind.i64.wrap (-b'.fast) = -b'.fast := IntWalk.i64_in _ (by omega)
  have cm := m.cell
  have fm := m.frozen
  have lm := m.lt
  unfold cmdV
  have key : (x < a.low) ∨ (¬ (x < a.low) ∧ a.high < x) ∨ (¬ (x < a.low) ∧ ¬ (a.high < x) ∧ y < b'.low) ∨ (¬ (x < a.low) ∧ ¬ (a.high < x) ∧ ¬ (y < b'.low) ∧ b'.high < y) ∨ (¬ (x < a.low) ∧ ¬ (a.high < x) ∧ ¬ (y < b'.low) ∧ ¬ (b'.high < y)) := by omega
  rcases key with A1 | ⟨A1, A2⟩ | ⟨A1, A2, A3⟩ | ⟨A1, A2, A3, A4⟩ | ⟨A1, A2, A3, A4⟩
  · have b1 : decide (x < a.low) = true := decide_eq_true A1
    have HR := Lib.hid (show rdone ⟨a, b', mx, my, p, q, st, pa, qu, ta, nu, er⟩ .slew x y = (6, ⟨a, b', mx, my, p, q, st, pa, qu, ta, nu, er⟩) by unfold rdone; dsimp only; rw [if_pos (by omega)])
    clear A1
    go_enter Tryd.func86, Tryd.ntmps86
    go_wp2
    refine Grow.seal_wp ?_
    intro W hW
    clear cm fm lm
    have k2 : But b w W := by
      rw [hW.out]
      (repeat (with_reducible first | exact k | refine But.setCell ?_ _ _ | refine But.alloc ?_ _ | refine But.drewN ?_ _ | refine But.drew ?_ | refine But.fresh ?_ ?_ _ _)) <;> omega
    apply Grow.have_known (W := W)
    · rw [hW.out]
      apply Known.at m
      (repeat (with_reducible first | exact m | apply Known.same | apply Known.other | apply Known.alloc | apply Known.drewN | apply Known.drew)) <;> omega
    clear m
    intro m
    (try simp only [List.setIfInBounds_toArray, List.set_cons_zero, List.set_cons_succ] at m)
    apply Grow.have_known (W := W) (b := w.heap.size)
    · rw [hW.out]
      (repeat (with_reducible first | exact Known.new _ _ _ | (apply Known.new'; (first | rfl | (simp; done))) | apply Known.same | apply Known.other | apply Known.alloc | apply Known.drewN | apply Known.drew)) <;> omega
    intro r
    (try simp only [List.setIfInBounds_toArray, List.set_cons_zero, List.set_cons_succ] at r)
    clear hW k
    have k := k2
    clear k2
    have cm := m.cell
    have fm := m.frozen
    have lm := m.lt
    have cr := r.cell
    have fr := r.frozen
    have lr := r.lt
    go_quiet (fail)
    go_wp2
    go_ret
    rw [HR.out]
    refine ⟨rfl, ?_, ?_⟩
    · apply Known.of_eq
      · apply Known.at m
        (repeat (with_reducible first | exact m | apply Known.same | apply Known.other | apply Known.alloc | apply Known.drewN | apply Known.drew)) <;> omega
      · simp [rCells]
    · (repeat (with_reducible first | exact k | refine But.setCell ?_ _ _ | refine But.alloc ?_ _ | refine But.drewN ?_ _ | refine But.drew ?_ | refine But.fresh ?_ ?_ _ _)) <;> omega
  · have b1 : decide (x < a.low) = false := decide_eq_false A1
    have b2 : decide (a.high < x) = true := decide_eq_true A2
    have HR := Lib.hid (show rdone ⟨a, b', mx, my, p, q, st, pa, qu, ta, nu, er⟩ .slew x y = (6, ⟨a, b', mx, my, p, q, st, pa, qu, ta, nu, er⟩) by unfold rdone; dsimp only; rw [if_pos (by omega)])
    clear A1 A2
    go_enter Tryd.func86, Tryd.ntmps86
    go_wp2
    refine Grow.seal_wp ?_
    intro W hW
    clear cm fm lm
    have k2 : But b w W := by
      rw [hW.out]
      (repeat (with_reducible first | exact k | refine But.setCell ?_ _ _ | refine But.alloc ?_ _ | refine But.drewN ?_ _ | refine But.drew ?_ | refine But.fresh ?_ ?_ _ _)) <;> omega
    apply Grow.have_known (W := W)
    · rw [hW.out]
      apply Known.at m
      (repeat (with_reducible first | exact m | apply Known.same | apply Known.other | apply Known.alloc | apply Known.drewN | apply Known.drew)) <;> omega
    clear m
    intro m
    (try simp only [List.setIfInBounds_toArray, List.set_cons_zero, List.set_cons_succ] at m)
    apply Grow.have_known (W := W) (b := w.heap.size)
    · rw [hW.out]
      (repeat (with_reducible first | exact Known.new _ _ _ | (apply Known.new'; (first | rfl | (simp; done))) | apply Known.same | apply Known.other | apply Known.alloc | apply Known.drewN | apply Known.drew)) <;> omega
    intro r
    (try simp only [List.setIfInBounds_toArray, List.set_cons_zero, List.set_cons_succ] at r)
    clear hW k
    have k := k2
    clear k2
    have cm := m.cell
    have fm := m.frozen
    have lm := m.lt
    have cr := r.cell
    have fr := r.frozen
    have lr := r.lt
    go_quiet (fail)
    go_wp2
    go_ret
    rw [HR.out]
    refine ⟨rfl, ?_, ?_⟩
    · apply Known.of_eq
      · apply Known.at m
        (repeat (with_reducible first | exact m | apply Known.same | apply Known.other | apply Known.alloc | apply Known.drewN | apply Known.drew)) <;> omega
      · simp [rCells]
    · (repeat (with_reducible first | exact k | refine But.setCell ?_ _ _ | refine But.alloc ?_ _ | refine But.drewN ?_ _ | refine But.drew ?_ | refine But.fresh ?_ ?_ _ _)) <;> omega
  · have b1 : decide (x < a.low) = false := decide_eq_false A1
    have b2 : decide (a.high < x) = false := decide_eq_false A2
    have b3 : decide (y < b'.low) = true := decide_eq_true A3
    have HR := Lib.hid (show rdone ⟨a, b', mx, my, p, q, st, pa, qu, ta, nu, er⟩ .slew x y = (6, ⟨a, b', mx, my, p, q, st, pa, qu, ta, nu, er⟩) by unfold rdone; dsimp only; rw [if_pos (by omega)])
    clear A1 A2 A3
    go_enter Tryd.func86, Tryd.ntmps86
    go_wp2
    refine Grow.seal_wp ?_
    intro W hW
    clear cm fm lm
    have k2 : But b w W := by
      rw [hW.out]
      (repeat (with_reducible first | exact k | refine But.setCell ?_ _ _ | refine But.alloc ?_ _ | refine But.drewN ?_ _ | refine But.drew ?_ | refine But.fresh ?_ ?_ _ _)) <;> omega
    apply Grow.have_known (W := W)
    · rw [hW.out]
      apply Known.at m
      (repeat (with_reducible first | exact m | apply Known.same | apply Known.other | apply Known.alloc | apply Known.drewN | apply Known.drew)) <;> omega
    clear m
    intro m
    (try simp only [List.setIfInBounds_toArray, List.set_cons_zero, List.set_cons_succ] at m)
    apply Grow.have_known (W := W) (b := w.heap.size)
    · rw [hW.out]
      (repeat (with_reducible first | exact Known.new _ _ _ | (apply Known.new'; (first | rfl | (simp; done))) | apply Known.same | apply Known.other | apply Known.alloc | apply Known.drewN | apply Known.drew)) <;> omega
    intro r
    (try simp only [List.setIfInBounds_toArray, List.set_cons_zero, List.set_cons_succ] at r)
    clear hW k
    have k := k2
    clear k2
    have cm := m.cell
    have fm := m.frozen
    have lm := m.lt
    have cr := r.cell
    have fr := r.frozen
    have lr := r.lt
    go_quiet (fail)
    go_wp2
    go_ret
    rw [HR.out]
    refine ⟨rfl, ?_, ?_⟩
    · apply Known.of_eq
      · apply Known.at m
        (repeat (with_reducible first | exact m | apply Known.same | apply Known.other | apply Known.alloc | apply Known.drewN | apply Known.drew)) <;> omega
      · simp [rCells]
    · (repeat (with_reducible first | exact k | refine But.setCell ?_ _ _ | refine But.alloc ?_ _ | refine But.drewN ?_ _ | refine But.drew ?_ | refine But.fresh ?_ ?_ _ _)) <;> omega
  · have b1 : decide (x < a.low) = false := decide_eq_false A1
    have b2 : decide (a.high < x) = false := decide_eq_false A2
    have b3 : decide (y < b'.low) = false := decide_eq_false A3
    have b4 : decide (b'.high < y) = true := decide_eq_true A4
    have HR := Lib.hid (show rdone ⟨a, b', mx, my, p, q, st, pa, qu, ta, nu, er⟩ .slew x y = (6, ⟨a, b', mx, my, p, q, st, pa, qu, ta, nu, er⟩) by unfold rdone; dsimp only; rw [if_pos (by omega)])
    clear A1 A2 A3 A4
    go_enter Tryd.func86, Tryd.ntmps86
    go_wp2
    refine Grow.seal_wp ?_
    intro W hW
    clear cm fm lm
    have k2 : But b w W := by
      rw [hW.out]
      (repeat (with_reducible first | exact k | refine But.setCell ?_ _ _ | refine But.alloc ?_ _ | refine But.drewN ?_ _ | refine But.drew ?_ | refine But.fresh ?_ ?_ _ _)) <;> omega
    apply Grow.have_known (W := W)
    · rw [hW.out]
      apply Known.at m
      (repeat (with_reducible first | exact m | apply Known.same | apply Known.other | apply Known.alloc | apply Known.drewN | apply Known.drew)) <;> omega
    clear m
    intro m
    (try simp only [List.setIfInBounds_toArray, List.set_cons_zero, List.set_cons_succ] at m)
    apply Grow.have_known (W := W) (b := w.heap.size)
    · rw [hW.out]
      (repeat (with_reducible first | exact Known.new _ _ _ | (apply Known.new'; (first | rfl | (simp; done))) | apply Known.same | apply Known.other | apply Known.alloc | apply Known.drewN | apply Known.drew)) <;> omega
    intro r
    (try simp only [List.setIfInBounds_toArray, List.set_cons_zero, List.set_cons_succ] at r)
    clear hW k
    have k := k2
    clear k2
    have cm := m.cell
    have fm := m.frozen
    have lm := m.lt
    have cr := r.cell
    have fr := r.frozen
    have lr := r.lt
    go_quiet (fail)
    go_wp2
    go_ret
    rw [HR.out]
    refine ⟨rfl, ?_, ?_⟩
    · apply Known.of_eq
      · apply Known.at m
        (repeat (with_reducible first | exact m | apply Known.same | apply Known.other | apply Known.alloc | apply Known.drewN | apply Known.drew)) <;> omega
      · simp [rCells]
    · (repeat (with_reducible first | exact k | refine But.setCell ?_ _ _ | refine But.alloc ?_ _ | refine But.drewN ?_ _ | refine But.drew ?_ | refine But.fresh ?_ ?_ _ _)) <;> omega
  · by_cases g : st = 3
    · have g1 : (st == 3) = true := by simp [g]
      have b1 : decide (x < a.low) = false := decide_eq_false A1
      have b2 : decide (a.high < x) = false := decide_eq_false A2
      have b3 : decide (y < b'.low) = false := decide_eq_false A3
      have b4 : decide (b'.high < y) = false := decide_eq_false A4
      have HR := Lib.hid (show rdone ⟨a, b', mx, my, p, q, st, pa, qu, ta, nu, er⟩ .slew x y = (7, ⟨a, b', mx, my, p, q, st, pa, qu, ta, nu, er⟩) by unfold rdone; dsimp only; rw [if_neg (by omega), if_pos g])
      clear g
      clear A1 A2 A3 A4
      go_enter Tryd.func86, Tryd.ntmps86
      go_wp2
      refine Grow.seal_wp ?_
      intro W hW
      clear cm fm lm
      have k2 : But b w W := by
        rw [hW.out]
        (repeat (with_reducible first | exact k | refine But.setCell ?_ _ _ | refine But.alloc ?_ _ | refine But.drewN ?_ _ | refine But.drew ?_ | refine But.fresh ?_ ?_ _ _)) <;> omega
      apply Grow.have_known (W := W)
      · rw [hW.out]
        apply Known.at m
        (repeat (with_reducible first | exact m | apply Known.same | apply Known.other | apply Known.alloc | apply Known.drewN | apply Known.drew)) <;> omega
      clear m
      intro m
      (try simp only [List.setIfInBounds_toArray, List.set_cons_zero, List.set_cons_succ] at m)
      apply Grow.have_known (W := W) (b := w.heap.size)
      · rw [hW.out]
        (repeat (with_reducible first | exact Known.new _ _ _ | (apply Known.new'; (first | rfl | (simp; done))) | apply Known.same | apply Known.other | apply Known.alloc | apply Known.drewN | apply Known.drew)) <;> omega
      intro r
      (try simp only [List.setIfInBounds_toArray, List.set_cons_zero, List.set_cons_succ] at r)
      clear hW k
      have k := k2
      clear k2
      have cm := m.cell
      have fm := m.frozen
      have lm := m.lt
      have cr := r.cell
      have fr := r.frozen
      have lr := r.lt
      go_quiet (fail)
      go_wp2
      go_ret
      rw [HR.out]
      refine ⟨rfl, ?_, ?_⟩
      · apply Known.of_eq
        · apply Known.at m
          (repeat (with_reducible first | exact m | apply Known.same | apply Known.other | apply Known.alloc | apply Known.drewN | apply Known.drew)) <;> omega
        · simp [rCells]
      · (repeat (with_reducible first | exact k | refine But.setCell ?_ _ _ | refine But.alloc ?_ _ | refine But.drewN ?_ _ | refine But.drew ?_ | refine But.fresh ?_ ?_ _ _)) <;> omega
    · have g1 : (st == 3) = false := by simp [g]
      have b1 : decide (x < a.low) = false := decide_eq_false A1
      have b2 : decide (a.high < x) = false := decide_eq_false A2
      have b3 : decide (y < b'.low) = false := decide_eq_false A3
      have b4 : decide (b'.high < y) = false := decide_eq_false A4
      have HR := Lib.hid (show rdone ⟨a, b', mx, my, p, q, st, pa, qu, ta, nu, er⟩ .slew x y = (0, ⟨a, b', mx, my, x, y, 1, pa, qu, ta, nu, er⟩) by unfold rdone; dsimp only; rw [if_neg (by omega), if_neg g])
      clear g
      clear A1 A2 A3 A4
      go_enter Tryd.func86, Tryd.ntmps86
      go_wp2
      refine Grow.seal_wp ?_
      intro W hW
      clear cm fm lm
      have k2 : But b w W := by
        rw [hW.out]
        (repeat (with_reducible first | exact k | refine But.setCell ?_ _ _ | refine But.alloc ?_ _ | refine But.drewN ?_ _ | refine But.drew ?_ | refine But.fresh ?_ ?_ _ _)) <;> omega
      apply Grow.have_known (W := W)
      · rw [hW.out]
        apply Known.at m
        (repeat (with_reducible first | exact m | apply Known.same | apply Known.other | apply Known.alloc | apply Known.drewN | apply Known.drew)) <;> omega
      clear m
      intro m
      (try simp only [List.setIfInBounds_toArray, List.set_cons_zero, List.set_cons_succ] at m)
      apply Grow.have_known (W := W) (b := w.heap.size)
      · rw [hW.out]
        (repeat (with_reducible first | exact Known.new _ _ _ | (apply Known.new'; (first | rfl | (simp; done))) | apply Known.same | apply Known.other | apply Known.alloc | apply Known.drewN | apply Known.drew)) <;> omega
      intro r
      (try simp only [List.setIfInBounds_toArray, List.set_cons_zero, List.set_cons_succ] at r)
      clear hW k
      have k := k2
      clear k2
      have cm := m.cell
      have fm := m.frozen
      have lm := m.lt
      have cr := r.cell
      have fr := r.frozen
      have lr := r.lt
      go_quiet (fail)
      go_wp2
      go_ret
      rw [HR.out]
      refine ⟨rfl, ?_, ?_⟩
      · apply Known.of_eq
        · apply Known.at m
          (repeat (with_reducible first | exact m | apply Known.same | apply Known.other | apply Known.alloc | apply Known.drewN | apply Known.drew)) <;> omega
        · simp [rCells]
      · (repeat (with_reducible first | exact k | refine But.setCell ?_ _ _ | refine But.alloc ?_ _ | refine But.drewN ?_ _ | refine But.drew ?_ | refine But.fresh ?_ ?_ _ _)) <;> omega

set_option maxRecDepth 100000 in
set_option maxHeartbeats 24000000 in
theorem rdo_track (b : Nat) (m0 : Rf) (hm : RB m0) (n x y : Int) (c : ByteArray) (w : World) (m : Known w b (rCells m0)) (d0 : (c.toList == [115, 108, 101, 119]) = false) (d1 : (c.toList == [116, 114, 97, 99, 107]) = true) :
    Calls Tryd.prog 86 #[.pointer (some ⟨b, 0, none⟩), cmdV n c x y] w fun e w' => e = .returned (.int .i64 (rdone m0 .track x y).1) ∧ RLeft b (rdone m0 .track x y).2 w w' := by
  obtain ⟨a, b', mx, my, p, q, st, pa, qu, ta, nu, er⟩ := m0
  obtain ⟨v1, v2, v3, v4, v5, v6⟩ := hm.a
  obtain ⟨n1, n2, n3, n4, n5, n6⟩ := hm.b
  clear hm
  unfold rCells at m
  simp only at v1 v2 v3 v4 v5 v6 n1 n2 n3 n4 n5 n6 m
  have hbw := m.lt
  have k := But.refl b w
  have z1 : IntKind.i64.wrap (-a.fast) = -a.fast := IntWalk.i64_in _ (by omega)
  have z2 : IntKind.i64.wrap (-b'.fast) = -b'.fast := IntWalk.i64_in _ (by omega)
  have cm := m.cell
  have fm := m.frozen
  have lm := m.lt
  unfold cmdV
  have key : (a.fast < x) ∨ (¬ (a.fast < x) ∧ x < -a.fast) ∨ (¬ (a.fast < x) ∧ ¬ (x < -a.fast) ∧ b'.fast < y) ∨ (¬ (a.fast < x) ∧ ¬ (x < -a.fast) ∧ ¬ (b'.fast < y) ∧ y < -b'.fast) ∨ (¬ (a.fast < x) ∧ ¬ (x < -a.fast) ∧ ¬ (b'.fast < y) ∧ ¬ (y < -b'.fast)) := by omega
  rcases key with A1 | ⟨A1, A2⟩ | ⟨A1, A2, A3⟩ | ⟨A1, A2, A3, A4⟩ | ⟨A1, A2, A3, A4⟩
  · have b1 : decide (a.fast < x) = true := decide_eq_true A1
    have HR := Lib.hid (show rdone ⟨a, b', mx, my, p, q, st, pa, qu, ta, nu, er⟩ .track x y = (6, ⟨a, b', mx, my, p, q, st, pa, qu, ta, nu, er⟩) by unfold rdone; dsimp only; rw [if_pos (by omega)])
    clear A1
    go_enter Tryd.func86, Tryd.ntmps86
    go_wp2
    refine Grow.seal_wp ?_
    intro W hW
    clear cm fm lm
    have k2 : But b w W := by
      rw [hW.out]
      (repeat (with_reducible first | exact k | refine But.setCell ?_ _ _ | refine But.alloc ?_ _ | refine But.drewN ?_ _ | refine But.drew ?_ | refine But.fresh ?_ ?_ _ _)) <;> omega
    apply Grow.have_known (W := W)
    · rw [hW.out]
      apply Known.at m
      (repeat (with_reducible first | exact m | apply Known.same | apply Known.other | apply Known.alloc | apply Known.drewN | apply Known.drew)) <;> omega
    clear m
    intro m
    (try simp only [List.setIfInBounds_toArray, List.set_cons_zero, List.set_cons_succ] at m)
    apply Grow.have_known (W := W) (b := w.heap.size)
    · rw [hW.out]
      (repeat (with_reducible first | exact Known.new _ _ _ | (apply Known.new'; (first | rfl | (simp; done))) | apply Known.same | apply Known.other | apply Known.alloc | apply Known.drewN | apply Known.drew)) <;> omega
    intro r
    (try simp only [List.setIfInBounds_toArray, List.set_cons_zero, List.set_cons_succ] at r)
    clear hW k
    have k := k2
    clear k2
    have cm := m.cell
    have fm := m.frozen
    have lm := m.lt
    have cr := r.cell
    have fr := r.frozen
    have lr := r.lt
    go_quiet (fail)
    go_wp2
    go_ret
    rw [HR.out]
    refine ⟨rfl, ?_, ?_⟩
    · apply Known.of_eq
      · apply Known.at m
        (repeat (with_reducible first | exact m | apply Known.same | apply Known.other | apply Known.alloc | apply Known.drewN | apply Known.drew)) <;> omega
      · simp [rCells]
    · (repeat (with_reducible first | exact k | refine But.setCell ?_ _ _ | refine But.alloc ?_ _ | refine But.drewN ?_ _ | refine But.drew ?_ | refine But.fresh ?_ ?_ _ _)) <;> omega
  · have b1 : decide (a.fast < x) = false := decide_eq_false A1
    have b2 : decide (x < -a.fast) = true := decide_eq_true A2
    have HR := Lib.hid (show rdone ⟨a, b', mx, my, p, q, st, pa, qu, ta, nu, er⟩ .track x y = (6, ⟨a, b', mx, my, p, q, st, pa, qu, ta, nu, er⟩) by unfold rdone; dsimp only; rw [if_pos (by omega)])
    clear A1 A2
    go_enter Tryd.func86, Tryd.ntmps86
    go_wp2
    refine Grow.seal_wp ?_
    intro W hW
    clear cm fm lm
    have k2 : But b w W := by
      rw [hW.out]
      (repeat (with_reducible first | exact k | refine But.setCell ?_ _ _ | refine But.alloc ?_ _ | refine But.drewN ?_ _ | refine But.drew ?_ | refine But.fresh ?_ ?_ _ _)) <;> omega
    apply Grow.have_known (W := W)
    · rw [hW.out]
      apply Known.at m
      (repeat (with_reducible first | exact m | apply Known.same | apply Known.other | apply Known.alloc | apply Known.drewN | apply Known.drew)) <;> omega
    clear m
    intro m
    (try simp only [List.setIfInBounds_toArray, List.set_cons_zero, List.set_cons_succ] at m)
    apply Grow.have_known (W := W) (b := w.heap.size)
    · rw [hW.out]
      (repeat (with_reducible first | exact Known.new _ _ _ | (apply Known.new'; (first | rfl | (simp; done))) | apply Known.same | apply Known.other | apply Known.alloc | apply Known.drewN | apply Known.drew)) <;> omega
    intro r
    (try simp only [List.setIfInBounds_toArray, List.set_cons_zero, List.set_cons_succ] at r)
    clear hW k
    have k := k2
    clear k2
    have cm := m.cell
    have fm := m.frozen
    have lm := m.lt
    have cr := r.cell
    have fr := r.frozen
    have lr := r.lt
    go_quiet (fail)
    go_wp2
    go_ret
    rw [HR.out]
    refine ⟨rfl, ?_, ?_⟩
    · apply Known.of_eq
      · apply Known.at m
        (repeat (with_reducible first | exact m | apply Known.same | apply Known.other | apply Known.alloc | apply Known.drewN | apply Known.drew)) <;> omega
      · simp [rCells]
    · (repeat (with_reducible first | exact k | refine But.setCell ?_ _ _ | refine But.alloc ?_ _ | refine But.drewN ?_ _ | refine But.drew ?_ | refine But.fresh ?_ ?_ _ _)) <;> omega
  · have b1 : decide (a.fast < x) = false := decide_eq_false A1
    have b2 : decide (x < -a.fast) = false := decide_eq_false A2
    have b3 : decide (b'.fast < y) = true := decide_eq_true A3
    have HR := Lib.hid (show rdone ⟨a, b', mx, my, p, q, st, pa, qu, ta, nu, er⟩ .track x y = (6, ⟨a, b', mx, my, p, q, st, pa, qu, ta, nu, er⟩) by unfold rdone; dsimp only; rw [if_pos (by omega)])
    clear A1 A2 A3
    go_enter Tryd.func86, Tryd.ntmps86
    go_wp2
    refine Grow.seal_wp ?_
    intro W hW
    clear cm fm lm
    have k2 : But b w W := by
      rw [hW.out]
      (repeat (with_reducible first | exact k | refine But.setCell ?_ _ _ | refine But.alloc ?_ _ | refine But.drewN ?_ _ | refine But.drew ?_ | refine But.fresh ?_ ?_ _ _)) <;> omega
    apply Grow.have_known (W := W)
    · rw [hW.out]
      apply Known.at m
      (repeat (with_reducible first | exact m | apply Known.same | apply Known.other | apply Known.alloc | apply Known.drewN | apply Known.drew)) <;> omega
    clear m
    intro m
    (try simp only [List.setIfInBounds_toArray, List.set_cons_zero, List.set_cons_succ] at m)
    apply Grow.have_known (W := W) (b := w.heap.size)
    · rw [hW.out]
      (repeat (with_reducible first | exact Known.new _ _ _ | (apply Known.new'; (first | rfl | (simp; done))) | apply Known.same | apply Known.other | apply Known.alloc | apply Known.drewN | apply Known.drew)) <;> omega
    intro r
    (try simp only [List.setIfInBounds_toArray, List.set_cons_zero, List.set_cons_succ] at r)
    clear hW k
    have k := k2
    clear k2
    have cm := m.cell
    have fm := m.frozen
    have lm := m.lt
    have cr := r.cell
    have fr := r.frozen
    have lr := r.lt
    go_quiet (fail)
    go_wp2
    go_ret
    rw [HR.out]
    refine ⟨rfl, ?_, ?_⟩
    · apply Known.of_eq
      · apply Known.at m
        (repeat (with_reducible first | exact m | apply Known.same | apply Known.other | apply Known.alloc | apply Known.drewN | apply Known.drew)) <;> omega
      · simp [rCells]
    · (repeat (with_reducible first | exact k | refine But.setCell ?_ _ _ | refine But.alloc ?_ _ | refine But.drewN ?_ _ | refine But.drew ?_ | refine But.fresh ?_ ?_ _ _)) <;> omega
  · have b1 : decide (a.fast < x) = false := decide_eq_false A1
    have b2 : decide (x < -a.fast) = false := decide_eq_false A2
    have b3 : decide (b'.fast < y) = false := decide_eq_false A3
    have b4 : decide (y < -b'.fast) = true := decide_eq_true A4
    have HR := Lib.hid (show rdone ⟨a, b', mx, my, p, q, st, pa, qu, ta, nu, er⟩ .track x y = (6, ⟨a, b', mx, my, p, q, st, pa, qu, ta, nu, er⟩) by unfold rdone; dsimp only; rw [if_pos (by omega)])
    clear A1 A2 A3 A4
    go_enter Tryd.func86, Tryd.ntmps86
    go_wp2
    refine Grow.seal_wp ?_
    intro W hW
    clear cm fm lm
    have k2 : But b w W := by
      rw [hW.out]
      (repeat (with_reducible first | exact k | refine But.setCell ?_ _ _ | refine But.alloc ?_ _ | refine But.drewN ?_ _ | refine But.drew ?_ | refine But.fresh ?_ ?_ _ _)) <;> omega
    apply Grow.have_known (W := W)
    · rw [hW.out]
      apply Known.at m
      (repeat (with_reducible first | exact m | apply Known.same | apply Known.other | apply Known.alloc | apply Known.drewN | apply Known.drew)) <;> omega
    clear m
    intro m
    (try simp only [List.setIfInBounds_toArray, List.set_cons_zero, List.set_cons_succ] at m)
    apply Grow.have_known (W := W) (b := w.heap.size)
    · rw [hW.out]
      (repeat (with_reducible first | exact Known.new _ _ _ | (apply Known.new'; (first | rfl | (simp; done))) | apply Known.same | apply Known.other | apply Known.alloc | apply Known.drewN | apply Known.drew)) <;> omega
    intro r
    (try simp only [List.setIfInBounds_toArray, List.set_cons_zero, List.set_cons_succ] at r)
    clear hW k
    have k := k2
    clear k2
    have cm := m.cell
    have fm := m.frozen
    have lm := m.lt
    have cr := r.cell
    have fr := r.frozen
    have lr := r.lt
    go_quiet (fail)
    go_wp2
    go_ret
    rw [HR.out]
    refine ⟨rfl, ?_, ?_⟩
    · apply Known.of_eq
      · apply Known.at m
        (repeat (with_reducible first | exact m | apply Known.same | apply Known.other | apply Known.alloc | apply Known.drewN | apply Known.drew)) <;> omega
      · simp [rCells]
    · (repeat (with_reducible first | exact k | refine But.setCell ?_ _ _ | refine But.alloc ?_ _ | refine But.drewN ?_ _ | refine But.drew ?_ | refine But.fresh ?_ ?_ _ _)) <;> omega
  · have key2 : (st = 4) ∨ (¬ st = 4 ∧ st = 3) ∨ (¬ st = 4 ∧ ¬ st = 3) := by omega
    rcases key2 with g | ⟨g, h⟩ | ⟨g, h⟩
    · have g1 : (st == 4) = true := by simp [g]
      have b1 : decide (a.fast < x) = false := decide_eq_false A1
      have b2 : decide (x < -a.fast) = false := decide_eq_false A2
      have b3 : decide (b'.fast < y) = false := decide_eq_false A3
      have b4 : decide (y < -b'.fast) = false := decide_eq_false A4
      have HR := Lib.hid (show rdone ⟨a, b', mx, my, p, q, st, pa, qu, ta, nu, er⟩ .track x y = (7, ⟨a, b', mx, my, p, q, st, pa, qu, ta, nu, er⟩) by unfold rdone; dsimp only; rw [if_neg (by omega), if_pos (.inl g)])
      clear g
      clear A1 A2 A3 A4
      go_enter Tryd.func86, Tryd.ntmps86
      go_wp2
      refine Grow.seal_wp ?_
      intro W hW
      clear cm fm lm
      have k2 : But b w W := by
        rw [hW.out]
        (repeat (with_reducible first | exact k | refine But.setCell ?_ _ _ | refine But.alloc ?_ _ | refine But.drewN ?_ _ | refine But.drew ?_ | refine But.fresh ?_ ?_ _ _)) <;> omega
      apply Grow.have_known (W := W)
      · rw [hW.out]
        apply Known.at m
        (repeat (with_reducible first | exact m | apply Known.same | apply Known.other | apply Known.alloc | apply Known.drewN | apply Known.drew)) <;> omega
      clear m
      intro m
      (try simp only [List.setIfInBounds_toArray, List.set_cons_zero, List.set_cons_succ] at m)
      apply Grow.have_known (W := W) (b := w.heap.size)
      · rw [hW.out]
        (repeat (with_reducible first | exact Known.new _ _ _ | (apply Known.new'; (first | rfl | (simp; done))) | apply Known.same | apply Known.other | apply Known.alloc | apply Known.drewN | apply Known.drew)) <;> omega
      intro r
      (try simp only [List.setIfInBounds_toArray, List.set_cons_zero, List.set_cons_succ] at r)
      clear hW k
      have k := k2
      clear k2
      have cm := m.cell
      have fm := m.frozen
      have lm := m.lt
      have cr := r.cell
      have fr := r.frozen
      have lr := r.lt
      go_quiet (fail)
      go_wp2
      go_ret
      rw [HR.out]
      refine ⟨rfl, ?_, ?_⟩
      · apply Known.of_eq
        · apply Known.at m
          (repeat (with_reducible first | exact m | apply Known.same | apply Known.other | apply Known.alloc | apply Known.drewN | apply Known.drew)) <;> omega
        · simp [rCells]
      · (repeat (with_reducible first | exact k | refine But.setCell ?_ _ _ | refine But.alloc ?_ _ | refine But.drewN ?_ _ | refine But.drew ?_ | refine But.fresh ?_ ?_ _ _)) <;> omega
    · have g1 : (st == 4) = false := by simp [g]
      have g2 : (st == 3) = true := by simp [h]
      have b1 : decide (a.fast < x) = false := decide_eq_false A1
      have b2 : decide (x < -a.fast) = false := decide_eq_false A2
      have b3 : decide (b'.fast < y) = false := decide_eq_false A3
      have b4 : decide (y < -b'.fast) = false := decide_eq_false A4
      have HR := Lib.hid (show rdone ⟨a, b', mx, my, p, q, st, pa, qu, ta, nu, er⟩ .track x y = (7, ⟨a, b', mx, my, p, q, st, pa, qu, ta, nu, er⟩) by unfold rdone; dsimp only; rw [if_neg (by omega), if_pos (.inr h)])
      clear g h
      clear A1 A2 A3 A4
      go_enter Tryd.func86, Tryd.ntmps86
      go_wp2
      refine Grow.seal_wp ?_
      intro W hW
      clear cm fm lm
      have k2 : But b w W := by
        rw [hW.out]
        (repeat (with_reducible first | exact k | refine But.setCell ?_ _ _ | refine But.alloc ?_ _ | refine But.drewN ?_ _ | refine But.drew ?_ | refine But.fresh ?_ ?_ _ _)) <;> omega
      apply Grow.have_known (W := W)
      · rw [hW.out]
        apply Known.at m
        (repeat (with_reducible first | exact m | apply Known.same | apply Known.other | apply Known.alloc | apply Known.drewN | apply Known.drew)) <;> omega
      clear m
      intro m
      (try simp only [List.setIfInBounds_toArray, List.set_cons_zero, List.set_cons_succ] at m)
      apply Grow.have_known (W := W) (b := w.heap.size)
      · rw [hW.out]
        (repeat (with_reducible first | exact Known.new _ _ _ | (apply Known.new'; (first | rfl | (simp; done))) | apply Known.same | apply Known.other | apply Known.alloc | apply Known.drewN | apply Known.drew)) <;> omega
      intro r
      (try simp only [List.setIfInBounds_toArray, List.set_cons_zero, List.set_cons_succ] at r)
      clear hW k
      have k := k2
      clear k2
      have cm := m.cell
      have fm := m.frozen
      have lm := m.lt
      have cr := r.cell
      have fr := r.frozen
      have lr := r.lt
      go_quiet (fail)
      go_wp2
      go_ret
      rw [HR.out]
      refine ⟨rfl, ?_, ?_⟩
      · apply Known.of_eq
        · apply Known.at m
          (repeat (with_reducible first | exact m | apply Known.same | apply Known.other | apply Known.alloc | apply Known.drewN | apply Known.drew)) <;> omega
        · simp [rCells]
      · (repeat (with_reducible first | exact k | refine But.setCell ?_ _ _ | refine But.alloc ?_ _ | refine But.drewN ?_ _ | refine But.drew ?_ | refine But.fresh ?_ ?_ _ _)) <;> omega
    · have g1 : (st == 4) = false := by simp [g]
      have g2 : (st == 3) = false := by simp [h]
      have b1 : decide (a.fast < x) = false := decide_eq_false A1
      have b2 : decide (x < -a.fast) = false := decide_eq_false A2
      have b3 : decide (b'.fast < y) = false := decide_eq_false A3
      have b4 : decide (y < -b'.fast) = false := decide_eq_false A4
      have HR := Lib.hid (show rdone ⟨a, b', mx, my, p, q, st, pa, qu, ta, nu, er⟩ .track x y = (0, ⟨a, b', mx, my, x, y, 2, pa, qu, ta, nu, er⟩) by unfold rdone; dsimp only; rw [if_neg (by omega), if_neg (by omega)])
      clear g h
      clear A1 A2 A3 A4
      go_enter Tryd.func86, Tryd.ntmps86
      go_wp2
      refine Grow.seal_wp ?_
      intro W hW
      clear cm fm lm
      have k2 : But b w W := by
        rw [hW.out]
        (repeat (with_reducible first | exact k | refine But.setCell ?_ _ _ | refine But.alloc ?_ _ | refine But.drewN ?_ _ | refine But.drew ?_ | refine But.fresh ?_ ?_ _ _)) <;> omega
      apply Grow.have_known (W := W)
      · rw [hW.out]
        apply Known.at m
        (repeat (with_reducible first | exact m | apply Known.same | apply Known.other | apply Known.alloc | apply Known.drewN | apply Known.drew)) <;> omega
      clear m
      intro m
      (try simp only [List.setIfInBounds_toArray, List.set_cons_zero, List.set_cons_succ] at m)
      apply Grow.have_known (W := W) (b := w.heap.size)
      · rw [hW.out]
        (repeat (with_reducible first | exact Known.new _ _ _ | (apply Known.new'; (first | rfl | (simp; done))) | apply Known.same | apply Known.other | apply Known.alloc | apply Known.drewN | apply Known.drew)) <;> omega
      intro r
      (try simp only [List.setIfInBounds_toArray, List.set_cons_zero, List.set_cons_succ] at r)
      clear hW k
      have k := k2
      clear k2
      have cm := m.cell
      have fm := m.frozen
      have lm := m.lt
      have cr := r.cell
      have fr := r.frozen
      have lr := r.lt
      go_quiet (fail)
      go_wp2
      go_ret
      rw [HR.out]
      refine ⟨rfl, ?_, ?_⟩
      · apply Known.of_eq
        · apply Known.at m
          (repeat (with_reducible first | exact m | apply Known.same | apply Known.other | apply Known.alloc | apply Known.drewN | apply Known.drew)) <;> omega
        · simp [rCells]
      · (repeat (with_reducible first | exact k | refine But.setCell ?_ _ _ | refine But.alloc ?_ _ | refine But.drewN ?_ _ | refine But.drew ?_ | refine But.fresh ?_ ?_ _ _)) <;> omega

set_option maxRecDepth 100000 in
set_option maxHeartbeats 24000000 in
theorem rdo_stop (b : Nat) (m0 : Rf) (hm : RB m0) (n x y : Int) (c : ByteArray) (w : World) (m : Known w b (rCells m0)) (d0 : (c.toList == [115, 108, 101, 119]) = false) (d1 : (c.toList == [116, 114, 97, 99, 107]) = false) (d2 : (c.toList == [115, 116, 111, 112]) = true) :
    Calls Tryd.prog 86 #[.pointer (some ⟨b, 0, none⟩), cmdV n c x y] w fun e w' => e = .returned (.int .i64 (rdone m0 .stop x y).1) ∧ RLeft b (rdone m0 .stop x y).2 w w' := by
  obtain ⟨a, b', mx, my, p, q, st, pa, qu, ta, nu, er⟩ := m0
  obtain ⟨v1, v2, v3, v4, v5, v6⟩ := hm.a
  obtain ⟨n1, n2, n3, n4, n5, n6⟩ := hm.b
  clear hm
  unfold rCells at m
  simp only at v1 v2 v3 v4 v5 v6 n1 n2 n3 n4 n5 n6 m
  have hbw := m.lt
  have k := But.refl b w
  have z1 : IntKind.i64.wrap (-a.fast) = -a.fast := IntWalk.i64_in _ (by omega)
  have z2 : IntKind.i64.wrap (-b'.fast) = -b'.fast := IntWalk.i64_in _ (by omega)
  have cm := m.cell
  have fm := m.frozen
  have lm := m.lt
  unfold cmdV
  by_cases g : st = 4
  · have g1 : (st == 4) = true := by simp [g]
    have HR := Lib.hid (show rdone ⟨a, b', mx, my, p, q, st, pa, qu, ta, nu, er⟩ .stop x y = (7, ⟨a, b', mx, my, p, q, st, pa, qu, ta, nu, er⟩) by unfold rdone; dsimp only; rw [if_pos g])
    clear g
    go_enter Tryd.func86, Tryd.ntmps86
    go_wp2
    go_ret
    rw [HR.out]
    refine ⟨rfl, ?_, ?_⟩
    · apply Known.of_eq
      · apply Known.at m
        (repeat (with_reducible first | exact m | apply Known.same | apply Known.other | apply Known.alloc | apply Known.drewN | apply Known.drew)) <;> omega
      · simp [rCells]
    · (repeat (with_reducible first | exact k | refine But.setCell ?_ _ _ | refine But.alloc ?_ _ | refine But.drewN ?_ _ | refine But.drew ?_ | refine But.fresh ?_ ?_ _ _)) <;> omega
  · have g1 : (st == 4) = false := by simp [g]
    have HR := Lib.hid (show rdone ⟨a, b', mx, my, p, q, st, pa, qu, ta, nu, er⟩ .stop x y = (0, ⟨a, b', mx, my, p, q, 5, pa, qu, ta, nu, er⟩) by unfold rdone; dsimp only; rw [if_neg g])
    clear g
    go_enter Tryd.func86, Tryd.ntmps86
    go_wp2
    go_ret
    rw [HR.out]
    refine ⟨rfl, ?_, ?_⟩
    · apply Known.of_eq
      · apply Known.at m
        (repeat (with_reducible first | exact m | apply Known.same | apply Known.other | apply Known.alloc | apply Known.drewN | apply Known.drew)) <;> omega
      · simp [rCells]
    · (repeat (with_reducible first | exact k | refine But.setCell ?_ _ _ | refine But.alloc ?_ _ | refine But.drewN ?_ _ | refine But.drew ?_ | refine But.fresh ?_ ?_ _ _)) <;> omega

set_option maxRecDepth 100000 in
set_option maxHeartbeats 24000000 in
theorem rdo_park (b : Nat) (m0 : Rf) (hm : RB m0) (n x y : Int) (c : ByteArray) (w : World) (m : Known w b (rCells m0)) (d0 : (c.toList == [115, 108, 101, 119]) = false) (d1 : (c.toList == [116, 114, 97, 99, 107]) = false) (d2 : (c.toList == [115, 116, 111, 112]) = false) (d3 : (c.toList == [112, 97, 114, 107]) = true) :
    Calls Tryd.prog 86 #[.pointer (some ⟨b, 0, none⟩), cmdV n c x y] w fun e w' => e = .returned (.int .i64 (rdone m0 .park x y).1) ∧ RLeft b (rdone m0 .park x y).2 w w' := by
  obtain ⟨a, b', mx, my, p, q, st, pa, qu, ta, nu, er⟩ := m0
  obtain ⟨v1, v2, v3, v4, v5, v6⟩ := hm.a
  obtain ⟨n1, n2, n3, n4, n5, n6⟩ := hm.b
  clear hm
  unfold rCells at m
  simp only at v1 v2 v3 v4 v5 v6 n1 n2 n3 n4 n5 n6 m
  have hbw := m.lt
  have k := But.refl b w
  have z1 : IntKind.i64.wrap (-a.fast) = -a.fast := IntWalk.i64_in _ (by omega)
  have z2 : IntKind.i64.wrap (-b'.fast) = -b'.fast := IntWalk.i64_in _ (by omega)
  have cm := m.cell
  have fm := m.frozen
  have lm := m.lt
  unfold cmdV
  by_cases g : st = 4
  · have g1 : (st == 4) = true := by simp [g]
    have HR := Lib.hid (show rdone ⟨a, b', mx, my, p, q, st, pa, qu, ta, nu, er⟩ .park x y = (0, ⟨a, b', mx, my, p, q, st, pa, qu, ta, nu, er⟩) by unfold rdone; dsimp only; rw [if_pos g])
    clear g
    go_enter Tryd.func86, Tryd.ntmps86
    go_wp2
    go_ret
    rw [HR.out]
    refine ⟨rfl, ?_, ?_⟩
    · apply Known.of_eq
      · apply Known.at m
        (repeat (with_reducible first | exact m | apply Known.same | apply Known.other | apply Known.alloc | apply Known.drewN | apply Known.drew)) <;> omega
      · simp [rCells]
    · (repeat (with_reducible first | exact k | refine But.setCell ?_ _ _ | refine But.alloc ?_ _ | refine But.drewN ?_ _ | refine But.drew ?_ | refine But.fresh ?_ ?_ _ _)) <;> omega
  · have g1 : (st == 4) = false := by simp [g]
    have HR := Lib.hid (show rdone ⟨a, b', mx, my, p, q, st, pa, qu, ta, nu, er⟩ .park x y = (0, ⟨a, b', mx, my, p, q, 3, pa, qu, ta, nu, er⟩) by unfold rdone; dsimp only; rw [if_neg g])
    clear g
    go_enter Tryd.func86, Tryd.ntmps86
    go_wp2
    go_ret
    rw [HR.out]
    refine ⟨rfl, ?_, ?_⟩
    · apply Known.of_eq
      · apply Known.at m
        (repeat (with_reducible first | exact m | apply Known.same | apply Known.other | apply Known.alloc | apply Known.drewN | apply Known.drew)) <;> omega
      · simp [rCells]
    · (repeat (with_reducible first | exact k | refine But.setCell ?_ _ _ | refine But.alloc ?_ _ | refine But.drewN ?_ _ | refine But.drew ?_ | refine But.fresh ?_ ?_ _ _)) <;> omega

set_option maxRecDepth 100000 in
set_option maxHeartbeats 24000000 in
theorem rdo_hello (b : Nat) (m0 : Rf) (hm : RB m0) (n x y : Int) (c : ByteArray) (w : World) (m : Known w b (rCells m0)) (d0 : (c.toList == [115, 108, 101, 119]) = false) (d1 : (c.toList == [116, 114, 97, 99, 107]) = false) (d2 : (c.toList == [115, 116, 111, 112]) = false) (d3 : (c.toList == [112, 97, 114, 107]) = false) (d4 : (c.toList == [104, 101, 108, 108, 111]) = true) :
    Calls Tryd.prog 86 #[.pointer (some ⟨b, 0, none⟩), cmdV n c x y] w fun e w' => e = .returned (.int .i64 (rdone m0 .hello x y).1) ∧ RLeft b (rdone m0 .hello x y).2 w w' := by
  obtain ⟨a, b', mx, my, p, q, st, pa, qu, ta, nu, er⟩ := m0
  obtain ⟨v1, v2, v3, v4, v5, v6⟩ := hm.a
  obtain ⟨n1, n2, n3, n4, n5, n6⟩ := hm.b
  clear hm
  unfold rCells at m
  simp only at v1 v2 v3 v4 v5 v6 n1 n2 n3 n4 n5 n6 m
  have hbw := m.lt
  have k := But.refl b w
  have z1 : IntKind.i64.wrap (-a.fast) = -a.fast := IntWalk.i64_in _ (by omega)
  have z2 : IntKind.i64.wrap (-b'.fast) = -b'.fast := IntWalk.i64_in _ (by omega)
  have cm := m.cell
  have fm := m.frozen
  have lm := m.lt
  unfold cmdV
  have HR := Lib.hid (show rdone ⟨a, b', mx, my, p, q, st, pa, qu, ta, nu, er⟩ .hello x y = (0, ⟨a, b', mx, my, p, q, st, pa, qu, ta, nu, er⟩) from rfl)
  go_enter Tryd.func86, Tryd.ntmps86
  go_wp2
  go_ret
  rw [HR.out]
  refine ⟨rfl, ?_, ?_⟩
  · apply Known.of_eq
    · apply Known.at m
      (repeat (with_reducible first | exact m | apply Known.same | apply Known.other | apply Known.alloc | apply Known.drewN | apply Known.drew)) <;> omega
    · simp [rCells]
  · (repeat (with_reducible first | exact k | refine But.setCell ?_ _ _ | refine But.alloc ?_ _ | refine But.drewN ?_ _ | refine But.drew ?_ | refine But.fresh ?_ ?_ _ _)) <;> omega

set_option maxRecDepth 100000 in
set_option maxHeartbeats 24000000 in
theorem rdo_other (b : Nat) (m0 : Rf) (hm : RB m0) (n x y : Int) (c : ByteArray) (w : World) (m : Known w b (rCells m0)) (d0 : (c.toList == [115, 108, 101, 119]) = false) (d1 : (c.toList == [116, 114, 97, 99, 107]) = false) (d2 : (c.toList == [115, 116, 111, 112]) = false) (d3 : (c.toList == [112, 97, 114, 107]) = false) (d4 : (c.toList == [104, 101, 108, 108, 111]) = false) :
    Calls Tryd.prog 86 #[.pointer (some ⟨b, 0, none⟩), cmdV n c x y] w fun e w' => e = .returned (.int .i64 (rdone m0 .other x y).1) ∧ RLeft b (rdone m0 .other x y).2 w w' := by
  obtain ⟨a, b', mx, my, p, q, st, pa, qu, ta, nu, er⟩ := m0
  obtain ⟨v1, v2, v3, v4, v5, v6⟩ := hm.a
  obtain ⟨n1, n2, n3, n4, n5, n6⟩ := hm.b
  clear hm
  unfold rCells at m
  simp only at v1 v2 v3 v4 v5 v6 n1 n2 n3 n4 n5 n6 m
  have hbw := m.lt
  have k := But.refl b w
  have z1 : IntKind.i64.wrap (-a.fast) = -a.fast := IntWalk.i64_in _ (by omega)
  have z2 : IntKind.i64.wrap (-b'.fast) = -b'.fast := IntWalk.i64_in _ (by omega)
  have cm := m.cell
  have fm := m.frozen
  have lm := m.lt
  unfold cmdV
  have HR := Lib.hid (show rdone ⟨a, b', mx, my, p, q, st, pa, qu, ta, nu, er⟩ .other x y = (10, ⟨a, b', mx, my, p, q, st, pa, qu, ta, nu, er⟩) from rfl)
  go_enter Tryd.func86, Tryd.ntmps86
  go_wp2
  go_ret
  rw [HR.out]
  refine ⟨rfl, ?_, ?_⟩
  · apply Known.of_eq
    · apply Known.at m
      (repeat (with_reducible first | exact m | apply Known.same | apply Known.other | apply Known.alloc | apply Known.drewN | apply Known.drew)) <;> omega
    · simp [rCells]
  · (repeat (with_reducible first | exact k | refine But.setCell ?_ _ _ | refine But.alloc ?_ _ | refine But.drewN ?_ _ | refine But.drew ?_ | refine But.fresh ?_ ?_ _ _)) <;> omega

theorem rdo_any (b : Nat) (m0 : Rf) (hm : RB m0) (n x y : Int) (c : ByteArray) (w : World) (m : Known w b (rCells m0)) :
    Calls Tryd.prog 86 #[.pointer (some ⟨b, 0, none⟩), cmdV n c x y] w fun e w' => e = .returned (.int .i64 (rdone m0 (kindOf c) x y).1) ∧ RLeft b (rdone m0 (kindOf c) x y).2 w w' := by
  cases d0 : c.toList == [115, 108, 101, 119] with
  | true => rw [show kindOf c = .slew by simp only [kindOf, d0, if_true]]; exact rdo_slew b m0 hm n x y c w m d0
  | false =>
    cases d1 : c.toList == [116, 114, 97, 99, 107] with
    | true => rw [show kindOf c = .track by simp [kindOf, d0, d1]]; exact rdo_track b m0 hm n x y c w m d0 d1
    | false =>
      cases d2 : c.toList == [115, 116, 111, 112] with
      | true => rw [show kindOf c = .stop by simp [kindOf, d0, d1, d2]]; exact rdo_stop b m0 hm n x y c w m d0 d1 d2
      | false =>
        cases d3 : c.toList == [112, 97, 114, 107] with
        | true => rw [show kindOf c = .park by simp [kindOf, d0, d1, d2, d3]]; exact rdo_park b m0 hm n x y c w m d0 d1 d2 d3
        | false =>
          cases d4 : c.toList == [104, 101, 108, 108, 111] with
          | true => rw [show kindOf c = .hello by simp [kindOf, d0, d1, d2, d3, d4]]; exact rdo_hello b m0 hm n x y c w m d0 d1 d2 d3 d4
          | false => rw [show kindOf c = .other by simp [kindOf, d0, d1, d2, d3, d4]]; exact rdo_other b m0 hm n x y c w m d0 d1 d2 d3 d4

end Go.Proofs.YtlfpfeidaohjmaaDoor
