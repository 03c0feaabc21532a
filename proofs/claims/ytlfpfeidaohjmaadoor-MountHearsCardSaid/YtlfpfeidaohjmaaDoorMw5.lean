/- The mount does what a command says: track. -/
import Derived.Test.YtlfpfeidaohjmaaDoorMw3
set_option linter.unusedSimpArgs false
set_option linter.unusedVariables false
namespace Go.Proofs.YtlfpfeidaohjmaaDoor
open Go.RowKit Go.Grow Go.Mo

theorem hasty_cases (ax : Ax) (v : Int) : (ax.l.fast < v ∧ Mo.hasty ax v = true) ∨ (¬ (ax.l.fast < v) ∧ v < -ax.l.fast ∧ Mo.hasty ax v = true) ∨ (¬ (ax.l.fast < v) ∧ ¬ (v < -ax.l.fast) ∧ Mo.hasty ax v = false) := by
  unfold Mo.hasty
  by_cases h : ax.l.fast < v
  · exact .inl ⟨h, by simp [h]⟩
  · by_cases g : v < -ax.l.fast
    · exact .inr (.inl ⟨h, g, by simp [g]⟩)
    · exact .inr (.inr ⟨h, g, by simp [h, g]⟩)

set_option maxRecDepth 100000 in
set_option maxHeartbeats 4000000 in
theorem done_track (a : Nat → Addr) (b : Nat) (s : St) (hs : s.ok) (n x y : Int) (c : ByteArray) (w : World) (m : Known w b (mCells a s)) (hsen : Sen a [6, 7, 10] w) (d0 : (c.toList == [115, 108, 101, 119]) = false) (d1 : (c.toList == [116, 114, 97, 99, 107]) = true) :
    Calls Tryd.prog 75 #[.pointer (some ⟨b, 0, none⟩), cmdV n c x y] w fun e w' => e = .returned (errV a (done s .track x y).1) ∧ Left a b (done s .track x y).2 w w' := by
  have m0 := m
  obtain ⟨p, q, st, pa, qu, ta, nu, er⟩ := s
  have ok_p := hs.p
  have ok_q := hs.q
  simp only at ok_p ok_q
  clear hs
  unfold mCells at m
  have hbw := m.lt
  have k := But.refl b w
  have c6 := (hsen 6 (by decide)).1
  have c7 := (hsen 7 (by decide)).1
  have c10 := (hsen 10 (by decide)).1
  have l6 := (hsen.lt (k := 6) (by decide)).1
  have l7 := (hsen.lt (k := 7) (by decide)).1
  have l10 := (hsen.lt (k := 10) (by decide)).1
  simp only [gOf] at c6 c7 c10 l6 l7 l10
  have e6 := errV_pos a (k := 6) (by decide)
  have e7 := errV_pos a (k := 7) (by decide)
  have e10 := errV_pos a (k := 10) (by decide)
  have HE6 := Lib.hid e6
  have HE7 := Lib.hid e7
  have HE10 := Lib.hid e10
  have HS := Lib.hid hsen
  clear e6 e7 e10 hsen
  have cm := m.cell
  have fm := m.frozen
  have lm := m.lt
  unfold cmdV
  obtain ⟨⟨v1, v2, v3, v4, v5, v6⟩, h1, h2, h3, h4, h5, h6⟩ := ok_p
  obtain ⟨⟨n1, n2, n3, n4, n5, n6⟩, j1, j2, j3, j4, j5, j6⟩ := ok_q
  have z1 : IntKind.i64.wrap (-p.l.fast) = -p.l.fast := IntWalk.i64_in _ (by omega)
  have z2 : IntKind.i64.wrap (-q.l.fast) = -q.l.fast := IntWalk.i64_in _ (by omega)
  rcases hasty_cases p x with ⟨A1, hA⟩ | ⟨A1, A2, hA⟩ | ⟨A1, A2, hA⟩
  · have b1 : decide (p.l.fast < x) = true := decide_eq_true A1
    have HA := Lib.hid hA
    clear hA
    go_enter Tryd.func75, Tryd.ntmps75
    go_wp2
    refine Grow.seal_wp ?_
    intro W hW
    clear cm fm lm
    have k2 : But b w W := by
      rw [hW.out]
      (repeat (with_reducible first | exact k | refine But.setCell ?_ _ _ | refine But.alloc ?_ _ | refine But.drewN ?_ _ | refine But.drew ?_ | refine But.fresh ?_ ?_ _ _)) <;> omega
    apply Grow.have_known (W := W)
    · rw [hW.out]
      apply Known.at m
      (repeat (with_reducible first | exact m | apply Known.same | apply Known.other | apply Known.alloc | apply Known.drewN | apply Known.drew)) <;> omega
    clear m
    intro m
    (try simp only [List.setIfInBounds_toArray, List.set_cons_zero, List.set_cons_succ] at m)
    apply Grow.have_known (W := W) (b := w.heap.size + 1)
    · rw [hW.out]
      (repeat (with_reducible first | exact Known.new _ _ _ | (apply Known.new'; (first | rfl | (simp; done))) | apply Known.same | apply Known.other | apply Known.alloc | apply Known.drewN | apply Known.drew)) <;> omega
    intro r
    (try simp only [List.setIfInBounds_toArray, List.set_cons_zero, List.set_cons_succ] at r)
    have hS : Sen a [6, 7, 10] W := HS.out.below (by rw [hW.out]; exact grow_alloc (grow_alloc (grow_refl _) _) _)
    clear c6 c7 c10 l6 l7 l10
    have c6 := (hS 6 (by decide)).1
    have c7 := (hS 7 (by decide)).1
    simp only [gOf] at c6 c7
    clear HS hW k
    have k := k2
    clear k2
    have cm := m.cell
    have fm := m.frozen
    have lm := m.lt
    have cr := r.cell
    have fr := r.frozen
    have lr := r.lt
    refine wp_loop_rounds 3 ?_
    (try rw [rounds_succ])
    go_wp2
    go_quiet (fail)
    go_wp2
    go_ret
    refine ⟨?_, ?_, ?_⟩
    · simp [errV_zero, done, HA.out, HE6.out]
    · apply Known.of_eq
      · apply Known.at m
        (repeat (with_reducible first | exact m | apply Known.same | apply Known.alloc | apply Known.drewN | apply Known.drew))
      · simp [mCells, done, HA.out]
    · (repeat (with_reducible first | exact k | refine But.setCell ?_ _ _ | refine But.alloc ?_ _ | refine But.drewN ?_ _ | refine But.drew ?_))
  · have b1 : decide (p.l.fast < x) = false := decide_eq_false A1
    have b2 : decide (x < -p.l.fast) = true := decide_eq_true A2
    have HA := Lib.hid hA
    clear hA
    go_enter Tryd.func75, Tryd.ntmps75
    go_wp2
    refine Grow.seal_wp ?_
    intro W hW
    clear cm fm lm
    have k2 : But b w W := by
      rw [hW.out]
      (repeat (with_reducible first | exact k | refine But.setCell ?_ _ _ | refine But.alloc ?_ _ | refine But.drewN ?_ _ | refine But.drew ?_ | refine But.fresh ?_ ?_ _ _)) <;> omega
    apply Grow.have_known (W := W)
    · rw [hW.out]
      apply Known.at m
      (repeat (with_reducible first | exact m | apply Known.same | apply Known.other | apply Known.alloc | apply Known.drewN | apply Known.drew)) <;> omega
    clear m
    intro m
    (try simp only [List.setIfInBounds_toArray, List.set_cons_zero, List.set_cons_succ] at m)
    apply Grow.have_known (W := W) (b := w.heap.size + 1)
    · rw [hW.out]
      (repeat (with_reducible first | exact Known.new _ _ _ | (apply Known.new'; (first | rfl | (simp; done))) | apply Known.same | apply Known.other | apply Known.alloc | apply Known.drewN | apply Known.drew)) <;> omega
    intro r
    (try simp only [List.setIfInBounds_toArray, List.set_cons_zero, List.set_cons_succ] at r)
    have hS : Sen a [6, 7, 10] W := HS.out.below (by rw [hW.out]; exact grow_alloc (grow_alloc (grow_refl _) _) _)
    clear c6 c7 c10 l6 l7 l10
    have c6 := (hS 6 (by decide)).1
    have c7 := (hS 7 (by decide)).1
    simp only [gOf] at c6 c7
    clear HS hW k
    have k := k2
    clear k2
    have cm := m.cell
    have fm := m.frozen
    have lm := m.lt
    have cr := r.cell
    have fr := r.frozen
    have lr := r.lt
    refine wp_loop_rounds 3 ?_
    (try rw [rounds_succ])
    go_wp2
    go_quiet (fail)
    go_wp2
    go_ret
    refine ⟨?_, ?_, ?_⟩
    · simp [errV_zero, done, HA.out, HE6.out]
    · apply Known.of_eq
      · apply Known.at m
        (repeat (with_reducible first | exact m | apply Known.same | apply Known.alloc | apply Known.drewN | apply Known.drew))
      · simp [mCells, done, HA.out]
    · (repeat (with_reducible first | exact k | refine But.setCell ?_ _ _ | refine But.alloc ?_ _ | refine But.drewN ?_ _ | refine But.drew ?_))
  · have b1 : decide (p.l.fast < x) = false := decide_eq_false A1
    have b2 : decide (x < -p.l.fast) = false := decide_eq_false A2
    have HA := Lib.hid hA
    clear hA
    rcases hasty_cases q y with ⟨B1, hB⟩ | ⟨B1, B2, hB⟩ | ⟨B1, B2, hB⟩
    · have b3 : decide (q.l.fast < y) = true := decide_eq_true B1
      have HB := Lib.hid hB
      clear hB
      go_enter Tryd.func75, Tryd.ntmps75
      go_wp2
      refine Grow.seal_wp ?_
      intro W hW
      clear cm fm lm
      have k2 : But b w W := by
        rw [hW.out]
        (repeat (with_reducible first | exact k | refine But.setCell ?_ _ _ | refine But.alloc ?_ _ | refine But.drewN ?_ _ | refine But.drew ?_ | refine But.fresh ?_ ?_ _ _)) <;> omega
      apply Grow.have_known (W := W)
      · rw [hW.out]
        apply Known.at m
        (repeat (with_reducible first | exact m | apply Known.same | apply Known.other | apply Known.alloc | apply Known.drewN | apply Known.drew)) <;> omega
      clear m
      intro m
      (try simp only [List.setIfInBounds_toArray, List.set_cons_zero, List.set_cons_succ] at m)
      apply Grow.have_known (W := W) (b := w.heap.size + 1)
      · rw [hW.out]
        (repeat (with_reducible first | exact Known.new _ _ _ | (apply Known.new'; (first | rfl | (simp; done))) | apply Known.same | apply Known.other | apply Known.alloc | apply Known.drewN | apply Known.drew)) <;> omega
      intro r
      (try simp only [List.setIfInBounds_toArray, List.set_cons_zero, List.set_cons_succ] at r)
      have hS : Sen a [6, 7, 10] W := HS.out.below (by rw [hW.out]; exact grow_alloc (grow_alloc (grow_refl _) _) _)
      clear c6 c7 c10 l6 l7 l10
      have c6 := (hS 6 (by decide)).1
      have c7 := (hS 7 (by decide)).1
      simp only [gOf] at c6 c7
      clear HS hW k
      have k := k2
      clear k2
      have cm := m.cell
      have fm := m.frozen
      have lm := m.lt
      have cr := r.cell
      have fr := r.frozen
      have lr := r.lt
      refine wp_loop_rounds 3 ?_
      (try rw [rounds_succ])
      go_wp2
      go_quiet (fail)
      go_wp2
      (try rw [rounds_succ])
      go_wp2
      go_quiet (fail)
      go_wp2
      go_ret
      refine ⟨?_, ?_, ?_⟩
      · simp [errV_zero, done, HA.out, HB.out, HE6.out]
      · apply Known.of_eq
        · apply Known.at m
          (repeat (with_reducible first | exact m | apply Known.same | apply Known.alloc | apply Known.drewN | apply Known.drew))
        · simp [mCells, done, HA.out, HB.out]
      · (repeat (with_reducible first | exact k | refine But.setCell ?_ _ _ | refine But.alloc ?_ _ | refine But.drewN ?_ _ | refine But.drew ?_))
    · have b3 : decide (q.l.fast < y) = false := decide_eq_false B1
      have b4 : decide (y < -q.l.fast) = true := decide_eq_true B2
      have HB := Lib.hid hB
      clear hB
      go_enter Tryd.func75, Tryd.ntmps75
      go_wp2
      refine Grow.seal_wp ?_
      intro W hW
      clear cm fm lm
      have k2 : But b w W := by
        rw [hW.out]
        (repeat (with_reducible first | exact k | refine But.setCell ?_ _ _ | refine But.alloc ?_ _ | refine But.drewN ?_ _ | refine But.drew ?_ | refine But.fresh ?_ ?_ _ _)) <;> omega
      apply Grow.have_known (W := W)
      · rw [hW.out]
        apply Known.at m
        (repeat (with_reducible first | exact m | apply Known.same | apply Known.other | apply Known.alloc | apply Known.drewN | apply Known.drew)) <;> omega
      clear m
      intro m
      (try simp only [List.setIfInBounds_toArray, List.set_cons_zero, List.set_cons_succ] at m)
      apply Grow.have_known (W := W) (b := w.heap.size + 1)
      · rw [hW.out]
        (repeat (with_reducible first | exact Known.new _ _ _ | (apply Known.new'; (first | rfl | (simp; done))) | apply Known.same | apply Known.other | apply Known.alloc | apply Known.drewN | apply Known.drew)) <;> omega
      intro r
      (try simp only [List.setIfInBounds_toArray, List.set_cons_zero, List.set_cons_succ] at r)
      have hS : Sen a [6, 7, 10] W := HS.out.below (by rw [hW.out]; exact grow_alloc (grow_alloc (grow_refl _) _) _)
      clear c6 c7 c10 l6 l7 l10
      have c6 := (hS 6 (by decide)).1
      have c7 := (hS 7 (by decide)).1
      simp only [gOf] at c6 c7
      clear HS hW k
      have k := k2
      clear k2
      have cm := m.cell
      have fm := m.frozen
      have lm := m.lt
      have cr := r.cell
      have fr := r.frozen
      have lr := r.lt
      refine wp_loop_rounds 3 ?_
      (try rw [rounds_succ])
      go_wp2
      go_quiet (fail)
      go_wp2
      (try rw [rounds_succ])
      go_wp2
      go_quiet (fail)
      go_wp2
      go_ret
      refine ⟨?_, ?_, ?_⟩
      · simp [errV_zero, done, HA.out, HB.out, HE6.out]
      · apply Known.of_eq
        · apply Known.at m
          (repeat (with_reducible first | exact m | apply Known.same | apply Known.alloc | apply Known.drewN | apply Known.drew))
        · simp [mCells, done, HA.out, HB.out]
      · (repeat (with_reducible first | exact k | refine But.setCell ?_ _ _ | refine But.alloc ?_ _ | refine But.drewN ?_ _ | refine But.drew ?_))
    · have b3 : decide (q.l.fast < y) = false := decide_eq_false B1
      have b4 : decide (y < -q.l.fast) = false := decide_eq_false B2
      have HB := Lib.hid hB
      clear hB
      have g4 : (st = 4) ∨ (¬ st = 4 ∧ st = 3) ∨ (¬ st = 4 ∧ ¬ st = 3) := by omega
      rcases g4 with g3 | ⟨g4, g3⟩ | ⟨g4, g3⟩
      · have g5 : (st == 4) = true := by simp [g3]
        have G3 := Lib.hid g3
        clear g3
        go_enter Tryd.func75, Tryd.ntmps75
        go_wp2
        refine Grow.seal_wp ?_
        intro W hW
        clear cm fm lm
        have k2 : But b w W := by
          rw [hW.out]
          (repeat (with_reducible first | exact k | refine But.setCell ?_ _ _ | refine But.alloc ?_ _ | refine But.drewN ?_ _ | refine But.drew ?_ | refine But.fresh ?_ ?_ _ _)) <;> omega
        apply Grow.have_known (W := W)
        · rw [hW.out]
          apply Known.at m
          (repeat (with_reducible first | exact m | apply Known.same | apply Known.other | apply Known.alloc | apply Known.drewN | apply Known.drew)) <;> omega
        clear m
        intro m
        (try simp only [List.setIfInBounds_toArray, List.set_cons_zero, List.set_cons_succ] at m)
        apply Grow.have_known (W := W) (b := w.heap.size + 1)
        · rw [hW.out]
          (repeat (with_reducible first | exact Known.new _ _ _ | (apply Known.new'; (first | rfl | (simp; done))) | apply Known.same | apply Known.other | apply Known.alloc | apply Known.drewN | apply Known.drew)) <;> omega
        intro r
        (try simp only [List.setIfInBounds_toArray, List.set_cons_zero, List.set_cons_succ] at r)
        have hS : Sen a [6, 7, 10] W := HS.out.below (by rw [hW.out]; exact grow_alloc (grow_alloc (grow_refl _) _) _)
        clear c6 c7 c10 l6 l7 l10
        have c6 := (hS 6 (by decide)).1
        have c7 := (hS 7 (by decide)).1
        simp only [gOf] at c6 c7
        clear HS hW k
        have k := k2
        clear k2
        have cm := m.cell
        have fm := m.frozen
        have lm := m.lt
        have cr := r.cell
        have fr := r.frozen
        have lr := r.lt
        refine wp_loop_rounds 3 ?_
        (try rw [rounds_succ])
        go_wp2
        go_quiet (fail)
        go_wp2
        (try rw [rounds_succ])
        go_wp2
        go_quiet (fail)
        go_wp2
        (try rw [rounds_succ])
        go_wp2
        go_ret
        refine ⟨?_, ?_, ?_⟩
        · simp [errV_zero, done, HA.out, HB.out, G3.out, HE7.out]
        · apply Known.of_eq
          · apply Known.at m
            (repeat (with_reducible first | exact m | apply Known.same | apply Known.alloc | apply Known.drewN | apply Known.drew))
          · simp [mCells, done, HA.out, HB.out, G3.out]
        · (repeat (with_reducible first | exact k | refine But.setCell ?_ _ _ | refine But.alloc ?_ _ | refine But.drewN ?_ _ | refine But.drew ?_))
      · have g5 : (st == 4) = false := by simp [g4]
        have g6 : (st == 3) = true := by simp [g3]
        have G4 := Lib.hid g4
        clear g4
        have G3 := Lib.hid g3
        clear g3
        go_enter Tryd.func75, Tryd.ntmps75
        go_wp2
        refine Grow.seal_wp ?_
        intro W hW
        clear cm fm lm
        have k2 : But b w W := by
          rw [hW.out]
          (repeat (with_reducible first | exact k | refine But.setCell ?_ _ _ | refine But.alloc ?_ _ | refine But.drewN ?_ _ | refine But.drew ?_ | refine But.fresh ?_ ?_ _ _)) <;> omega
        apply Grow.have_known (W := W)
        · rw [hW.out]
          apply Known.at m
          (repeat (with_reducible first | exact m | apply Known.same | apply Known.other | apply Known.alloc | apply Known.drewN | apply Known.drew)) <;> omega
        clear m
        intro m
        (try simp only [List.setIfInBounds_toArray, List.set_cons_zero, List.set_cons_succ] at m)
        apply Grow.have_known (W := W) (b := w.heap.size + 1)
        · rw [hW.out]
          (repeat (with_reducible first | exact Known.new _ _ _ | (apply Known.new'; (first | rfl | (simp; done))) | apply Known.same | apply Known.other | apply Known.alloc | apply Known.drewN | apply Known.drew)) <;> omega
        intro r
        (try simp only [List.setIfInBounds_toArray, List.set_cons_zero, List.set_cons_succ] at r)
        have hS : Sen a [6, 7, 10] W := HS.out.below (by rw [hW.out]; exact grow_alloc (grow_alloc (grow_refl _) _) _)
        clear c6 c7 c10 l6 l7 l10
        have c6 := (hS 6 (by decide)).1
        have c7 := (hS 7 (by decide)).1
        simp only [gOf] at c6 c7
        clear HS hW k
        have k := k2
        clear k2
        have cm := m.cell
        have fm := m.frozen
        have lm := m.lt
        have cr := r.cell
        have fr := r.frozen
        have lr := r.lt
        refine wp_loop_rounds 3 ?_
        (try rw [rounds_succ])
        go_wp2
        go_quiet (fail)
        go_wp2
        (try rw [rounds_succ])
        go_wp2
        go_quiet (fail)
        go_wp2
        (try rw [rounds_succ])
        go_wp2
        go_ret
        refine ⟨?_, ?_, ?_⟩
        · simp [errV_zero, done, HA.out, HB.out, G3.out, G4.out, HE7.out]
        · apply Known.of_eq
          · apply Known.at m
            (repeat (with_reducible first | exact m | apply Known.same | apply Known.alloc | apply Known.drewN | apply Known.drew))
          · simp [mCells, done, HA.out, HB.out, G3.out, G4.out]
        · (repeat (with_reducible first | exact k | refine But.setCell ?_ _ _ | refine But.alloc ?_ _ | refine But.drewN ?_ _ | refine But.drew ?_))
      · have g5 : (st == 4) = false := by simp [g4]
        have g6 : (st == 3) = false := by simp [g3]
        have G4 := Lib.hid g4
        clear g4
        have G3 := Lib.hid g3
        clear g3
        go_enter Tryd.func75, Tryd.ntmps75
        go_wp2
        refine Grow.seal_wp ?_
        intro W hW
        clear cm fm lm
        have k2 : But b w W := by
          rw [hW.out]
          (repeat (with_reducible first | exact k | refine But.setCell ?_ _ _ | refine But.alloc ?_ _ | refine But.drewN ?_ _ | refine But.drew ?_ | refine But.fresh ?_ ?_ _ _)) <;> omega
        apply Grow.have_known (W := W)
        · rw [hW.out]
          apply Known.at m
          (repeat (with_reducible first | exact m | apply Known.same | apply Known.other | apply Known.alloc | apply Known.drewN | apply Known.drew)) <;> omega
        clear m
        intro m
        (try simp only [List.setIfInBounds_toArray, List.set_cons_zero, List.set_cons_succ] at m)
        apply Grow.have_known (W := W) (b := w.heap.size + 1)
        · rw [hW.out]
          (repeat (with_reducible first | exact Known.new _ _ _ | (apply Known.new'; (first | rfl | (simp; done))) | apply Known.same | apply Known.other | apply Known.alloc | apply Known.drewN | apply Known.drew)) <;> omega
        intro r
        (try simp only [List.setIfInBounds_toArray, List.set_cons_zero, List.set_cons_succ] at r)
        have hS : Sen a [6, 7, 10] W := HS.out.below (by rw [hW.out]; exact grow_alloc (grow_alloc (grow_refl _) _) _)
        clear c6 c7 c10 l6 l7 l10
        have c6 := (hS 6 (by decide)).1
        have c7 := (hS 7 (by decide)).1
        simp only [gOf] at c6 c7
        clear HS hW k
        have k := k2
        clear k2
        have cm := m.cell
        have fm := m.frozen
        have lm := m.lt
        have cr := r.cell
        have fr := r.frozen
        have lr := r.lt
        refine wp_loop_rounds 3 ?_
        (try rw [rounds_succ])
        go_wp2
        go_quiet (fail)
        go_wp2
        (try rw [rounds_succ])
        go_wp2
        go_quiet (fail)
        go_wp2
        (try rw [rounds_succ])
        go_wp2
        refine Grow.seal_wp ?_
        intro W hW
        clear cm fm lm cr fr lr
        have k2 : But b w W := by
          rw [hW.out]
          (repeat (with_reducible first | exact k | refine But.setCell ?_ _ _ | refine But.alloc ?_ _ | refine But.drewN ?_ _ | refine But.drew ?_ | refine But.fresh ?_ ?_ _ _)) <;> omega
        apply Grow.have_known (W := W)
        · rw [hW.out]
          apply Known.at m
          (repeat (with_reducible first | exact m | apply Known.same | apply Known.other | apply Known.alloc | apply Known.drewN | apply Known.drew)) <;> omega
        clear m
        intro m
        (try simp only [List.setIfInBounds_toArray, List.set_cons_zero, List.set_cons_succ] at m)
        apply Grow.have_known (W := W)
        · rw [hW.out]
          apply Known.at r
          (repeat (with_reducible first | exact r | apply Known.same | apply Known.other | apply Known.alloc | apply Known.drewN | apply Known.drew)) <;> omega
        clear r
        intro r
        (try simp only [List.setIfInBounds_toArray, List.set_cons_zero, List.set_cons_succ] at r)
        clear hW k
        have k := k2
        clear k2
        have cm := m.cell
        have fm := m.frozen
        have lm := m.lt
        have cr := r.cell
        have fr := r.frozen
        have lr := r.lt
        refine wp_loop_rounds 3 ?_
        (try rw [rounds_succ])
        go_wp2
        go_still_tail 9, (by kernel_rfl)
        go_wp2
        refine Grow.seal_wp ?_
        intro W hW
        clear cm fm lm cr fr lr
        have k2 : But b w W := by
          rw [hW.out]
          (repeat (with_reducible first | exact k | refine But.setCell ?_ _ _ | refine But.alloc ?_ _ | refine But.drewN ?_ _ | refine But.drew ?_ | refine But.fresh ?_ ?_ _ _)) <;> omega
        apply Grow.have_known (W := W)
        · rw [hW.out]
          apply Known.at m
          (repeat (with_reducible first | exact m | apply Known.same | apply Known.other | apply Known.alloc | apply Known.drewN | apply Known.drew)) <;> omega
        clear m
        intro m
        (try simp only [List.setIfInBounds_toArray, List.set_cons_zero, List.set_cons_succ] at m)
        apply Grow.have_known (W := W)
        · rw [hW.out]
          apply Known.at r
          (repeat (with_reducible first | exact r | apply Known.same | apply Known.other | apply Known.alloc | apply Known.drewN | apply Known.drew)) <;> omega
        clear r
        intro r
        (try simp only [List.setIfInBounds_toArray, List.set_cons_zero, List.set_cons_succ] at r)
        clear hW k
        have k := k2
        clear k2
        have cm := m.cell
        have fm := m.frozen
        have lm := m.lt
        have cr := r.cell
        have fr := r.frozen
        have lr := r.lt
        (try rw [rounds_succ])
        go_wp2
        go_still_tail 9, (by kernel_rfl)
        go_wp2
        refine Grow.seal_wp ?_
        intro W hW
        clear cm fm lm cr fr lr
        have k2 : But b w W := by
          rw [hW.out]
          (repeat (with_reducible first | exact k | refine But.setCell ?_ _ _ | refine But.alloc ?_ _ | refine But.drewN ?_ _ | refine But.drew ?_ | refine But.fresh ?_ ?_ _ _)) <;> omega
        apply Grow.have_known (W := W)
        · rw [hW.out]
          apply Known.at m
          (repeat (with_reducible first | exact m | apply Known.same | apply Known.other | apply Known.alloc | apply Known.drewN | apply Known.drew)) <;> omega
        clear m
        intro m
        (try simp only [List.setIfInBounds_toArray, List.set_cons_zero, List.set_cons_succ] at m)
        apply Grow.have_known (W := W)
        · rw [hW.out]
          apply Known.at r
          (repeat (with_reducible first | exact r | apply Known.same | apply Known.other | apply Known.alloc | apply Known.drewN | apply Known.drew)) <;> omega
        clear r
        intro r
        (try simp only [List.setIfInBounds_toArray, List.set_cons_zero, List.set_cons_succ] at r)
        clear hW k
        have k := k2
        clear k2
        have cm := m.cell
        have fm := m.frozen
        have lm := m.lt
        have cr := r.cell
        have fr := r.frozen
        have lr := r.lt
        (try rw [rounds_succ])
        go_wp2
        go_ret
        refine ⟨?_, ?_, ?_⟩
        · simp [errV_zero, done, HA.out, HB.out, G3.out, G4.out]
        · apply Known.of_eq
          · apply Known.at m
            (repeat (with_reducible first | exact m | apply Known.same | apply Known.alloc | apply Known.drewN | apply Known.drew))
          · simp [mCells, done, HA.out, HB.out, G3.out, G4.out]
        · (repeat (with_reducible first | exact k | refine But.setCell ?_ _ _ | refine But.alloc ?_ _ | refine But.drewN ?_ _ | refine But.drew ?_))

end Go.Proofs.YtlfpfeidaohjmaaDoor
