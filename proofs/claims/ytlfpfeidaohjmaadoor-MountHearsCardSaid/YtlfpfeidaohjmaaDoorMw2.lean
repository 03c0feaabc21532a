/- The mount's tick: the step. -/
import Derived.Test.YtlfpfeidaohjmaaDoorMw1
import Derived.Deep.DeepCutAuto
import Derived.Deep.CutBlock
set_option linter.unusedSimpArgs false
set_option linter.unusedVariables false
namespace Go.Proofs.YtlfpfeidaohjmaaDoor
open Go.RowKit Go.Grow Go.Mo

theorem over_cases (x : Ax) : (x.at' + x.by' < x.l.low ∧ Mo.over x = true) ∨ (x.l.low ≤ x.at' + x.by' ∧ x.l.high < x.at' + x.by' ∧ Mo.over x = true) ∨ (x.l.low ≤ x.at' + x.by' ∧ x.at' + x.by' ≤ x.l.high ∧ Mo.over x = false) := by
  unfold Mo.over
  by_cases h : x.at' + x.by' < x.l.low
  · exact .inl ⟨h, by simp [h]⟩
  · by_cases g : x.l.high < x.at' + x.by'
    · exact .inr (.inl ⟨by omega, g, by simp [g]⟩)
    · exact .inr (.inr ⟨by omega, by omega, by simp [h, g]⟩)

set_option maxRecDepth 100000 in
set_option maxHeartbeats 4000000 in
theorem tick_walk (a : Nat → Addr) (b : Nat) (s : St) (hs : s.ok) (hq0 : 0 ≤ s.quiet) (hq1 : s.quiet ≤ 4611686018427387904) (w : World) (m : Known w b (mCells a s)) :
    Calls Tryd.prog 26 #[.pointer (some ⟨b, 0, none⟩)] w fun e w' => e = .returned (.tuple #[.int .i64 (tick s).p.at', .int .i64 (tick s).q.at']) ∧ Left a b (tick s) w w' := by
  have m0 := m
  unfold mCells at m
  have k := But.refl b w
  have cm := m.cell
  have fm := m.frozen
  have lm := m.lt
  unfold tick
  go_enter Tryd.func26, Tryd.ntmps26
  go_upto_block 0 with fail
  go_cut [] (fun wx => Known wx b (mCells a (Mo.step s)) ∧ But b w wx)
  case first =>
    have ok_p := hs.p
    have ok_q := hs.q
    have hst := hs.state
    obtain ⟨p, q, st, pa, qu, ta, nu, er⟩ := s
    simp only at ok_p ok_q hst m cm fm hq0 hq1
    have hst' : st = 1 ∨ st = 3 ∨ st = 2 ∨ st = 0 ∨ st = 4 ∨ st = 5 := by omega
    rcases hst' with rfl | rfl | rfl | rfl | rfl | rfl
    · have G1 := Lib.hid (goes_p a b ⟨p, q, 1, pa, qu, ta, nu, er⟩ ok_p)
      have G2 := Lib.hid (goes_q a b ⟨goes p, q, 1, pa, qu, ta, nu, er⟩ ok_q)
      replace m0 := Lib.hid m0
      cases hA : there (goes p) <;> cases hB : there (goes q)
      all_goals
        go_wp2
        go_region_with (first
          | (go_at_call 72; (with_reducible refine (G1.out _ ?_).mono ?_); exact Known.drew m0.out; rintro e w1 ⟨rfl, hL1⟩; have HL1 := Lib.hid hL1; clear hL1)
          | (go_at_call 72; (with_reducible refine (G2.out _ ?_).mono ?_); exact HL1.out.1; rintro e w2 ⟨rfl, hL2⟩; have HL2 := Lib.hid hL2; clear hL2))
        clear m cm fm lm
        have m := HL2.out.1
        dsimp only [mCells] at m
        have k2 : But b w w2 := ((k.drew).trans HL1.out.2).trans HL2.out.2
        clear k HL1 HL2 G1 G2 m0
        have k := k2
        clear k2
        have cm := m.cell
        have fm := m.frozen
        have lm := m.lt
        go_wp2
        go_meet
        refine ⟨?_, ?_⟩
        · apply Known.of_eq
          · apply Known.at m
            (repeat (with_reducible first | exact m | apply Known.same | apply Known.alloc | apply Known.drewN | apply Known.drew))
          · simp [mCells, Mo.step, hA, hB]
        · (repeat (with_reducible first | exact k | refine But.setCell ?_ _ _ | refine But.alloc ?_ _ | refine But.drewN ?_ _ | refine But.drew ?_))
        
    · have G1 := Lib.hid (goes_p a b ⟨p, q, 3, pa, qu, ta, nu, er⟩ ok_p)
      have G2 := Lib.hid (goes_q a b ⟨goes p, q, 3, pa, qu, ta, nu, er⟩ ok_q)
      replace m0 := Lib.hid m0
      cases hA : there (goes p) <;> cases hB : there (goes q)
      all_goals
        go_wp2
        go_region_with (first
          | (go_at_call 72; (with_reducible refine (G1.out _ ?_).mono ?_); exact Known.drew m0.out; rintro e w1 ⟨rfl, hL1⟩; have HL1 := Lib.hid hL1; clear hL1)
          | (go_at_call 72; (with_reducible refine (G2.out _ ?_).mono ?_); exact HL1.out.1; rintro e w2 ⟨rfl, hL2⟩; have HL2 := Lib.hid hL2; clear hL2))
        clear m cm fm lm
        have m := HL2.out.1
        dsimp only [mCells] at m
        have k2 : But b w w2 := ((k.drew).trans HL1.out.2).trans HL2.out.2
        clear k HL1 HL2 G1 G2 m0
        have k := k2
        clear k2
        have cm := m.cell
        have fm := m.frozen
        have lm := m.lt
        go_wp2
        go_meet
        refine ⟨?_, ?_⟩
        · apply Known.of_eq
          · apply Known.at m
            (repeat (with_reducible first | exact m | apply Known.same | apply Known.alloc | apply Known.drewN | apply Known.drew))
          · simp [mCells, Mo.step, hA, hB]
        · (repeat (with_reducible first | exact k | refine But.setCell ?_ _ _ | refine But.alloc ?_ _ | refine But.drewN ?_ _ | refine But.drew ?_))
        
    · obtain ⟨⟨l1, l2, l3, l4, l5, l6⟩, h1, h2, h3, h4, h5, h6⟩ := ok_p
      obtain ⟨⟨n1, n2, n3, n4, n5, n6⟩, j1, j2, j3, j4, j5, j6⟩ := ok_q
      have e1 : IntKind.i64.wrap (p.at' + p.by') = p.at' + p.by' := IntWalk.i64_in _ (by omega)
      have e2 : IntKind.i64.wrap (q.at' + q.by') = q.at' + q.by' := IntWalk.i64_in _ (by omega)
      clear m0 hs
      rcases over_cases p with ⟨A1, hA⟩ | ⟨A1, A2, hA⟩ | ⟨A1, A2, hA⟩ <;> rcases over_cases q with ⟨B1, hB⟩ | ⟨B1, B2, hB⟩ | ⟨B1, B2, hB⟩
      all_goals
        go_wp2
        refine wp_loop_rounds 3 ?_
        (try rw [rounds_succ])
        go_wp2
        go_quiet (fail)
        go_wp2
        refine Grow.seal_wp ?_
        intro W hW
        clear cm fm lm
        have k2 : But b w W := by
          rw [hW.out]
          (repeat (with_reducible first | exact k | refine But.setCell ?_ _ _ | refine But.alloc ?_ _ | refine But.drewN ?_ _ | refine But.drew ?_ | refine But.fresh ?_ ?_ _ _)) <;> omega
        apply Grow.have_known (W := W)
        · rw [hW.out]
          apply Known.at m
          (repeat (with_reducible first | exact m | apply Known.same | apply Known.other | apply Known.alloc | apply Known.drewN | apply Known.drew)) <;> omega
        clear m
        intro m
        (try simp only [List.setIfInBounds_toArray, List.set_cons_zero, List.set_cons_succ] at m)
        clear hW k
        have k := k2
        clear k2
        have cm := m.cell
        have fm := m.frozen
        have lm := m.lt
        (try rw [rounds_succ])
        go_wp2
        go_quiet (fail)
        go_wp2
        refine Grow.seal_wp ?_
        intro W hW
        clear cm fm lm
        have k2 : But b w W := by
          rw [hW.out]
          (repeat (with_reducible first | exact k | refine But.setCell ?_ _ _ | refine But.alloc ?_ _ | refine But.drewN ?_ _ | refine But.drew ?_ | refine But.fresh ?_ ?_ _ _)) <;> omega
        apply Grow.have_known (W := W)
        · rw [hW.out]
          apply Known.at m
          (repeat (with_reducible first | exact m | apply Known.same | apply Known.other | apply Known.alloc | apply Known.drewN | apply Known.drew)) <;> omega
        clear m
        intro m
        (try simp only [List.setIfInBounds_toArray, List.set_cons_zero, List.set_cons_succ] at m)
        clear hW k
        have k := k2
        clear k2
        have cm := m.cell
        have fm := m.frozen
        have lm := m.lt
        (try rw [rounds_succ])
        go_wp2
        first
        | (refine wp_loop_rounds 3 ?_
           (try rw [rounds_succ])
           go_wp2
           go_still_tail 19, (by kernel_rfl)
           go_wp2
           refine Grow.seal_wp ?_
           intro W hW
           clear cm fm lm
           have k2 : But b w W := by
             rw [hW.out]
             (repeat (with_reducible first | exact k | refine But.setCell ?_ _ _ | refine But.alloc ?_ _ | refine But.drewN ?_ _ | refine But.drew ?_ | refine But.fresh ?_ ?_ _ _)) <;> omega
           apply Grow.have_known (W := W)
           · rw [hW.out]
             apply Known.at m
             (repeat (with_reducible first | exact m | apply Known.same | apply Known.other | apply Known.alloc | apply Known.drewN | apply Known.drew)) <;> omega
           clear m
           intro m
           (try simp only [List.setIfInBounds_toArray, List.set_cons_zero, List.set_cons_succ] at m)
           clear hW k
           have k := k2
           clear k2
           have cm := m.cell
           have fm := m.frozen
           have lm := m.lt
           (try rw [rounds_succ])
           go_wp2
           go_still_tail 19, (by kernel_rfl)
           go_wp2
           refine Grow.seal_wp ?_
           intro W hW
           clear cm fm lm
           have k2 : But b w W := by
             rw [hW.out]
             (repeat (with_reducible first | exact k | refine But.setCell ?_ _ _ | refine But.alloc ?_ _ | refine But.drewN ?_ _ | refine But.drew ?_ | refine But.fresh ?_ ?_ _ _)) <;> omega
           apply Grow.have_known (W := W)
           · rw [hW.out]
             apply Known.at m
             (repeat (with_reducible first | exact m | apply Known.same | apply Known.other | apply Known.alloc | apply Known.drewN | apply Known.drew)) <;> omega
           clear m
           intro m
           (try simp only [List.setIfInBounds_toArray, List.set_cons_zero, List.set_cons_succ] at m)
           clear hW k
           have k := k2
           clear k2
           have cm := m.cell
           have fm := m.frozen
           have lm := m.lt
           (try rw [rounds_succ])
           go_wp2
           go_meet
           refine ⟨?_, ?_⟩
           · apply Known.of_eq
             · apply Known.at m
               (repeat (with_reducible first | exact m | apply Known.same | apply Known.alloc | apply Known.drewN | apply Known.drew))
             · simp [mCells, Mo.step, hA, hB, Mo.move]
           · (repeat (with_reducible first | exact k | refine But.setCell ?_ _ _ | refine But.alloc ?_ _ | refine But.drewN ?_ _ | refine But.drew ?_))
           )
        | (go_meet
           refine ⟨?_, ?_⟩
           · apply Known.of_eq
             · apply Known.at m
               (repeat (with_reducible first | exact m | apply Known.same | apply Known.alloc | apply Known.drewN | apply Known.drew))
             · simp [mCells, Mo.step, hA, hB]
           · (repeat (with_reducible first | exact k | refine But.setCell ?_ _ _ | refine But.alloc ?_ _ | refine But.drewN ?_ _ | refine But.drew ?_))
           )
    all_goals
      go_wp2
      go_meet
      refine ⟨?_, ?_⟩
      · apply Known.of_eq
        · apply Known.at m
          (repeat (with_reducible first | exact m | apply Known.same | apply Known.alloc | apply Known.drewN | apply Known.drew))
        · simp [mCells, Mo.step]
      · (repeat (with_reducible first | exact k | refine But.setCell ?_ _ _ | refine But.alloc ?_ _ | refine But.drewN ?_ _ | refine But.drew ?_))
      
  case rest =>
    obtain ⟨m1, k1⟩ := hcut
    have hq := step_same s
    have ok1 := step_ok hs
    rw [← hq] at hq0 hq1
    clear m m0 cm fm lm k hq hs
    generalize hE : Mo.step s = t at m1 ok1 hq0 hq1
    have m := m1
    have k := k1
    clear m1 k1
    obtain ⟨p, q, st, pa, qu, ta, nu, er⟩ := t
    have HE := Lib.hid hE
    clear hE
    simp only at m hq0 hq1
    unfold mCells at m
    have cm := m.cell
    have fm := m.frozen
    have lm := m.lt
    have ew : IntKind.i64.wrap (qu + 1) = qu + 1 := IntWalk.i64_in _ (by omega)
    have key : ¬ (pa ≤ qu + 1) ∨ (pa ≤ qu + 1 ∧ st = 4) ∨ (pa ≤ qu + 1 ∧ st = 3) ∨ (pa ≤ qu + 1 ∧ ¬ st = 4 ∧ ¬ st = 3) := by omega
    rcases key with h1 | ⟨h1, rfl⟩ | ⟨h1, rfl⟩ | ⟨h1, h2, h3⟩
    · have d1 : decide (pa ≤ qu + 1) = false := decide_eq_false h1
      go_wp2
      refine Grow.seal_wp ?_
      intro W hW
      clear cm fm lm
      have k2 : But b w W := by
        rw [hW.out]
        (repeat (with_reducible first | exact k | refine But.setCell ?_ _ _ | refine But.alloc ?_ _ | refine But.drewN ?_ _ | refine But.drew ?_ | refine But.fresh ?_ ?_ _ _)) <;> omega
      apply Grow.have_known (W := W)
      · rw [hW.out]
        apply Known.at m
        (repeat (with_reducible first | exact m | apply Known.same | apply Known.other | apply Known.alloc | apply Known.drewN | apply Known.drew)) <;> omega
      clear m
      intro m
      (try simp only [List.setIfInBounds_toArray, List.set_cons_zero, List.set_cons_succ] at m)
      clear hW k
      have k := k2
      clear k2
      have cm := m.cell
      have fm := m.frozen
      have lm := m.lt
      go_quiet (fail)
      go_wp2_with (go_at_call 25; refine (at_walk a b ⟨p, q, st, pa, qu + 1, ta, nu, er⟩ _ ?_).mono ?_; exact m.drewN _; rintro e w2 ⟨rfl, hB⟩; have HB := Lib.hid hB; clear hB)
      go_ret2
      rw [HE.out]
      have h9 : ¬ (pa ≤ qu + 1) := by omega
      refine ⟨?_, ?_, ?_⟩
      · simp [late, h9]
      · apply Known.of_eq
        · exact (m.drewN _).below HB.out
        · simp [mCells, late, h9]
      · exact (k.drewN _).trans (But.of_below HB.out)
    · have d1 : decide (pa ≤ qu + 1) = true := decide_eq_true h1
      go_wp2
      refine Grow.seal_wp ?_
      intro W hW
      clear cm fm lm
      have k2 : But b w W := by
        rw [hW.out]
        (repeat (with_reducible first | exact k | refine But.setCell ?_ _ _ | refine But.alloc ?_ _ | refine But.drewN ?_ _ | refine But.drew ?_ | refine But.fresh ?_ ?_ _ _)) <;> omega
      apply Grow.have_known (W := W)
      · rw [hW.out]
        apply Known.at m
        (repeat (with_reducible first | exact m | apply Known.same | apply Known.other | apply Known.alloc | apply Known.drewN | apply Known.drew)) <;> omega
      clear m
      intro m
      (try simp only [List.setIfInBounds_toArray, List.set_cons_zero, List.set_cons_succ] at m)
      clear hW k
      have k := k2
      clear k2
      have cm := m.cell
      have fm := m.frozen
      have lm := m.lt
      go_quiet (fail)
      go_wp2_with (go_at_call 25; refine (at_walk a b ⟨p, q, 4, pa, qu + 1, ta, nu, er⟩ _ ?_).mono ?_; exact m.drewN _; rintro e w2 ⟨rfl, hB⟩; have HB := Lib.hid hB; clear hB)
      go_ret2
      rw [HE.out]
      refine ⟨?_, ?_, ?_⟩
      · simp [late, d1, h1]
      · apply Known.of_eq
        · exact (m.drewN _).below HB.out
        · simp [mCells, late, d1, h1]
      · exact (k.drewN _).trans (But.of_below HB.out)
    · have d1 : decide (pa ≤ qu + 1) = true := decide_eq_true h1
      go_wp2
      refine Grow.seal_wp ?_
      intro W hW
      clear cm fm lm
      have k2 : But b w W := by
        rw [hW.out]
        (repeat (with_reducible first | exact k | refine But.setCell ?_ _ _ | refine But.alloc ?_ _ | refine But.drewN ?_ _ | refine But.drew ?_ | refine But.fresh ?_ ?_ _ _)) <;> omega
      apply Grow.have_known (W := W)
      · rw [hW.out]
        apply Known.at m
        (repeat (with_reducible first | exact m | apply Known.same | apply Known.other | apply Known.alloc | apply Known.drewN | apply Known.drew)) <;> omega
      clear m
      intro m
      (try simp only [List.setIfInBounds_toArray, List.set_cons_zero, List.set_cons_succ] at m)
      clear hW k
      have k := k2
      clear k2
      have cm := m.cell
      have fm := m.frozen
      have lm := m.lt
      go_quiet (fail)
      go_wp2_with (go_at_call 25; refine (at_walk a b ⟨p, q, 3, pa, qu + 1, ta, nu, er⟩ _ ?_).mono ?_; exact m.drewN _; rintro e w2 ⟨rfl, hB⟩; have HB := Lib.hid hB; clear hB)
      go_ret2
      rw [HE.out]
      refine ⟨?_, ?_, ?_⟩
      · simp [late, d1, h1]
      · apply Known.of_eq
        · exact (m.drewN _).below HB.out
        · simp [mCells, late, d1, h1]
      · exact (k.drewN _).trans (But.of_below HB.out)
    · have d1 : decide (pa ≤ qu + 1) = true := decide_eq_true h1
      have d2 : (st != 4) = true := by simp [h2]
      have d3 : (st != 3) = true := by simp [h3]
      go_wp2
      refine Grow.seal_wp ?_
      intro W hW
      clear cm fm lm
      have k2 : But b w W := by
        rw [hW.out]
        (repeat (with_reducible first | exact k | refine But.setCell ?_ _ _ | refine But.alloc ?_ _ | refine But.drewN ?_ _ | refine But.drew ?_ | refine But.fresh ?_ ?_ _ _)) <;> omega
      apply Grow.have_known (W := W)
      · rw [hW.out]
        apply Known.at m
        (repeat (with_reducible first | exact m | apply Known.same | apply Known.other | apply Known.alloc | apply Known.drewN | apply Known.drew)) <;> omega
      clear m
      intro m
      (try simp only [List.setIfInBounds_toArray, List.set_cons_zero, List.set_cons_succ] at m)
      clear hW k
      have k := k2
      clear k2
      have cm := m.cell
      have fm := m.frozen
      have lm := m.lt
      go_quiet (fail)
      go_wp2_with (first
        | (go_at_call 73; refine (park_walk a b ⟨p, q, st, pa, qu + 1, ta, nu, er⟩ _ ?_).mono ?_; exact m.drewN _; rintro e w1 ⟨rfl, hL⟩; have HL := Lib.hid hL; clear hL)
        | (go_at_call 25; refine (at_walk a b (Mo.park ⟨p, q, st, pa, qu + 1, ta, nu, er⟩) _ ?_).mono ?_; exact HL.out.1; rintro e w2 ⟨rfl, hB⟩; have HB := Lib.hid hB; clear hB))
      go_ret2
      rw [HE.out]
      have hl : late ⟨p, q, st, pa, qu, ta, nu, er⟩ = Mo.park ⟨p, q, st, pa, qu + 1, ta, nu, er⟩ := by simp [late, h1, h2, h3]
      rw [hl]
      exact ⟨rfl, HL.out.1.below HB.out, ((k.drewN _).trans HL.out.2).trans (But.of_below HB.out)⟩
end Go.Proofs.YtlfpfeidaohjmaaDoor
