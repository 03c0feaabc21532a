/- The document's mount: its tick. -/
import Derived.Test.YtlfpfeidaohjmaaDoorRw1
import Derived.Deep.DeepCutAuto
import Derived.Deep.CutBlock
set_option linter.unusedSimpArgs false
set_option linter.unusedVariables false
namespace Go.Proofs.YtlfpfeidaohjmaaDoor
open Go.RowKit Go.Grow Go.Mo

/-- The bounds of the document's mount. -/
structure RB (m : Rf) : Prop where
  a : m.a.ok
  b : m.b.ok
  x : -1099511627776 ≤ m.x ∧ m.x ≤ 1099511627776
  y : -1099511627776 ≤ m.y ∧ m.y ≤ 1099511627776
  p : m.state = 1 ∨ m.state = 2 → -1099511627776 ≤ m.p ∧ m.p ≤ 1099511627776
  q : m.state = 1 ∨ m.state = 2 → -1099511627776 ≤ m.q ∧ m.q ≤ 1099511627776

theorem towards_still (x y f : Int) (h1 : -1099511627776 ≤ x) (h2 : x ≤ 1099511627776) (h3 : -1099511627776 ≤ y) (h4 : y ≤ 1099511627776) (h5 : 1 ≤ f) (h6 : f ≤ 1099511627776) (w : World) :
    Calls Tryd.prog 84 #[.int .i64 x, .int .i64 y, .int .i64 f] w fun e w' => e = .returned (.int .i64 (towards x y f)) ∧ w' = w :=
  (towards_walk x y f h1 h2 h3 h4 h5 h6 w).mono fun _ _ ⟨h, k⟩ => ⟨h, k.symm⟩
theorem rstep_keeps (r : Rf) : (Mo.rstep r).patience = r.patience ∧ (Mo.rstep r).quiet = r.quiet := by
  unfold Mo.rstep
  split
  · exact ⟨rfl, rfl⟩
  · split
    · exact ⟨rfl, rfl⟩
    · split
      · split <;> exact ⟨rfl, rfl⟩
      · exact ⟨rfl, rfl⟩

set_option maxRecDepth 100000 in
set_option maxHeartbeats 4000000 in
theorem rtick_walk (b : Nat) (m0 : Rf) (hm : RB m0) (hq0 : 0 ≤ m0.quiet) (hq1 : m0.quiet ≤ 4611686018427387904) (w : World) (m : Known w b (rCells m0)) :
    Calls Tryd.prog 37 #[.pointer (some ⟨b, 0, none⟩)] w fun e w' => e = .returned (.tuple #[]) ∧ RLeft b (rtick m0) w w' := by
  have a_ok := hm.a
  have b_ok := hm.b
  have hx := hm.x
  have hy := hm.y
  have hp := hm.p
  have hq := hm.q
  clear hm
  obtain ⟨a, b', x, y, p, q, st, pa, qu, ta, nu, er⟩ := m0
  unfold rCells at m
  simp only at a_ok b_ok hx hy hp hq hq0 hq1 m
  have ah : -1099511627776 ≤ a.home ∧ a.home ≤ 1099511627776 := by obtain ⟨l1, l2, l3, l4, l5, l6⟩ := a_ok; omega
  have bh : -1099511627776 ≤ b'.home ∧ b'.home ≤ 1099511627776 := by obtain ⟨l1, l2, l3, l4, l5, l6⟩ := b_ok; omega
  have k := But.refl b w
  have hbw := m.lt
  have cm := m.cell
  have fm := m.frozen
  have lm := m.lt
  have ew : IntKind.i64.wrap (qu + 1) = qu + 1 := IntWalk.i64_in _ (by omega)
  go_enter Tryd.func37, Tryd.ntmps37
  go_upto_region 1 with (fail)
  refine Grow.seal_wp ?_
  intro W hW
  clear cm fm lm
  have k2 : But b w W := by
    rw [hW.out]
    (repeat (with_reducible first | exact k | refine But.setCell ?_ _ _ | refine But.alloc ?_ _ | refine But.drewN ?_ _ | refine But.drew ?_ | refine But.fresh ?_ ?_ _ _)) <;> omega
  apply Grow.have_known (W := W)
  · rw [hW.out]
    apply Known.at m
    (repeat (with_reducible first | exact m | apply Known.same | apply Known.other | apply Known.alloc | apply Known.drewN | apply Known.drew)) <;> omega
  clear m
  intro m
  (try simp only [List.setIfInBounds_toArray, List.set_cons_zero, List.set_cons_succ] at m)
  clear hW k
  have k := k2
  clear k2
  have cm := m.cell
  have fm := m.frozen
  have lm := m.lt
  go_quiet (fail)
  go_upto_block 0 with (fail)
  go_cut [2] (fun s2 wx => ∃ lt : Bool, s2 = .bool lt ∧ Hid (lt = decide (pa ≤ qu + 1)) ∧ Known wx b (rCells (Mo.rstep ⟨a, b', x, y, p, q, st, pa, qu + 1, ta, nu, er⟩)) ∧ But b w wx)
  case first =>
    have hst' : st = 1 ∨ st = 3 ∨ st = 2 ∨ (st ≠ 1 ∧ st ≠ 3 ∧ st ≠ 2) := by omega
    rcases hst' with rfl | rfl | rfl | ⟨n1, n2, n3⟩
    · have T1 := Lib.hid (fun w => towards_still x p a.fast hx.1 hx.2 (hp (by simp)).1 (hp (by simp)).2 a_ok.2.2.1 a_ok.2.2.2.2.2 w)
      have T2 := Lib.hid (fun w => towards_still y q b'.fast hy.1 hy.2 (hq (by simp)).1 (hq (by simp)).2 b_ok.2.2.1 b_ok.2.2.2.2.2 w)
      cases hA : (towards x p a.fast == p) <;> cases hB : (towards y q b'.fast == q)
      all_goals
        go_wp2
        refine Grow.seal_wp ?_
        intro W hW
        clear cm fm lm
        have k2 : But b w W := by
          rw [hW.out]
          (repeat (with_reducible first | exact k | refine But.setCell ?_ _ _ | refine But.alloc ?_ _ | refine But.drewN ?_ _ | refine But.drew ?_ | refine But.fresh ?_ ?_ _ _)) <;> omega
        apply Grow.have_known (W := W)
        · rw [hW.out]
          apply Known.at m
          (repeat (with_reducible first | exact m | apply Known.same | apply Known.other | apply Known.alloc | apply Known.drewN | apply Known.drew)) <;> omega
        clear m
        intro m
        (try simp only [List.setIfInBounds_toArray, List.set_cons_zero, List.set_cons_succ] at m)
        clear hW k
        have k := k2
        clear k2
        have cm := m.cell
        have fm := m.frozen
        have lm := m.lt
        go_still_tail 17, (by kernel_rfl)
        still_call (T1.out _)
        (repeat still_step)
        (try refine wpStill_nil ?_)
        go_wp2
        refine Grow.seal_wp ?_
        intro W hW
        clear cm fm lm
        have k2 : But b w W := by
          rw [hW.out]
          (repeat (with_reducible first | exact k | refine But.setCell ?_ _ _ | refine But.alloc ?_ _ | refine But.drewN ?_ _ | refine But.drew ?_ | refine But.fresh ?_ ?_ _ _)) <;> omega
        apply Grow.have_known (W := W)
        · rw [hW.out]
          apply Known.at m
          (repeat (with_reducible first | exact m | apply Known.same | apply Known.other | apply Known.alloc | apply Known.drewN | apply Known.drew)) <;> omega
        clear m
        intro m
        (try simp only [List.setIfInBounds_toArray, List.set_cons_zero, List.set_cons_succ] at m)
        clear hW k
        have k := k2
        clear k2
        have cm := m.cell
        have fm := m.frozen
        have lm := m.lt
        go_still_tail 17, (by kernel_rfl)
        still_call (T2.out _)
        (repeat still_step)
        (try refine wpStill_nil ?_)
        go_wp2
        refine Grow.seal_wp ?_
        intro W hW
        clear cm fm lm
        have k2 : But b w W := by
          rw [hW.out]
          (repeat (with_reducible first | exact k | refine But.setCell ?_ _ _ | refine But.alloc ?_ _ | refine But.drewN ?_ _ | refine But.drew ?_ | refine But.fresh ?_ ?_ _ _)) <;> omega
        apply Grow.have_known (W := W)
        · rw [hW.out]
          apply Known.at m
          (repeat (with_reducible first | exact m | apply Known.same | apply Known.other | apply Known.alloc | apply Known.drewN | apply Known.drew)) <;> omega
        clear m
        intro m
        (try simp only [List.setIfInBounds_toArray, List.set_cons_zero, List.set_cons_succ] at m)
        clear hW k
        have k := k2
        clear k2
        have cm := m.cell
        have fm := m.frozen
        have lm := m.lt
        go_quiet (fail)
        go_wp2
        go_meet
        refine ⟨_, rfl, Lib.hid rfl, ?_, ?_⟩
        · apply Known.of_eq
          · apply Known.at m
            (repeat (with_reducible first | exact m | apply Known.same | apply Known.alloc | apply Known.drewN | apply Known.drew))
          · (try simp only [beq_eq_false_iff_ne, beq_iff_eq, ne_eq] at hA hB)
            simp [rCells, Mo.rstep, hA, hB]
        · (repeat (with_reducible first | exact k | refine But.setCell ?_ _ _ | refine But.alloc ?_ _ | refine But.drewN ?_ _ | refine But.drew ?_))
        
    · have T1 := Lib.hid (fun w => towards_still x a.home a.fast hx.1 hx.2 ah.1 ah.2 a_ok.2.2.1 a_ok.2.2.2.2.2 w)
      have T2 := Lib.hid (fun w => towards_still y b'.home b'.fast hy.1 hy.2 bh.1 bh.2 b_ok.2.2.1 b_ok.2.2.2.2.2 w)
      cases hA : (towards x a.home a.fast == a.home) <;> cases hB : (towards y b'.home b'.fast == b'.home)
      all_goals
        go_wp2
        refine Grow.seal_wp ?_
        intro W hW
        clear cm fm lm
        have k2 : But b w W := by
          rw [hW.out]
          (repeat (with_reducible first | exact k | refine But.setCell ?_ _ _ | refine But.alloc ?_ _ | refine But.drewN ?_ _ | refine But.drew ?_ | refine But.fresh ?_ ?_ _ _)) <;> omega
        apply Grow.have_known (W := W)
        · rw [hW.out]
          apply Known.at m
          (repeat (with_reducible first | exact m | apply Known.same | apply Known.other | apply Known.alloc | apply Known.drewN | apply Known.drew)) <;> omega
        clear m
        intro m
        (try simp only [List.setIfInBounds_toArray, List.set_cons_zero, List.set_cons_succ] at m)
        clear hW k
        have k := k2
        clear k2
        have cm := m.cell
        have fm := m.frozen
        have lm := m.lt
        go_still_tail 18, (by kernel_rfl)
        still_call (T1.out _)
        (repeat still_step)
        (try refine wpStill_nil ?_)
        go_wp2
        refine Grow.seal_wp ?_
        intro W hW
        clear cm fm lm
        have k2 : But b w W := by
          rw [hW.out]
          (repeat (with_reducible first | exact k | refine But.setCell ?_ _ _ | refine But.alloc ?_ _ | refine But.drewN ?_ _ | refine But.drew ?_ | refine But.fresh ?_ ?_ _ _)) <;> omega
        apply Grow.have_known (W := W)
        · rw [hW.out]
          apply Known.at m
          (repeat (with_reducible first | exact m | apply Known.same | apply Known.other | apply Known.alloc | apply Known.drewN | apply Known.drew)) <;> omega
        clear m
        intro m
        (try simp only [List.setIfInBounds_toArray, List.set_cons_zero, List.set_cons_succ] at m)
        clear hW k
        have k := k2
        clear k2
        have cm := m.cell
        have fm := m.frozen
        have lm := m.lt
        go_still_tail 18, (by kernel_rfl)
        still_call (T2.out _)
        (repeat still_step)
        (try refine wpStill_nil ?_)
        go_wp2
        refine Grow.seal_wp ?_
        intro W hW
        clear cm fm lm
        have k2 : But b w W := by
          rw [hW.out]
          (repeat (with_reducible first | exact k | refine But.setCell ?_ _ _ | refine But.alloc ?_ _ | refine But.drewN ?_ _ | refine But.drew ?_ | refine But.fresh ?_ ?_ _ _)) <;> omega
        apply Grow.have_known (W := W)
        · rw [hW.out]
          apply Known.at m
          (repeat (with_reducible first | exact m | apply Known.same | apply Known.other | apply Known.alloc | apply Known.drewN | apply Known.drew)) <;> omega
        clear m
        intro m
        (try simp only [List.setIfInBounds_toArray, List.set_cons_zero, List.set_cons_succ] at m)
        clear hW k
        have k := k2
        clear k2
        have cm := m.cell
        have fm := m.frozen
        have lm := m.lt
        go_quiet (fail)
        go_wp2
        go_meet
        refine ⟨_, rfl, Lib.hid rfl, ?_, ?_⟩
        · apply Known.of_eq
          · apply Known.at m
            (repeat (with_reducible first | exact m | apply Known.same | apply Known.alloc | apply Known.drewN | apply Known.drew))
          · (try simp only [beq_eq_false_iff_ne, beq_iff_eq, ne_eq] at hA hB)
            simp [rCells, Mo.rstep, hA, hB]
        · (repeat (with_reducible first | exact k | refine But.setCell ?_ _ _ | refine But.alloc ?_ _ | refine But.drewN ?_ _ | refine But.drew ?_))
        
    · obtain ⟨p1, p2⟩ := hp (by simp)
      obtain ⟨q1, q2⟩ := hq (by simp)
      have e1 : IntKind.i64.wrap (x + p) = x + p := IntWalk.i64_in _ (by omega)
      have e2 : IntKind.i64.wrap (y + q) = y + q := IntWalk.i64_in _ (by omega)
      have key : (x + p < a.low) ∨ (¬ (x + p < a.low) ∧ a.high < x + p) ∨ (¬ (x + p < a.low) ∧ ¬ (a.high < x + p) ∧ y + q < b'.low) ∨ (¬ (x + p < a.low) ∧ ¬ (a.high < x + p) ∧ ¬ (y + q < b'.low) ∧ b'.high < y + q) ∨ (¬ (x + p < a.low) ∧ ¬ (a.high < x + p) ∧ ¬ (y + q < b'.low) ∧ ¬ (b'.high < y + q)) := by omega
      rcases key with A1 | ⟨A1, A2⟩ | ⟨A1, A2, A3⟩ | ⟨A1, A2, A3, A4⟩ | ⟨A1, A2, A3, A4⟩
      all_goals
        go_wp2
        refine Grow.seal_wp ?_
        intro W hW
        clear cm fm lm
        have k2 : But b w W := by
          rw [hW.out]
          (repeat (with_reducible first | exact k | refine But.setCell ?_ _ _ | refine But.alloc ?_ _ | refine But.drewN ?_ _ | refine But.drew ?_ | refine But.fresh ?_ ?_ _ _)) <;> omega
        apply Grow.have_known (W := W)
        · rw [hW.out]
          apply Known.at m
          (repeat (with_reducible first | exact m | apply Known.same | apply Known.other | apply Known.alloc | apply Known.drewN | apply Known.drew)) <;> omega
        clear m
        intro m
        (try simp only [List.setIfInBounds_toArray, List.set_cons_zero, List.set_cons_succ] at m)
        clear hW k
        have k := k2
        clear k2
        have cm := m.cell
        have fm := m.frozen
        have lm := m.lt
        go_quiet (fail)
        go_wp2
        go_quiet (fail)
        go_wp2
        go_meet
        refine ⟨_, rfl, Lib.hid rfl, ?_, ?_⟩
        · apply Known.of_eq
          · apply Known.at m
            (repeat (with_reducible first | exact m | apply Known.same | apply Known.alloc | apply Known.drewN | apply Known.drew))
          · (try simp only [beq_eq_false_iff_ne, beq_iff_eq, ne_eq] at hA hB)
            rw [rstep2 rfl]
            dsimp only
            (first | rw [if_pos (by omega)] | rw [if_neg (by omega)])
            rfl
        · (repeat (with_reducible first | exact k | refine But.setCell ?_ _ _ | refine But.alloc ?_ _ | refine But.drewN ?_ _ | refine But.drew ?_))
        
    · have d1 : (st == 1) = false := by simp [n1]
      have d2 : (st == 3) = false := by simp [n2]
      have d3 : (st == 2) = false := by simp [n3]
      go_wp2
      go_meet
      refine ⟨_, rfl, Lib.hid rfl, ?_, ?_⟩
      · apply Known.of_eq
        · apply Known.at m
          (repeat (with_reducible first | exact m | apply Known.same | apply Known.alloc | apply Known.drewN | apply Known.drew))
        · (try simp only [beq_eq_false_iff_ne, beq_iff_eq, ne_eq] at hA hB)
          simp [rCells, Mo.rstep, n1, n2, n3]
      · (repeat (with_reducible first | exact k | refine But.setCell ?_ _ _ | refine But.alloc ?_ _ | refine But.drewN ?_ _ | refine But.drew ?_))
      
  case rest => 
    obtain ⟨lt, rfl, HL, m1, k1⟩ := hcut
    clear m k cm fm lm a_ok b_ok hx hy hp hq ah bh
    have m := m1
    have k := k1
    clear m1 k1
    have ep : (Mo.rstep ⟨a, b', x, y, p, q, st, pa, qu + 1, ta, nu, er⟩).patience = pa ∧ (Mo.rstep ⟨a, b', x, y, p, q, st, pa, qu + 1, ta, nu, er⟩).quiet = qu + 1 := rstep_keeps _
    generalize hE : Mo.rstep ⟨a, b', x, y, p, q, st, pa, qu + 1, ta, nu, er⟩ = r at m ep
    have HE := Lib.hid hE
    clear hE
    obtain ⟨a, b', x, y, p, q, st, pa', qu', ta, nu, er⟩ := r
    simp only at ep
    obtain ⟨rfl, rfl⟩ := ep
    unfold rCells at m
    simp only at m
    have cm := m.cell
    have fm := m.frozen
    have lm := m.lt
    have key : (¬ (pa' ≤ qu + 1)) ∨ (pa' ≤ qu + 1 ∧ st = 4) ∨ (pa' ≤ qu + 1 ∧ ¬ st = 4) := by omega
    rcases key with h1 | ⟨h1, rfl⟩ | ⟨h1, h2⟩
    · obtain rfl : lt = false := HL.out.trans (decide_eq_false h1)
      go_wp2
      go_end0
      unfold rtick
      dsimp only
      rw [HE.out]
      dsimp only
      refine ⟨rfl, ?_, ?_⟩
      · apply Known.of_eq
        · apply Known.at m
          (repeat (with_reducible first | exact m | apply Known.same | apply Known.alloc | apply Known.drewN | apply Known.drew))
        · (try simp only [beq_eq_false_iff_ne, beq_iff_eq, ne_eq] at hA hB)
          (first | (simp [rCells, *]; done) | simp [rCells, show ¬ (pa' ≤ qu + 1) by omega])
      · (repeat (with_reducible first | exact k | refine But.setCell ?_ _ _ | refine But.alloc ?_ _ | refine But.drewN ?_ _ | refine But.drew ?_))
      
    · obtain rfl : lt = true := HL.out.trans (decide_eq_true h1)
      go_wp2
      go_end0
      unfold rtick
      dsimp only
      rw [HE.out]
      dsimp only
      refine ⟨rfl, ?_, ?_⟩
      · apply Known.of_eq
        · apply Known.at m
          (repeat (with_reducible first | exact m | apply Known.same | apply Known.alloc | apply Known.drewN | apply Known.drew))
        · (try simp only [beq_eq_false_iff_ne, beq_iff_eq, ne_eq] at hA hB)
          (first | (simp [rCells, *]; done) | simp [rCells, show ¬ (pa' ≤ qu + 1) by omega])
      · (repeat (with_reducible first | exact k | refine But.setCell ?_ _ _ | refine But.alloc ?_ _ | refine But.drewN ?_ _ | refine But.drew ?_))
      
    · obtain rfl : lt = true := HL.out.trans (decide_eq_true h1)
      have d2 : (st != 4) = true := by simp [h2]
      go_wp2
      go_end0
      unfold rtick
      dsimp only
      rw [HE.out]
      dsimp only
      refine ⟨rfl, ?_, ?_⟩
      · apply Known.of_eq
        · apply Known.at m
          (repeat (with_reducible first | exact m | apply Known.same | apply Known.alloc | apply Known.drewN | apply Known.drew))
        · (try simp only [beq_eq_false_iff_ne, beq_iff_eq, ne_eq] at hA hB)
          (first | (simp [rCells, *]; done) | simp [rCells, show ¬ (pa' ≤ qu + 1) by omega])
      · (repeat (with_reducible first | exact k | refine But.setCell ?_ _ _ | refine But.alloc ?_ _ | refine But.drewN ?_ _ | refine But.drew ?_))
      
end Go.Proofs.YtlfpfeidaohjmaaDoor
