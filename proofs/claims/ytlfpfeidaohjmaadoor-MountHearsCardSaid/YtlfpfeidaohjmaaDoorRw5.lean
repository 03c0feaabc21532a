/- The document's mount takes a command; a new one. -/
import Derived.Test.YtlfpfeidaohjmaaDoorRw4
set_option linter.unusedSimpArgs false
set_option linter.unusedVariables false
namespace Go.Proofs.YtlfpfeidaohjmaaDoor
open Go.RowKit Go.Grow Go.Mo

set_option maxRecDepth 100000 in
set_option maxHeartbeats 4000000 in
theorem rtake_new (b : Nat) (m0 : Rf) (hm : RB m0) (n x y : Int) (c : ByteArray) (w : World) (m : Known w b (rCells m0)) (hn : m0.taken = false ∨ (m0.taken = true ∧ m0.number < n))
    (r : Nat × Rf) (hr : rdone { m0 with taken := true, number := n, quiet := 0 } (kindOf c) x y = r) :
    Calls Tryd.prog 38 #[.pointer (some ⟨b, 0, none⟩), cmdV n c x y] w fun e w' => e = .returned (repZ (rreply r.2 n r.1)) ∧ RLeft b { r.2 with code := r.1 } w w' := by
  obtain ⟨a, b', mx, my, p, q, st, pa, qu, ta, nu, er⟩ := m0
  simp only at hn hr
  unfold rCells at m
  simp only at m
  have hbw := m.lt
  have k := But.refl b w
  obtain ⟨rc, a2, b2, mx2, my2, p2, q2, st2, pa2, qu2, ta2, nu2, er2⟩ := r
  simp only
  have D := Lib.hid (fun w h => rdo_any b ⟨a, b', mx, my, p, q, st, pa, 0, true, n, er⟩ ⟨hm.a, hm.b, hm.x, hm.y, hm.p, hm.q⟩ n x y c w h)
  rw [hr] at D
  unfold cmdV at D
  clear hm hr
  rcases hn with hn | ⟨ht, hn⟩
  · subst hn
    have cm := m.cell
    have fm := m.frozen
    have lm := m.lt
    unfold cmdV
    go_enter Tryd.func38, Tryd.ntmps38
    go_upto_region 1 with (fail)
    refine Grow.seal_wp ?_
    intro W hW
    clear cm fm lm
    have k2 : But b w W := by
      rw [hW.out]
      (repeat (with_reducible first | exact k | refine But.setCell ?_ _ _ | refine But.alloc ?_ _ | refine But.drewN ?_ _ | refine But.drew ?_ | refine But.fresh ?_ ?_ _ _)) <;> omega
    apply Grow.have_known (W := W)
    · rw [hW.out]
      apply Known.at m
      (repeat (with_reducible first | exact m | apply Known.same | apply Known.other | apply Known.alloc | apply Known.drewN | apply Known.drew)) <;> omega
    clear m
    intro m
    (try simp only [List.setIfInBounds_toArray, List.set_cons_zero, List.set_cons_succ] at m)
    apply Grow.have_known (W := W) (b := w.heap.size)
    · rw [hW.out]
      (repeat (with_reducible first | exact Known.new _ _ _ | (apply Known.new'; (first | rfl | (simp; done))) | apply Known.same | apply Known.other | apply Known.alloc | apply Known.drewN | apply Known.drew)) <;> omega
    intro r3
    (try simp only [List.setIfInBounds_toArray, List.set_cons_zero, List.set_cons_succ] at r3)
    apply Grow.have_known (W := W) (b := w.heap.size + 1)
    · rw [hW.out]
      (repeat (with_reducible first | exact Known.new _ _ _ | (apply Known.new'; (first | rfl | (simp; done))) | apply Known.same | apply Known.other | apply Known.alloc | apply Known.drewN | apply Known.drew)) <;> omega
    intro r4
    (try simp only [List.setIfInBounds_toArray, List.set_cons_zero, List.set_cons_succ] at r4)
    clear hW k
    have k := k2
    clear k2
    have cm := m.cell
    have fm := m.frozen
    have lm := m.lt
    have cr3 := r3.cell
    have fr3 := r3.frozen
    have lr3 := r3.lt
    have cr4 := r4.cell
    have fr4 := r4.frozen
    have lr4 := r4.lt
    go_wp2_with (
         go_at_call 86
         refine Grow.seal_calls ?_
         intro W hW
         clear cm fm lm cr3 fr3 lr3 cr4 fr4 lr4
         have k2 : But b w W := by
           rw [hW.out]
           (repeat (with_reducible first | exact k | refine But.setCell ?_ _ _ | refine But.alloc ?_ _ | refine But.drewN ?_ _ | refine But.drew ?_ | refine But.fresh ?_ ?_ _ _)) <;> omega
         apply Grow.have_known (W := W)
         · rw [hW.out]
           apply Known.at m
           (repeat (with_reducible first | exact m | apply Known.same | apply Known.other | apply Known.alloc | apply Known.drewN | apply Known.drew)) <;> omega
         clear m
         intro m
         (try simp only [List.setIfInBounds_toArray, List.set_cons_zero, List.set_cons_succ] at m)
         apply Grow.have_known (W := W)
         · rw [hW.out]
           apply Known.at r3
           (repeat (with_reducible first | exact r3 | apply Known.same | apply Known.other | apply Known.alloc | apply Known.drewN | apply Known.drew)) <;> omega
         clear r3
         intro r3
         (try simp only [List.setIfInBounds_toArray, List.set_cons_zero, List.set_cons_succ] at r3)
         apply Grow.have_known (W := W)
         · rw [hW.out]
           apply Known.at r4
           (repeat (with_reducible first | exact r4 | apply Known.same | apply Known.other | apply Known.alloc | apply Known.drewN | apply Known.drew)) <;> omega
         clear r4
         intro r4
         (try simp only [List.setIfInBounds_toArray, List.set_cons_zero, List.set_cons_succ] at r4)
         clear hW k
         have k := k2
         clear k2
         have cm := m.cell
         have fm := m.frozen
         have lm := m.lt
         have cr3 := r3.cell
         have fr3 := r3.frozen
         have lr3 := r3.lt
         have cr4 := r4.cell
         have fr4 := r4.frozen
         have lr4 := r4.lt
         refine (D.out _ ?_).mono ?_
         exact m
         rintro e w1 ⟨rfl, hL⟩
         have HL := Lib.hid hL
         clear hL cm fm lm cr3 fr3 lr3 cr4 fr4 lr4
         replace m := HL.out.1
         dsimp only [rCells] at m
         replace r3 := r3.but HL.out.2 (by omega)
         replace r4 := r4.but HL.out.2 (by omega)
         replace k := k.trans HL.out.2
         have cm := m.cell
         have fm := m.frozen
         have lm := m.lt
         have cr3 := r3.cell
         have fr3 := r3.frozen
         have lr3 := r3.lt
         have cr4 := r4.cell
         have fr4 := r4.frozen
         have lr4 := r4.lt)
    refine Grow.seal_wp ?_
    intro W hW
    clear cm fm lm cr3 fr3 lr3 cr4 fr4 lr4
    have k2 : But b w W := by
      rw [hW.out]
      (repeat (with_reducible first | exact k | refine But.setCell ?_ _ _ | refine But.alloc ?_ _ | refine But.drewN ?_ _ | refine But.drew ?_ | refine But.fresh ?_ ?_ _ _)) <;> omega
    apply Grow.have_known (W := W)
    · rw [hW.out]
      apply Known.at m
      (repeat (with_reducible first | exact m | apply Known.same | apply Known.other | apply Known.alloc | apply Known.drewN | apply Known.drew)) <;> omega
    clear m
    intro m
    (try simp only [List.setIfInBounds_toArray, List.set_cons_zero, List.set_cons_succ] at m)
    apply Grow.have_known (W := W)
    · rw [hW.out]
      apply Known.at r3
      (repeat (with_reducible first | exact r3 | apply Known.same | apply Known.other | apply Known.alloc | apply Known.drewN | apply Known.drew)) <;> omega
    clear r3
    intro r3
    (try simp only [List.setIfInBounds_toArray, List.set_cons_zero, List.set_cons_succ] at r3)
    apply Grow.have_known (W := W)
    · rw [hW.out]
      apply Known.at r4
      (repeat (with_reducible first | exact r4 | apply Known.same | apply Known.other | apply Known.alloc | apply Known.drewN | apply Known.drew)) <;> omega
    clear r4
    intro r4
    (try simp only [List.setIfInBounds_toArray, List.set_cons_zero, List.set_cons_succ] at r4)
    clear hW k
    have k := k2
    clear k2
    have cm := m.cell
    have fm := m.frozen
    have lm := m.lt
    have cr3 := r3.cell
    have fr3 := r3.frozen
    have lr3 := r3.lt
    have cr4 := r4.cell
    have fr4 := r4.frozen
    have lr4 := r4.lt
    go_still_tail 7, (by kernel_rfl)
    go_wp2_with (go_at_call 85; refine (rreply_walk b ⟨a2, b2, mx2, my2, p2, q2, st2, pa2, qu2, ta2, nu2, rc⟩ _ rc _ ?_).mono ?_; exact Known.drew m; rintro e w1 ⟨rfl, hB⟩; have HB := Lib.hid hB; clear hB; clear cm fm lm cr3 fr3 lr3 cr4 fr4 lr4; replace m := (Known.drew m).below HB.out; replace r4 := (Known.drew r4).below HB.out; replace k := (k.drew).trans (But.of_below HB.out); have cm := m.cell; have fm := m.frozen; have lm := m.lt; have cr4 := r4.cell; have fr4 := r4.frozen; have lr4 := r4.lt)
    apply bodyPost_ret
    · simp [results, Tryd.results38, go_sem, cr4, fr4]; rfl
    · rfl
    · refine ⟨?_, ?_, ?_⟩
      · simp [repZ, rreply]
      · apply Known.of_eq
        · apply Known.at m
          (repeat (with_reducible first | exact m | apply Known.same | apply Known.other | apply Known.alloc | apply Known.drewN | apply Known.drew)) <;> omega
        · simp [rCells]
      · (repeat (with_reducible first | exact k | refine But.setCell ?_ _ _ | refine But.alloc ?_ _ | refine But.drewN ?_ _ | refine But.drew ?_ | refine But.fresh ?_ ?_ _ _)) <;> omega
  · subst ht
    have g1 : (n == nu) = false := by simp; omega
    have g2 : decide (n < nu) = false := by simp; omega
    have cm := m.cell
    have fm := m.frozen
    have lm := m.lt
    unfold cmdV
    go_enter Tryd.func38, Tryd.ntmps38
    go_wp2
    refine Grow.seal_wp ?_
    intro W hW
    clear cm fm lm
    have k2 : But b w W := by
      rw [hW.out]
      (repeat (with_reducible first | exact k | refine But.setCell ?_ _ _ | refine But.alloc ?_ _ | refine But.drewN ?_ _ | refine But.drew ?_ | refine But.fresh ?_ ?_ _ _)) <;> omega
    apply Grow.have_known (W := W)
    · rw [hW.out]
      apply Known.at m
      (repeat (with_reducible first | exact m | apply Known.same | apply Known.other | apply Known.alloc | apply Known.drewN | apply Known.drew)) <;> omega
    clear m
    intro m
    (try simp only [List.setIfInBounds_toArray, List.set_cons_zero, List.set_cons_succ] at m)
    apply Grow.have_known (W := W) (b := w.heap.size)
    · rw [hW.out]
      (repeat (with_reducible first | exact Known.new _ _ _ | (apply Known.new'; (first | rfl | (simp; done))) | apply Known.same | apply Known.other | apply Known.alloc | apply Known.drewN | apply Known.drew)) <;> omega
    intro r3
    (try simp only [List.setIfInBounds_toArray, List.set_cons_zero, List.set_cons_succ] at r3)
    apply Grow.have_known (W := W) (b := w.heap.size + 1)
    · rw [hW.out]
      (repeat (with_reducible first | exact Known.new _ _ _ | (apply Known.new'; (first | rfl | (simp; done))) | apply Known.same | apply Known.other | apply Known.alloc | apply Known.drewN | apply Known.drew)) <;> omega
    intro r4
    (try simp only [List.setIfInBounds_toArray, List.set_cons_zero, List.set_cons_succ] at r4)
    clear hW k
    have k := k2
    clear k2
    have cm := m.cell
    have fm := m.frozen
    have lm := m.lt
    have cr3 := r3.cell
    have fr3 := r3.frozen
    have lr3 := r3.lt
    have cr4 := r4.cell
    have fr4 := r4.frozen
    have lr4 := r4.lt
    go_quiet (fail)
    go_wp2
    refine Grow.seal_wp ?_
    intro W hW
    clear cm fm lm cr3 fr3 lr3 cr4 fr4 lr4
    have k2 : But b w W := by
      rw [hW.out]
      (repeat (with_reducible first | exact k | refine But.setCell ?_ _ _ | refine But.alloc ?_ _ | refine But.drewN ?_ _ | refine But.drew ?_ | refine But.fresh ?_ ?_ _ _)) <;> omega
    apply Grow.have_known (W := W)
    · rw [hW.out]
      apply Known.at m
      (repeat (with_reducible first | exact m | apply Known.same | apply Known.other | apply Known.alloc | apply Known.drewN | apply Known.drew)) <;> omega
    clear m
    intro m
    (try simp only [List.setIfInBounds_toArray, List.set_cons_zero, List.set_cons_succ] at m)
    apply Grow.have_known (W := W)
    · rw [hW.out]
      apply Known.at r3
      (repeat (with_reducible first | exact r3 | apply Known.same | apply Known.other | apply Known.alloc | apply Known.drewN | apply Known.drew)) <;> omega
    clear r3
    intro r3
    (try simp only [List.setIfInBounds_toArray, List.set_cons_zero, List.set_cons_succ] at r3)
    apply Grow.have_known (W := W)
    · rw [hW.out]
      apply Known.at r4
      (repeat (with_reducible first | exact r4 | apply Known.same | apply Known.other | apply Known.alloc | apply Known.drewN | apply Known.drew)) <;> omega
    clear r4
    intro r4
    (try simp only [List.setIfInBounds_toArray, List.set_cons_zero, List.set_cons_succ] at r4)
    clear hW k
    have k := k2
    clear k2
    have cm := m.cell
    have fm := m.frozen
    have lm := m.lt
    have cr3 := r3.cell
    have fr3 := r3.frozen
    have lr3 := r3.lt
    have cr4 := r4.cell
    have fr4 := r4.frozen
    have lr4 := r4.lt
    go_quiet (fail)
    go_wp2_with (
         go_at_call 86
         refine Grow.seal_calls ?_
         intro W hW
         clear cm fm lm cr3 fr3 lr3 cr4 fr4 lr4
         have k2 : But b w W := by
           rw [hW.out]
           (repeat (with_reducible first | exact k | refine But.setCell ?_ _ _ | refine But.alloc ?_ _ | refine But.drewN ?_ _ | refine But.drew ?_ | refine But.fresh ?_ ?_ _ _)) <;> omega
         apply Grow.have_known (W := W)
         · rw [hW.out]
           apply Known.at m
           (repeat (with_reducible first | exact m | apply Known.same | apply Known.other | apply Known.alloc | apply Known.drewN | apply Known.drew)) <;> omega
         clear m
         intro m
         (try simp only [List.setIfInBounds_toArray, List.set_cons_zero, List.set_cons_succ] at m)
         apply Grow.have_known (W := W)
         · rw [hW.out]
           apply Known.at r3
           (repeat (with_reducible first | exact r3 | apply Known.same | apply Known.other | apply Known.alloc | apply Known.drewN | apply Known.drew)) <;> omega
         clear r3
         intro r3
         (try simp only [List.setIfInBounds_toArray, List.set_cons_zero, List.set_cons_succ] at r3)
         apply Grow.have_known (W := W)
         · rw [hW.out]
           apply Known.at r4
           (repeat (with_reducible first | exact r4 | apply Known.same | apply Known.other | apply Known.alloc | apply Known.drewN | apply Known.drew)) <;> omega
         clear r4
         intro r4
         (try simp only [List.setIfInBounds_toArray, List.set_cons_zero, List.set_cons_succ] at r4)
         clear hW k
         have k := k2
         clear k2
         have cm := m.cell
         have fm := m.frozen
         have lm := m.lt
         have cr3 := r3.cell
         have fr3 := r3.frozen
         have lr3 := r3.lt
         have cr4 := r4.cell
         have fr4 := r4.frozen
         have lr4 := r4.lt
         refine (D.out _ ?_).mono ?_
         exact m
         rintro e w1 ⟨rfl, hL⟩
         have HL := Lib.hid hL
         clear hL cm fm lm cr3 fr3 lr3 cr4 fr4 lr4
         replace m := HL.out.1
         dsimp only [rCells] at m
         replace r3 := r3.but HL.out.2 (by omega)
         replace r4 := r4.but HL.out.2 (by omega)
         replace k := k.trans HL.out.2
         have cm := m.cell
         have fm := m.frozen
         have lm := m.lt
         have cr3 := r3.cell
         have fr3 := r3.frozen
         have lr3 := r3.lt
         have cr4 := r4.cell
         have fr4 := r4.frozen
         have lr4 := r4.lt)
    refine Grow.seal_wp ?_
    intro W hW
    clear cm fm lm cr3 fr3 lr3 cr4 fr4 lr4
    have k2 : But b w W := by
      rw [hW.out]
      (repeat (with_reducible first | exact k | refine But.setCell ?_ _ _ | refine But.alloc ?_ _ | refine But.drewN ?_ _ | refine But.drew ?_ | refine But.fresh ?_ ?_ _ _)) <;> omega
    apply Grow.have_known (W := W)
    · rw [hW.out]
      apply Known.at m
      (repeat (with_reducible first | exact m | apply Known.same | apply Known.other | apply Known.alloc | apply Known.drewN | apply Known.drew)) <;> omega
    clear m
    intro m
    (try simp only [List.setIfInBounds_toArray, List.set_cons_zero, List.set_cons_succ] at m)
    apply Grow.have_known (W := W)
    · rw [hW.out]
      apply Known.at r3
      (repeat (with_reducible first | exact r3 | apply Known.same | apply Known.other | apply Known.alloc | apply Known.drewN | apply Known.drew)) <;> omega
    clear r3
    intro r3
    (try simp only [List.setIfInBounds_toArray, List.set_cons_zero, List.set_cons_succ] at r3)
    apply Grow.have_known (W := W)
    · rw [hW.out]
      apply Known.at r4
      (repeat (with_reducible first | exact r4 | apply Known.same | apply Known.other | apply Known.alloc | apply Known.drewN | apply Known.drew)) <;> omega
    clear r4
    intro r4
    (try simp only [List.setIfInBounds_toArray, List.set_cons_zero, List.set_cons_succ] at r4)
    clear hW k
    have k := k2
    clear k2
    have cm := m.cell
    have fm := m.frozen
    have lm := m.lt
    have cr3 := r3.cell
    have fr3 := r3.frozen
    have lr3 := r3.lt
    have cr4 := r4.cell
    have fr4 := r4.frozen
    have lr4 := r4.lt
    go_still_tail 7, (by kernel_rfl)
    go_wp2_with (go_at_call 85; refine (rreply_walk b ⟨a2, b2, mx2, my2, p2, q2, st2, pa2, qu2, ta2, nu2, rc⟩ _ rc _ ?_).mono ?_; exact Known.drew m; rintro e w1 ⟨rfl, hB⟩; have HB := Lib.hid hB; clear hB; clear cm fm lm cr3 fr3 lr3 cr4 fr4 lr4; replace m := (Known.drew m).below HB.out; replace r4 := (Known.drew r4).below HB.out; replace k := (k.drew).trans (But.of_below HB.out); have cm := m.cell; have fm := m.frozen; have lm := m.lt; have cr4 := r4.cell; have fr4 := r4.frozen; have lr4 := r4.lt)
    apply bodyPost_ret
    · simp [results, Tryd.results38, go_sem, cr4, fr4]; rfl
    · rfl
    · refine ⟨?_, ?_, ?_⟩
      · simp [repZ, rreply]
      · apply Known.of_eq
        · apply Known.at m
          (repeat (with_reducible first | exact m | apply Known.same | apply Known.other | apply Known.alloc | apply Known.drewN | apply Known.drew)) <;> omega
        · simp [rCells]
      · (repeat (with_reducible first | exact k | refine But.setCell ?_ _ _ | refine But.alloc ?_ _ | refine But.drewN ?_ _ | refine But.drew ?_ | refine But.fresh ?_ ?_ _ _)) <;> omega

theorem rtake_any (b : Nat) (m0 : Rf) (hm : RB m0) (n x y : Int) (c : ByteArray) (w : World) (m : Known w b (rCells m0)) :
    Calls Tryd.prog 38 #[.pointer (some ⟨b, 0, none⟩), cmdV n c x y] w fun e w' => e = .returned (repZ (rtake m0 n (kindOf c) x y).2) ∧ RLeft b (rtake m0 n (kindOf c) x y).1 w w' := by
  cases ht : m0.taken with
  | false =>
    have e : rtake m0 n (kindOf c) x y = ({ (rdone { m0 with taken := true, number := n, quiet := 0 } (kindOf c) x y).2 with code := (rdone { m0 with taken := true, number := n, quiet := 0 } (kindOf c) x y).1 }, rreply (rdone { m0 with taken := true, number := n, quiet := 0 } (kindOf c) x y).2 n (rdone { m0 with taken := true, number := n, quiet := 0 } (kindOf c) x y).1) := by unfold rtake; rw [ht]; rfl
    rw [e]
    exact rtake_new b m0 hm n x y c w m (.inl ht) _ rfl
  | true =>
    by_cases h1 : n = m0.number
    · have e : rtake m0 n (kindOf c) x y = (m0, rreply m0 n m0.code) := by unfold rtake; rw [ht, if_pos (by simp [h1])]
      rw [e]
      exact rtake_same b m0 hm n x y c w m ht h1
    · by_cases h2 : n < m0.number
      · have e : rtake m0 n (kindOf c) x y = (m0, rreply m0 n 7) := by unfold rtake; rw [ht, if_neg (by simp [h1]), if_pos (by simp [h2])]
        rw [e]
        exact rtake_old b m0 hm n x y c w m ht h2
      · have e : rtake m0 n (kindOf c) x y = ({ (rdone { m0 with taken := true, number := n, quiet := 0 } (kindOf c) x y).2 with code := (rdone { m0 with taken := true, number := n, quiet := 0 } (kindOf c) x y).1 }, rreply (rdone { m0 with taken := true, number := n, quiet := 0 } (kindOf c) x y).2 n (rdone { m0 with taken := true, number := n, quiet := 0 } (kindOf c) x y).1) := by unfold rtake; rw [ht, if_neg (by simp [h1]), if_neg (by simp [h2])]
        rw [e]
        exact rtake_new b m0 hm n x y c w m (.inr ⟨ht, by omega⟩) _ rfl

end Go.Proofs.YtlfpfeidaohjmaaDoor
