/- A new mount. -/
import Derived.Test.YtlfpfeidaohjmaaDoorMw7
set_option linter.unusedSimpArgs false
set_option linter.unusedVariables false
namespace Go.Proofs.YtlfpfeidaohjmaaDoor
open Go.RowKit Go.Grow Go.Mo

theorem bad_cases (l : Lim) : (l.high < l.low ∧ bad l = true) ∨ (¬ (l.high < l.low) ∧ l.home < l.low ∧ bad l = true) ∨ (¬ (l.high < l.low) ∧ ¬ (l.home < l.low) ∧ l.high < l.home ∧ bad l = true)
    ∨ (¬ (l.high < l.low) ∧ ¬ (l.home < l.low) ∧ ¬ (l.high < l.home) ∧ l.fast < 1 ∧ bad l = true) ∨ (¬ (l.high < l.low) ∧ ¬ (l.home < l.low) ∧ ¬ (l.high < l.home) ∧ ¬ (l.fast < 1) ∧ bad l = false) := by
  unfold bad
  by_cases h1 : l.high < l.low
  · exact .inl ⟨h1, by simp [h1]⟩
  by_cases h2 : l.home < l.low
  · exact .inr (.inl ⟨h1, h2, by simp [h2]⟩)
  by_cases h3 : l.high < l.home
  · exact .inr (.inr (.inl ⟨h1, h2, h3, by simp [h3]⟩))
  by_cases h4 : l.fast < 1
  · exact .inr (.inr (.inr (.inl ⟨h1, h2, h3, h4, by simp [h4]⟩)))
  · exact .inr (.inr (.inr (.inr ⟨h1, h2, h3, h4, by simp [h1, h2, h3, h4]⟩)))
/-- What New leaves: an error, or a mount at b. -/
def Made (a : Nat → Addr) (A B : Lim) (n : Int) (w : World) (e : Ending) (w' : World) : Prop :=
  Below w.heap.size w w' ∧ ((newE A B n ≠ 0 ∧ e = .returned (.tuple #[.pointer none, errV a (newE A B n)])) ∨
    (newE A B n = 0 ∧ ∃ b, w.heap.size ≤ b ∧ e = .returned (.tuple #[.pointer (some ⟨b, 0, none⟩), .nilIface]) ∧ Known w' b (mCells a (st0 A B n))))
theorem made_err {a : Nat → Addr} {A B : Lim} {n : Int} {w w' : World} {k : Nat} (hk : newE A B n = k) (h0 : k ≠ 0) (hb : Below w.heap.size w w') : Made a A B n w (.returned (.tuple #[.pointer none, errV a k])) w' :=
  ⟨hb, .inl ⟨by omega, by rw [hk]⟩⟩

set_option maxRecDepth 100000 in
set_option maxHeartbeats 4000000 in
theorem new_walk (a : Nat → Addr) (A B : Lim) (n : Int) (w : World) (hsen : Sen a [2, 5] w) :
    Calls Tryd.prog 23 #[limV A, limV B, .int .i64 n] w (Made a A B n w) := by
  have HS := Lib.hid hsen
  have c2 : w.cell? ⟨gOf 2, 0, none⟩ = some (errV a 2) := (hsen 2 (by decide)).1
  have l2 := (hsen.lt (k := 2) (by decide)).1
  have c5 : w.cell? ⟨gOf 5, 0, none⟩ = some (errV a 5) := (hsen 5 (by decide)).1
  have l5 := (hsen.lt (k := 5) (by decide)).1
  simp only [gOf] at c2 l2 c5 l5
  clear hsen
  have V := Lib.hid (fun (l : Lim) (x : World) (h : Below w.heap.size w x) => valid_walk a l x ((HS.out.below h).sub (by intro k hk; revert hk; simp; omega)))
  have i0 : ∀ x, (Instr.index 133 (.agg #[.int .i64 A.low, .int .i64 A.high, .int .i64 A.fast, .int .i64 A.home, .int .i64 B.low, .int .i64 B.high, .int .i64 B.fast, .int .i64 B.home]) (.int .i64 0)).run Tryd.prog x = .ok (limV A) x := fun _ => by kernel_rfl
  have i1 : ∀ x, (Instr.index 133 (.agg #[.int .i64 A.low, .int .i64 A.high, .int .i64 A.fast, .int .i64 A.home, .int .i64 B.low, .int .i64 B.high, .int .i64 B.fast, .int .i64 B.home]) (.int .i64 1)).run Tryd.prog x = .ok (limV B) x := fun _ => by kernel_rfl
  have e2 := HS.out
  clear e2
  unfold limV at *
  have ne5 : ∀ k, newE A B n = k → newE A B n = k := fun _ h => h
  clear ne5
  rcases bad_cases A with ⟨A0, hA⟩ | ⟨A0, A1, hA⟩ | ⟨A0, A1, A2, hA⟩ | ⟨A0, A1, A2, A3, hA⟩ | ⟨A0, A1, A2, A3, hA⟩
  · have HN := Lib.hid (show newE A B n = 5 by simp [newE, hA])
    clear hA
    go_enter Tryd.func23, Tryd.ntmps23
    go_wp2
    refine wp_loop_rounds 3 ?_
    (try rw [rounds_succ])
    go_wp2
    go_quiet (fail)
    go_wp2
    go_ret2
    exact made_err HN.out (by decide) (by
      (repeat (with_reducible first | exact Grow.grow_refl _ | refine Grow.grow_setCell ?_ ?_ _ | refine Grow.grow_alloc ?_ _ | refine Grow.grow_drewN ?_ _ | refine Grow.grow_drew ?_ | refine Grow.grow_via (by assumption) ?_)) <;> (first | omega | (simp; done)))
  · have HN := Lib.hid (show newE A B n = 5 by simp [newE, hA])
    clear hA
    go_enter Tryd.func23, Tryd.ntmps23
    go_wp2
    refine wp_loop_rounds 3 ?_
    (try rw [rounds_succ])
    go_wp2
    go_quiet (fail)
    go_wp2
    go_ret2
    exact made_err HN.out (by decide) (by
      (repeat (with_reducible first | exact Grow.grow_refl _ | refine Grow.grow_setCell ?_ ?_ _ | refine Grow.grow_alloc ?_ _ | refine Grow.grow_drewN ?_ _ | refine Grow.grow_drew ?_ | refine Grow.grow_via (by assumption) ?_)) <;> (first | omega | (simp; done)))
  · have HN := Lib.hid (show newE A B n = 5 by simp [newE, hA])
    clear hA
    go_enter Tryd.func23, Tryd.ntmps23
    go_wp2
    refine wp_loop_rounds 3 ?_
    (try rw [rounds_succ])
    go_wp2
    go_quiet (fail)
    go_wp2
    go_ret2
    exact made_err HN.out (by decide) (by
      (repeat (with_reducible first | exact Grow.grow_refl _ | refine Grow.grow_setCell ?_ ?_ _ | refine Grow.grow_alloc ?_ _ | refine Grow.grow_drewN ?_ _ | refine Grow.grow_drew ?_ | refine Grow.grow_via (by assumption) ?_)) <;> (first | omega | (simp; done)))
  · have HN := Lib.hid (show newE A B n = 5 by simp [newE, hA])
    clear hA
    go_enter Tryd.func23, Tryd.ntmps23
    go_wp2
    refine wp_loop_rounds 3 ?_
    (try rw [rounds_succ])
    go_wp2
    go_quiet (fail)
    go_wp2
    go_ret2
    exact made_err HN.out (by decide) (by
      (repeat (with_reducible first | exact Grow.grow_refl _ | refine Grow.grow_setCell ?_ ?_ _ | refine Grow.grow_alloc ?_ _ | refine Grow.grow_drewN ?_ _ | refine Grow.grow_drew ?_ | refine Grow.grow_via (by assumption) ?_)) <;> (first | omega | (simp; done)))
  · rcases bad_cases B with ⟨B0, hB⟩ | ⟨B0, B1, hB⟩ | ⟨B0, B1, B2, hB⟩ | ⟨B0, B1, B2, B3, hB⟩ | ⟨B0, B1, B2, B3, hB⟩
    · have HN := Lib.hid (show newE A B n = 5 by simp [newE, hA, hB])
      clear hA hB
      go_enter Tryd.func23, Tryd.ntmps23
      go_wp2
      refine wp_loop_rounds 3 ?_
      (try rw [rounds_succ])
      go_wp2
      (try rw [rounds_succ])
      go_wp2
      go_quiet (fail)
      go_wp2
      go_ret2
      exact made_err HN.out (by decide) (by
        (repeat (with_reducible first | exact Grow.grow_refl _ | refine Grow.grow_setCell ?_ ?_ _ | refine Grow.grow_alloc ?_ _ | refine Grow.grow_drewN ?_ _ | refine Grow.grow_drew ?_ | refine Grow.grow_via (by assumption) ?_)) <;> (first | omega | (simp; done)))
    · have HN := Lib.hid (show newE A B n = 5 by simp [newE, hA, hB])
      clear hA hB
      go_enter Tryd.func23, Tryd.ntmps23
      go_wp2
      refine wp_loop_rounds 3 ?_
      (try rw [rounds_succ])
      go_wp2
      (try rw [rounds_succ])
      go_wp2
      go_quiet (fail)
      go_wp2
      go_ret2
      exact made_err HN.out (by decide) (by
        (repeat (with_reducible first | exact Grow.grow_refl _ | refine Grow.grow_setCell ?_ ?_ _ | refine Grow.grow_alloc ?_ _ | refine Grow.grow_drewN ?_ _ | refine Grow.grow_drew ?_ | refine Grow.grow_via (by assumption) ?_)) <;> (first | omega | (simp; done)))
    · have HN := Lib.hid (show newE A B n = 5 by simp [newE, hA, hB])
      clear hA hB
      go_enter Tryd.func23, Tryd.ntmps23
      go_wp2
      refine wp_loop_rounds 3 ?_
      (try rw [rounds_succ])
      go_wp2
      (try rw [rounds_succ])
      go_wp2
      go_quiet (fail)
      go_wp2
      go_ret2
      exact made_err HN.out (by decide) (by
        (repeat (with_reducible first | exact Grow.grow_refl _ | refine Grow.grow_setCell ?_ ?_ _ | refine Grow.grow_alloc ?_ _ | refine Grow.grow_drewN ?_ _ | refine Grow.grow_drew ?_ | refine Grow.grow_via (by assumption) ?_)) <;> (first | omega | (simp; done)))
    · have HN := Lib.hid (show newE A B n = 5 by simp [newE, hA, hB])
      clear hA hB
      go_enter Tryd.func23, Tryd.ntmps23
      go_wp2
      refine wp_loop_rounds 3 ?_
      (try rw [rounds_succ])
      go_wp2
      (try rw [rounds_succ])
      go_wp2
      go_quiet (fail)
      go_wp2
      go_ret2
      exact made_err HN.out (by decide) (by
        (repeat (with_reducible first | exact Grow.grow_refl _ | refine Grow.grow_setCell ?_ ?_ _ | refine Grow.grow_alloc ?_ _ | refine Grow.grow_drewN ?_ _ | refine Grow.grow_drew ?_ | refine Grow.grow_via (by assumption) ?_)) <;> (first | omega | (simp; done)))
    · by_cases hn : n < 1
      · have HN := Lib.hid (show newE A B n = 5 by simp [newE, hA, hB, hn])
        clear hA hB
        go_enter Tryd.func23, Tryd.ntmps23
        go_wp2
        refine wp_loop_rounds 3 ?_
        (try rw [rounds_succ])
        go_wp2
        (try rw [rounds_succ])
        go_wp2
        (try rw [rounds_succ])
        go_wp2
        go_quiet (fail)
        go_wp2
        go_ret2
        exact made_err HN.out (by decide) (by
          (repeat (with_reducible first | exact Grow.grow_refl _ | refine Grow.grow_setCell ?_ ?_ _ | refine Grow.grow_alloc ?_ _ | refine Grow.grow_drewN ?_ _ | refine Grow.grow_drew ?_ | refine Grow.grow_via (by assumption) ?_)) <;> (first | omega | (simp; done)))
      · have V1 := Lib.hid (fun (l : Lim) (x : World) (h : Below w.heap.size w x) (hw : wide l = true) => (V.out l x h).mono (fun e w' he => (show e = .returned (.iface 261 (.pointer (some (a 2)))) ∧ Below x.heap.size x w' by
          rw [show wideE l = 2 by simp [wideE, hw], errV_pos a (by decide)] at he; exact he)))
        have V0 := Lib.hid (fun (l : Lim) (x : World) (h : Below w.heap.size w x) (hw : wide l = false) => (V.out l x h).mono (fun e w' he => (show e = .returned .nilIface ∧ Below x.heap.size x w' by
          rw [show wideE l = 0 by simp [wideE, hw], errV_zero] at he; exact he)))
        clear V
        have HE2 := Lib.hid (errV_pos a (k := 2) (by decide))
        have g : Hid (Below w.heap.size w w) := Lib.hid (Below.refl _ _)
        cases wA : wide A with
        | true =>
          have HN := Lib.hid (show newE A B n = 2 by simp [newE, hA, hB, hn, wA])
          clear hA hB
          have WA := Lib.hid wA
          clear wA
          go_enter Tryd.func23, Tryd.ntmps23
          go_wp2
          refine wp_loop_rounds 3 ?_
          (try rw [rounds_succ])
          go_wp2
          (try rw [rounds_succ])
          go_wp2
          (try rw [rounds_succ])
          go_wp2
          refine Grow.seal_wp ?_
          intro W hW
          have g2 : Hid (Below w.heap.size w W) := Lib.hid (by
            rw [hW.out]
            (repeat (with_reducible first | exact g.out | refine Grow.grow_setCell ?_ ?_ _ | refine Grow.grow_alloc ?_ _ | refine Grow.grow_drewN ?_ _ | refine Grow.grow_drew ?_)) <;> omega)
          apply Grow.have_known (W := W) (b := w.heap.size)
          · rw [hW.out]
            (repeat (with_reducible first | exact Known.new _ _ _ | (apply Known.new'; (first | rfl | (simp; done))) | apply Known.same | apply Known.other | apply Known.alloc | apply Known.drewN | apply Known.drew)) <;> omega
          intro r3
          (try simp only [List.setIfInBounds_toArray, List.set_cons_zero, List.set_cons_succ] at r3)
          apply Grow.have_known (W := W) (b := w.heap.size + 1)
          · rw [hW.out]
            (repeat (with_reducible first | exact Known.new _ _ _ | (apply Known.new'; (first | rfl | (simp; done))) | apply Known.same | apply Known.other | apply Known.alloc | apply Known.drewN | apply Known.drew)) <;> omega
          intro r4
          (try simp only [List.setIfInBounds_toArray, List.set_cons_zero, List.set_cons_succ] at r4)
          clear hW g
          have g := g2
          clear g2
          have cr3 := r3.cell
          have fr3 := r3.frozen
          have lr3 := r3.lt
          have cr4 := r4.cell
          have fr4 := r4.frozen
          have lr4 := r4.lt
          refine wp_loop_rounds 3 ?_
          (try rw [rounds_succ])
          go_wp2_with (go_at_call 71; refine (V1.out A _ ?_ WA.out).mono ?_; exact grow_alloc g.out _; rintro e w1 ⟨rfl, hB⟩; clear cr3 fr3 lr3 cr4 fr4 lr4; replace r3 := (r3.alloc _).below hB; replace r4 := (r4.alloc _).below hB; have g2 : Hid (Below w.heap.size w w1) := Lib.hid (grow_trans (grow_alloc g.out _) hB); clear g hB; have g := g2; clear g2; have cr3 := r3.cell; have fr3 := r3.frozen; have lr3 := r3.lt; have cr4 := r4.cell; have fr4 := r4.frozen; have lr4 := r4.lt)
          go_ret2
          rw [← HE2.out]
          exact made_err HN.out (by decide) g.out
        | false =>
          cases wB : wide B with
          | true =>
            have HN := Lib.hid (show newE A B n = 2 by simp [newE, hA, hB, hn, wA, wB])
            clear hA hB
            have WA := Lib.hid wA
            have WB := Lib.hid wB
            clear wA wB
            go_enter Tryd.func23, Tryd.ntmps23
            go_wp2
            refine wp_loop_rounds 3 ?_
            (try rw [rounds_succ])
            go_wp2
            (try rw [rounds_succ])
            go_wp2
            (try rw [rounds_succ])
            go_wp2
            refine Grow.seal_wp ?_
            intro W hW
            have g2 : Hid (Below w.heap.size w W) := Lib.hid (by
              rw [hW.out]
              (repeat (with_reducible first | exact g.out | refine Grow.grow_setCell ?_ ?_ _ | refine Grow.grow_alloc ?_ _ | refine Grow.grow_drewN ?_ _ | refine Grow.grow_drew ?_)) <;> omega)
            apply Grow.have_known (W := W) (b := w.heap.size)
            · rw [hW.out]
              (repeat (with_reducible first | exact Known.new _ _ _ | (apply Known.new'; (first | rfl | (simp; done))) | apply Known.same | apply Known.other | apply Known.alloc | apply Known.drewN | apply Known.drew)) <;> omega
            intro r3
            (try simp only [List.setIfInBounds_toArray, List.set_cons_zero, List.set_cons_succ] at r3)
            apply Grow.have_known (W := W) (b := w.heap.size + 1)
            · rw [hW.out]
              (repeat (with_reducible first | exact Known.new _ _ _ | (apply Known.new'; (first | rfl | (simp; done))) | apply Known.same | apply Known.other | apply Known.alloc | apply Known.drewN | apply Known.drew)) <;> omega
            intro r4
            (try simp only [List.setIfInBounds_toArray, List.set_cons_zero, List.set_cons_succ] at r4)
            clear hW g
            have g := g2
            clear g2
            have cr3 := r3.cell
            have fr3 := r3.frozen
            have lr3 := r3.lt
            have cr4 := r4.cell
            have fr4 := r4.frozen
            have lr4 := r4.lt
            refine wp_loop_rounds 3 ?_
            (try rw [rounds_succ])
            go_wp2_with (go_at_call 71; refine (V0.out A _ ?_ WA.out).mono ?_; exact grow_alloc g.out _; rintro e w1 ⟨rfl, hB⟩; clear cr3 fr3 lr3 cr4 fr4 lr4; replace r3 := (r3.alloc _).below hB; replace r4 := (r4.alloc _).below hB; have g2 : Hid (Below w.heap.size w w1) := Lib.hid (grow_trans (grow_alloc g.out _) hB); clear g hB; have g := g2; clear g2; have cr3 := r3.cell; have fr3 := r3.frozen; have lr3 := r3.lt; have cr4 := r4.cell; have fr4 := r4.frozen; have lr4 := r4.lt)
            (try rw [rounds_succ])
            go_wp2_with (go_at_call 71; refine (V1.out B _ ?_ WB.out).mono ?_; exact grow_alloc g.out _; rintro e w1 ⟨rfl, hB⟩; clear cr3 fr3 lr3 cr4 fr4 lr4; replace r3 := (r3.alloc _).below hB; replace r4 := (r4.alloc _).below hB; have g2 : Hid (Below w.heap.size w w1) := Lib.hid (grow_trans (grow_alloc g.out _) hB); clear g hB; have g := g2; clear g2; have cr3 := r3.cell; have fr3 := r3.frozen; have lr3 := r3.lt; have cr4 := r4.cell; have fr4 := r4.frozen; have lr4 := r4.lt)
            go_ret2
            rw [← HE2.out]
            exact made_err HN.out (by decide) g.out
          | false =>
            by_cases hn2 : 1099511627776 < n
            · have HN := Lib.hid (show newE A B n = 2 by simp [newE, hA, hB, hn, wA, wB, hn2])
              clear hA hB
              have WA := Lib.hid wA
              have WB := Lib.hid wB
              clear wA wB
              go_enter Tryd.func23, Tryd.ntmps23
              go_wp2
              refine wp_loop_rounds 3 ?_
              (try rw [rounds_succ])
              go_wp2
              (try rw [rounds_succ])
              go_wp2
              (try rw [rounds_succ])
              go_wp2
              refine Grow.seal_wp ?_
              intro W hW
              have g2 : Hid (Below w.heap.size w W) := Lib.hid (by
                rw [hW.out]
                (repeat (with_reducible first | exact g.out | refine Grow.grow_setCell ?_ ?_ _ | refine Grow.grow_alloc ?_ _ | refine Grow.grow_drewN ?_ _ | refine Grow.grow_drew ?_)) <;> omega)
              apply Grow.have_known (W := W) (b := w.heap.size)
              · rw [hW.out]
                (repeat (with_reducible first | exact Known.new _ _ _ | (apply Known.new'; (first | rfl | (simp; done))) | apply Known.same | apply Known.other | apply Known.alloc | apply Known.drewN | apply Known.drew)) <;> omega
              intro r3
              (try simp only [List.setIfInBounds_toArray, List.set_cons_zero, List.set_cons_succ] at r3)
              apply Grow.have_known (W := W) (b := w.heap.size + 1)
              · rw [hW.out]
                (repeat (with_reducible first | exact Known.new _ _ _ | (apply Known.new'; (first | rfl | (simp; done))) | apply Known.same | apply Known.other | apply Known.alloc | apply Known.drewN | apply Known.drew)) <;> omega
              intro r4
              (try simp only [List.setIfInBounds_toArray, List.set_cons_zero, List.set_cons_succ] at r4)
              clear hW g
              have g := g2
              clear g2
              have cr3 := r3.cell
              have fr3 := r3.frozen
              have lr3 := r3.lt
              have cr4 := r4.cell
              have fr4 := r4.frozen
              have lr4 := r4.lt
              refine wp_loop_rounds 3 ?_
              (try rw [rounds_succ])
              go_wp2_with (go_at_call 71; refine (V0.out A _ ?_ WA.out).mono ?_; exact grow_alloc g.out _; rintro e w1 ⟨rfl, hB⟩; clear cr3 fr3 lr3 cr4 fr4 lr4; replace r3 := (r3.alloc _).below hB; replace r4 := (r4.alloc _).below hB; have g2 : Hid (Below w.heap.size w w1) := Lib.hid (grow_trans (grow_alloc g.out _) hB); clear g hB; have g := g2; clear g2; have cr3 := r3.cell; have fr3 := r3.frozen; have lr3 := r3.lt; have cr4 := r4.cell; have fr4 := r4.frozen; have lr4 := r4.lt)
              (try rw [rounds_succ])
              go_wp2_with (go_at_call 71; refine (V0.out B _ ?_ WB.out).mono ?_; exact grow_alloc g.out _; rintro e w1 ⟨rfl, hB⟩; clear cr3 fr3 lr3 cr4 fr4 lr4; replace r3 := (r3.alloc _).below hB; replace r4 := (r4.alloc _).below hB; have g2 : Hid (Below w.heap.size w w1) := Lib.hid (grow_trans (grow_alloc g.out _) hB); clear g hB; have g := g2; clear g2; have cr3 := r3.cell; have fr3 := r3.frozen; have lr3 := r3.lt; have cr4 := r4.cell; have fr4 := r4.frozen; have lr4 := r4.lt)
              (try rw [rounds_succ])
              go_wp2
              have c2' : w1.cell? ⟨gOf 2, 0, none⟩ = some (errV a 2) := ((HS.out.below g.out) 2 (by decide)).1
              simp only [gOf] at c2'
              go_quiet (fail)
              go_wp2
              go_ret2
              exact made_err HN.out (by decide) (grow_drewN g.out _)
            · have HN := Lib.hid (show newE A B n = 0 by simp [newE, hA, hB, hn, wA, wB, hn2])
              clear hA hB
              have WA := Lib.hid wA
              have WB := Lib.hid wB
              clear wA wB
              go_enter Tryd.func23, Tryd.ntmps23
              go_wp2
              refine wp_loop_rounds 3 ?_
              (try rw [rounds_succ])
              go_wp2
              (try rw [rounds_succ])
              go_wp2
              (try rw [rounds_succ])
              go_wp2
              refine Grow.seal_wp ?_
              intro W hW
              have g2 : Hid (Below w.heap.size w W) := Lib.hid (by
                rw [hW.out]
                (repeat (with_reducible first | exact g.out | refine Grow.grow_setCell ?_ ?_ _ | refine Grow.grow_alloc ?_ _ | refine Grow.grow_drewN ?_ _ | refine Grow.grow_drew ?_)) <;> omega)
              apply Grow.have_known (W := W) (b := w.heap.size)
              · rw [hW.out]
                (repeat (with_reducible first | exact Known.new _ _ _ | (apply Known.new'; (first | rfl | (simp; done))) | apply Known.same | apply Known.other | apply Known.alloc | apply Known.drewN | apply Known.drew)) <;> omega
              intro r3
              (try simp only [List.setIfInBounds_toArray, List.set_cons_zero, List.set_cons_succ] at r3)
              apply Grow.have_known (W := W) (b := w.heap.size + 1)
              · rw [hW.out]
                (repeat (with_reducible first | exact Known.new _ _ _ | (apply Known.new'; (first | rfl | (simp; done))) | apply Known.same | apply Known.other | apply Known.alloc | apply Known.drewN | apply Known.drew)) <;> omega
              intro r4
              (try simp only [List.setIfInBounds_toArray, List.set_cons_zero, List.set_cons_succ] at r4)
              clear hW g
              have g := g2
              clear g2
              have cr3 := r3.cell
              have fr3 := r3.frozen
              have lr3 := r3.lt
              have cr4 := r4.cell
              have fr4 := r4.frozen
              have lr4 := r4.lt
              refine wp_loop_rounds 3 ?_
              (try rw [rounds_succ])
              go_wp2_with (go_at_call 71; refine (V0.out A _ ?_ WA.out).mono ?_; exact grow_alloc g.out _; rintro e w1 ⟨rfl, hB⟩; clear cr3 fr3 lr3 cr4 fr4 lr4; replace r3 := (r3.alloc _).below hB; replace r4 := (r4.alloc _).below hB; have g2 : Hid (Below w.heap.size w w1) := Lib.hid (grow_trans (grow_alloc g.out _) hB); clear g hB; have g := g2; clear g2; have cr3 := r3.cell; have fr3 := r3.frozen; have lr3 := r3.lt; have cr4 := r4.cell; have fr4 := r4.frozen; have lr4 := r4.lt)
              (try rw [rounds_succ])
              go_wp2_with (go_at_call 71; refine (V0.out B _ ?_ WB.out).mono ?_; exact grow_alloc g.out _; rintro e w1 ⟨rfl, hB⟩; clear cr3 fr3 lr3 cr4 fr4 lr4; replace r3 := (r3.alloc _).below hB; replace r4 := (r4.alloc _).below hB; have g2 : Hid (Below w.heap.size w w1) := Lib.hid (grow_trans (grow_alloc g.out _) hB); clear g hB; have g := g2; clear g2; have cr3 := r3.cell; have fr3 := r3.frozen; have lr3 := r3.lt; have cr4 := r4.cell; have fr4 := r4.frozen; have lr4 := r4.lt)
              (try rw [rounds_succ])
              go_wp2
              have hb : w.heap.size ≤ w1.heap.size := g.out.size
              have hb3 : w.heap.size + 1 < w1.heap.size := lr4
              refine Grow.seal_wp ?_
              intro W hW
              clear cr3 fr3 lr3 cr4 fr4 lr4
              have g2 : Hid (Below w.heap.size w W) := Lib.hid (by
                rw [hW.out]
                (repeat (with_reducible first | exact g.out | refine Grow.grow_setCell ?_ ?_ _ | refine Grow.grow_alloc ?_ _ | refine Grow.grow_drewN ?_ _ | refine Grow.grow_drew ?_)) <;> omega)
              apply Grow.have_known (W := W)
              · rw [hW.out]
                apply Known.at r3
                (repeat (with_reducible first | exact r3 | apply Known.same | apply Known.other | apply Known.alloc | apply Known.drewN | apply Known.drew)) <;> omega
              clear r3
              intro r3
              (try simp only [List.setIfInBounds_toArray, List.set_cons_zero, List.set_cons_succ] at r3)
              apply Grow.have_known (W := W)
              · rw [hW.out]
                apply Known.at r4
                (repeat (with_reducible first | exact r4 | apply Known.same | apply Known.other | apply Known.alloc | apply Known.drewN | apply Known.drew)) <;> omega
              clear r4
              intro r4
              (try simp only [List.setIfInBounds_toArray, List.set_cons_zero, List.set_cons_succ] at r4)
              apply Grow.have_known (W := W) (b := w1.heap.size)
              · rw [hW.out]
                (repeat (with_reducible first | exact Known.new _ _ _ | (apply Known.new'; (first | rfl | (simp; done))) | apply Known.same | apply Known.other | apply Known.alloc | apply Known.drewN | apply Known.drew)) <;> omega
              intro m
              (try simp only [List.setIfInBounds_toArray, List.set_cons_zero, List.set_cons_succ] at m)
              clear hW g
              have g := g2
              clear g2
              have cr3 := r3.cell
              have fr3 := r3.frozen
              have lr3 := r3.lt
              have cr4 := r4.cell
              have fr4 := r4.frozen
              have lr4 := r4.lt
              have cm := m.cell
              have fm := m.frozen
              have lm := m.lt
              refine wp_loop_rounds 3 ?_
              (try rw [rounds_succ])
              go_wp2
              refine Grow.seal_wp ?_
              intro W2 hW
              clear cm fm lm cr3 fr3 lr3 cr4 fr4 lr4
              have g2 : Hid (Below w.heap.size w W2) := Lib.hid (by
                rw [hW.out]
                (repeat (with_reducible first | exact g.out | refine Grow.grow_setCell ?_ ?_ _ | refine Grow.grow_alloc ?_ _ | refine Grow.grow_drewN ?_ _ | refine Grow.grow_drew ?_)) <;> omega)
              apply Grow.have_known (W := W2)
              · rw [hW.out]
                apply Known.at m
                (repeat (with_reducible first | exact m | apply Known.same | apply Known.other | apply Known.alloc | apply Known.drewN | apply Known.drew)) <;> omega
              clear m
              intro m
              (try simp only [List.setIfInBounds_toArray, List.set_cons_zero, List.set_cons_succ] at m)
              apply Grow.have_known (W := W2)
              · rw [hW.out]
                apply Known.at r3
                (repeat (with_reducible first | exact r3 | apply Known.same | apply Known.other | apply Known.alloc | apply Known.drewN | apply Known.drew)) <;> omega
              clear r3
              intro r3
              (try simp only [List.setIfInBounds_toArray, List.set_cons_zero, List.set_cons_succ] at r3)
              apply Grow.have_known (W := W2)
              · rw [hW.out]
                apply Known.at r4
                (repeat (with_reducible first | exact r4 | apply Known.same | apply Known.other | apply Known.alloc | apply Known.drewN | apply Known.drew)) <;> omega
              clear r4
              intro r4
              (try simp only [List.setIfInBounds_toArray, List.set_cons_zero, List.set_cons_succ] at r4)
              apply Grow.have_known (W := W2) (b := W.heap.size)
              · rw [hW.out]
                (repeat (with_reducible first | exact Known.new _ _ _ | (apply Known.new'; (first | rfl | (simp; done))) | apply Known.same | apply Known.other | apply Known.alloc | apply Known.drewN | apply Known.drew)) <;> omega
              intro r5
              (try simp only [List.setIfInBounds_toArray, List.set_cons_zero, List.set_cons_succ] at r5)
              clear hW g
              have g := g2
              clear g2
              have cm := m.cell
              have fm := m.frozen
              have lm := m.lt
              have cr3 := r3.cell
              have fr3 := r3.frozen
              have lr3 := r3.lt
              have cr4 := r4.cell
              have fr4 := r4.frozen
              have lr4 := r4.lt
              have cr5 := r5.cell
              have fr5 := r5.frozen
              have lr5 := r5.lt
              go_region
              all_goals
                go_wp2
                refine Grow.seal_wp ?_
                intro W hW
                clear cm fm lm cr3 fr3 lr3 cr4 fr4 lr4 cr5 fr5 lr5
                have g2 : Hid (Below w.heap.size w W) := Lib.hid (by
                  rw [hW.out]
                  (repeat (with_reducible first | exact g.out | refine Grow.grow_setCell ?_ ?_ _ | refine Grow.grow_alloc ?_ _ | refine Grow.grow_drewN ?_ _ | refine Grow.grow_drew ?_)) <;> omega)
                apply Grow.have_known (W := W)
                · rw [hW.out]
                  apply Known.at m
                  (repeat (with_reducible first | exact m | apply Known.same | apply Known.other | apply Known.alloc | apply Known.drewN | apply Known.drew)) <;> omega
                clear m
                intro m
                (try simp only [List.setIfInBounds_toArray, List.set_cons_zero, List.set_cons_succ] at m)
                apply Grow.have_known (W := W)
                · rw [hW.out]
                  apply Known.at r3
                  (repeat (with_reducible first | exact r3 | apply Known.same | apply Known.other | apply Known.alloc | apply Known.drewN | apply Known.drew)) <;> omega
                clear r3
                intro r3
                (try simp only [List.setIfInBounds_toArray, List.set_cons_zero, List.set_cons_succ] at r3)
                apply Grow.have_known (W := W)
                · rw [hW.out]
                  apply Known.at r4
                  (repeat (with_reducible first | exact r4 | apply Known.same | apply Known.other | apply Known.alloc | apply Known.drewN | apply Known.drew)) <;> omega
                clear r4
                intro r4
                (try simp only [List.setIfInBounds_toArray, List.set_cons_zero, List.set_cons_succ] at r4)
                clear hW g
                have g := g2
                clear g2
                have cm := m.cell
                have fm := m.frozen
                have lm := m.lt
                have cr3 := r3.cell
                have fr3 := r3.frozen
                have lr3 := r3.lt
                have cr4 := r4.cell
                have fr4 := r4.frozen
                have lr4 := r4.lt
                (try rw [rounds_succ])
                go_wp2
                refine Grow.seal_wp ?_
                intro W2 hW
                clear cm fm lm cr3 fr3 lr3 cr4 fr4 lr4
                have g2 : Hid (Below w.heap.size w W2) := Lib.hid (by
                  rw [hW.out]
                  (repeat (with_reducible first | exact g.out | refine Grow.grow_setCell ?_ ?_ _ | refine Grow.grow_alloc ?_ _ | refine Grow.grow_drewN ?_ _ | refine Grow.grow_drew ?_)) <;> omega)
                apply Grow.have_known (W := W2)
                · rw [hW.out]
                  apply Known.at m
                  (repeat (with_reducible first | exact m | apply Known.same | apply Known.other | apply Known.alloc | apply Known.drewN | apply Known.drew)) <;> omega
                clear m
                intro m
                (try simp only [List.setIfInBounds_toArray, List.set_cons_zero, List.set_cons_succ] at m)
                apply Grow.have_known (W := W2)
                · rw [hW.out]
                  apply Known.at r3
                  (repeat (with_reducible first | exact r3 | apply Known.same | apply Known.other | apply Known.alloc | apply Known.drewN | apply Known.drew)) <;> omega
                clear r3
                intro r3
                (try simp only [List.setIfInBounds_toArray, List.set_cons_zero, List.set_cons_succ] at r3)
                apply Grow.have_known (W := W2)
                · rw [hW.out]
                  apply Known.at r4
                  (repeat (with_reducible first | exact r4 | apply Known.same | apply Known.other | apply Known.alloc | apply Known.drewN | apply Known.drew)) <;> omega
                clear r4
                intro r4
                (try simp only [List.setIfInBounds_toArray, List.set_cons_zero, List.set_cons_succ] at r4)
                apply Grow.have_known (W := W2) (b := W.heap.size)
                · rw [hW.out]
                  (repeat (with_reducible first | exact Known.new _ _ _ | (apply Known.new'; (first | rfl | (simp; done))) | apply Known.same | apply Known.other | apply Known.alloc | apply Known.drewN | apply Known.drew)) <;> omega
                intro r5
                (try simp only [List.setIfInBounds_toArray, List.set_cons_zero, List.set_cons_succ] at r5)
                clear hW g
                have g := g2
                clear g2
                have cm := m.cell
                have fm := m.frozen
                have lm := m.lt
                have cr3 := r3.cell
                have fr3 := r3.frozen
                have lr3 := r3.lt
                have cr4 := r4.cell
                have fr4 := r4.frozen
                have lr4 := r4.lt
                have cr5 := r5.cell
                have fr5 := r5.frozen
                have lr5 := r5.lt
                go_region
                all_goals
                  go_wp2
                  refine Grow.seal_wp ?_
                  intro W hW
                  clear cm fm lm cr3 fr3 lr3 cr4 fr4 lr4 cr5 fr5 lr5
                  have g2 : Hid (Below w.heap.size w W) := Lib.hid (by
                    rw [hW.out]
                    (repeat (with_reducible first | exact g.out | refine Grow.grow_setCell ?_ ?_ _ | refine Grow.grow_alloc ?_ _ | refine Grow.grow_drewN ?_ _ | refine Grow.grow_drew ?_)) <;> omega)
                  apply Grow.have_known (W := W)
                  · rw [hW.out]
                    apply Known.at m
                    (repeat (with_reducible first | exact m | apply Known.same | apply Known.other | apply Known.alloc | apply Known.drewN | apply Known.drew)) <;> omega
                  clear m
                  intro m
                  (try simp only [List.setIfInBounds_toArray, List.set_cons_zero, List.set_cons_succ] at m)
                  apply Grow.have_known (W := W)
                  · rw [hW.out]
                    apply Known.at r3
                    (repeat (with_reducible first | exact r3 | apply Known.same | apply Known.other | apply Known.alloc | apply Known.drewN | apply Known.drew)) <;> omega
                  clear r3
                  intro r3
                  (try simp only [List.setIfInBounds_toArray, List.set_cons_zero, List.set_cons_succ] at r3)
                  apply Grow.have_known (W := W)
                  · rw [hW.out]
                    apply Known.at r4
                    (repeat (with_reducible first | exact r4 | apply Known.same | apply Known.other | apply Known.alloc | apply Known.drewN | apply Known.drew)) <;> omega
                  clear r4
                  intro r4
                  (try simp only [List.setIfInBounds_toArray, List.set_cons_zero, List.set_cons_succ] at r4)
                  clear hW g
                  have g := g2
                  clear g2
                  have cm := m.cell
                  have fm := m.frozen
                  have lm := m.lt
                  have cr3 := r3.cell
                  have fr3 := r3.frozen
                  have lr3 := r3.lt
                  have cr4 := r4.cell
                  have fr4 := r4.frozen
                  have lr4 := r4.lt
                  (try rw [rounds_succ])
                  go_wp2
                  go_ret2
                  exact ⟨g.out, .inr ⟨HN.out, _, hb, rfl, Known.of_eq m (by simp [mCells, st0, errV_zero])⟩⟩

end Go.Proofs.YtlfpfeidaohjmaaDoor
