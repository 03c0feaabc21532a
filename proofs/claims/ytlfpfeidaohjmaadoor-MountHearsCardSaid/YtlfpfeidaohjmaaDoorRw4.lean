/- The document's mount takes a command; a new one. -/
import Derived.Test.YtlfpfeidaohjmaaDoorRw3
set_option linter.unusedSimpArgs false
set_option linter.unusedVariables false
namespace Go.Proofs.YtlfpfeidaohjmaaDoor
open Go.RowKit Go.Grow Go.Mo

/-- The document's reply as a value. -/
def repZ (r : Rep) : Value := .agg #[.int .i64 r.number, .int .i64 r.err, .int .i64 r.a, .int .i64 r.b, .int .i64 r.state]

set_option maxRecDepth 100000 in
set_option maxHeartbeats 4000000 in
theorem rreply_walk (b : Nat) (m0 : Rf) (n : Int) (c : Nat) (w : World) (q : Known w b (rCells m0)) :
    Calls Tryd.prog 85 #[.pointer (some ⟨b, 0, none⟩), .int .i64 n, .int .i64 c] w fun e w' => e = .returned (.agg #[.int .i64 n, .int .i64 c, .int .i64 m0.x, .int .i64 m0.y, .int .i64 m0.state]) ∧ Below w.heap.size w w' := by
  unfold rCells at q
  have g : Hid (Below w.heap.size w w) := Lib.hid (Below.refl _ _)
  have cq := q.cell
  have fq := q.frozen
  have lq := q.lt
  go_enter Tryd.func85, Tryd.ntmps85
  go_wp2
  refine Grow.seal_wp ?_
  intro W hW
  clear cq fq lq
  have g2 : Hid (Below w.heap.size w W) := Lib.hid (by
    rw [hW.out]
    (repeat (with_reducible first | exact g.out | refine Grow.grow_setCell ?_ ?_ _ | refine Grow.grow_alloc ?_ _ | refine Grow.grow_drewN ?_ _ | refine Grow.grow_drew ?_)) <;> omega)
  apply Grow.have_known (W := W)
  · rw [hW.out]
    apply Known.at q
    (repeat (with_reducible first | exact q | apply Known.same | apply Known.other | apply Known.alloc | apply Known.drewN | apply Known.drew)) <;> omega
  clear q
  intro q
  (try simp only [List.setIfInBounds_toArray, List.set_cons_zero, List.set_cons_succ] at q)
  apply Grow.have_known (W := W) (b := w.heap.size)
  · rw [hW.out]
    (repeat (with_reducible first | exact Known.new _ _ _ | (apply Known.new'; (first | rfl | (simp; done))) | apply Known.same | apply Known.other | apply Known.alloc | apply Known.drewN | apply Known.drew)) <;> omega
  intro r
  (try simp only [List.setIfInBounds_toArray, List.set_cons_zero, List.set_cons_succ] at r)
  clear hW g
  have g := g2
  clear g2
  have cq := q.cell
  have fq := q.frozen
  have lq := q.lt
  have cr := r.cell
  have fr := r.frozen
  have lr := r.lt
  go_still_tail 15, (by kernel_rfl)
  go_wp2
  refine bodyPost_ret (v := .agg #[.int .i64 n, .int .i64 c, .int .i64 m0.x, .int .i64 m0.y, .int .i64 m0.state]) (by simp [results, Tryd.results85, go_sem, cr]) rfl ⟨rfl, ?_⟩
  (repeat (with_reducible first | exact g.out | refine Grow.grow_setCell ?_ ?_ _ | refine Grow.grow_alloc ?_ _ | refine Grow.grow_drewN ?_ _ | refine Grow.grow_drew ?_)) <;> omega

set_option maxRecDepth 100000 in
set_option maxHeartbeats 4000000 in
theorem rtake_same (b : Nat) (m0 : Rf) (hm : RB m0) (n x y : Int) (c : ByteArray) (w : World) (m : Known w b (rCells m0)) (hta : m0.taken = true) (hn : n = m0.number) :
    Calls Tryd.prog 38 #[.pointer (some ⟨b, 0, none⟩), cmdV n c x y] w fun e w' => e = .returned (repZ (rreply m0 n m0.code)) ∧ RLeft b m0 w w' := by
  obtain ⟨a, b', mx, my, p, q, st, pa, qu, ta, nu, er⟩ := m0
  simp only at hta hn
  unfold rCells at m
  simp only at m
  have hbw := m.lt
  have k := But.refl b w
  subst hta
  have g1 : (n == nu) = true := by simp [hn]
  clear hn
  have cm := m.cell
  have fm := m.frozen
  have lm := m.lt
  unfold cmdV
  go_enter Tryd.func38, Tryd.ntmps38
  go_wp2
  refine Grow.seal_wp ?_
  intro W hW
  clear cm fm lm
  have k2 : But b w W := by
    rw [hW.out]
    (repeat (with_reducible first | exact k | refine But.setCell ?_ _ _ | refine But.alloc ?_ _ | refine But.drewN ?_ _ | refine But.drew ?_ | refine But.fresh ?_ ?_ _ _)) <;> omega
  apply Grow.have_known (W := W)
  · rw [hW.out]
    apply Known.at m
    (repeat (with_reducible first | exact m | apply Known.same | apply Known.other | apply Known.alloc | apply Known.drewN | apply Known.drew)) <;> omega
  clear m
  intro m
  (try simp only [List.setIfInBounds_toArray, List.set_cons_zero, List.set_cons_succ] at m)
  apply Grow.have_known (W := W) (b := w.heap.size)
  · rw [hW.out]
    (repeat (with_reducible first | exact Known.new _ _ _ | (apply Known.new'; (first | rfl | (simp; done))) | apply Known.same | apply Known.other | apply Known.alloc | apply Known.drewN | apply Known.drew)) <;> omega
  intro r3
  (try simp only [List.setIfInBounds_toArray, List.set_cons_zero, List.set_cons_succ] at r3)
  apply Grow.have_known (W := W) (b := w.heap.size + 1)
  · rw [hW.out]
    (repeat (with_reducible first | exact Known.new _ _ _ | (apply Known.new'; (first | rfl | (simp; done))) | apply Known.same | apply Known.other | apply Known.alloc | apply Known.drewN | apply Known.drew)) <;> omega
  intro r4
  (try simp only [List.setIfInBounds_toArray, List.set_cons_zero, List.set_cons_succ] at r4)
  clear hW k
  have k := k2
  clear k2
  have cm := m.cell
  have fm := m.frozen
  have lm := m.lt
  have cr3 := r3.cell
  have fr3 := r3.frozen
  have lr3 := r3.lt
  have cr4 := r4.cell
  have fr4 := r4.frozen
  have lr4 := r4.lt
  go_quiet (fail)
  go_wp2
  refine Grow.seal_wp ?_
  intro W hW
  clear cm fm lm cr3 fr3 lr3 cr4 fr4 lr4
  have k2 : But b w W := by
    rw [hW.out]
    (repeat (with_reducible first | exact k | refine But.setCell ?_ _ _ | refine But.alloc ?_ _ | refine But.drewN ?_ _ | refine But.drew ?_ | refine But.fresh ?_ ?_ _ _)) <;> omega
  apply Grow.have_known (W := W)
  · rw [hW.out]
    apply Known.at m
    (repeat (with_reducible first | exact m | apply Known.same | apply Known.other | apply Known.alloc | apply Known.drewN | apply Known.drew)) <;> omega
  clear m
  intro m
  (try simp only [List.setIfInBounds_toArray, List.set_cons_zero, List.set_cons_succ] at m)
  apply Grow.have_known (W := W)
  · rw [hW.out]
    apply Known.at r3
    (repeat (with_reducible first | exact r3 | apply Known.same | apply Known.other | apply Known.alloc | apply Known.drewN | apply Known.drew)) <;> omega
  clear r3
  intro r3
  (try simp only [List.setIfInBounds_toArray, List.set_cons_zero, List.set_cons_succ] at r3)
  apply Grow.have_known (W := W)
  · rw [hW.out]
    apply Known.at r4
    (repeat (with_reducible first | exact r4 | apply Known.same | apply Known.other | apply Known.alloc | apply Known.drewN | apply Known.drew)) <;> omega
  clear r4
  intro r4
  (try simp only [List.setIfInBounds_toArray, List.set_cons_zero, List.set_cons_succ] at r4)
  clear hW k
  have k := k2
  clear k2
  have cm := m.cell
  have fm := m.frozen
  have lm := m.lt
  have cr3 := r3.cell
  have fr3 := r3.frozen
  have lr3 := r3.lt
  have cr4 := r4.cell
  have fr4 := r4.frozen
  have lr4 := r4.lt
  go_still_tail 7, (by kernel_rfl)
  go_wp2_with (go_at_call 85; refine (rreply_walk b ⟨a, b', mx, my, p, q, st, pa, qu, true, nu, er⟩ _ er _ ?_).mono ?_; exact Known.drew m; rintro e w1 ⟨rfl, hB⟩; have HB := Lib.hid hB; clear hB; clear cm fm lm cr3 fr3 lr3 cr4 fr4 lr4; replace m := (Known.drew m).below HB.out; replace r4 := (Known.drew r4).below HB.out; replace k := (k.drew).trans (But.of_below HB.out); have cm := m.cell; have fm := m.frozen; have lm := m.lt; have cr4 := r4.cell; have fr4 := r4.frozen; have lr4 := r4.lt)
  apply bodyPost_ret
  · simp [results, Tryd.results38, go_sem, cr4, fr4]; rfl
  · rfl
  · refine ⟨?_, ?_, ?_⟩
    · simp [repZ, rreply]
    · apply Known.of_eq
      · apply Known.at m
        (repeat (with_reducible first | exact m | apply Known.same | apply Known.other | apply Known.alloc | apply Known.drewN | apply Known.drew)) <;> omega
      · simp [rCells]
    · (repeat (with_reducible first | exact k | refine But.setCell ?_ _ _ | refine But.alloc ?_ _ | refine But.drewN ?_ _ | refine But.drew ?_ | refine But.fresh ?_ ?_ _ _)) <;> omega

set_option maxRecDepth 100000 in
set_option maxHeartbeats 4000000 in
theorem rtake_old (b : Nat) (m0 : Rf) (hm : RB m0) (n x y : Int) (c : ByteArray) (w : World) (m : Known w b (rCells m0)) (hta : m0.taken = true) (hn : n < m0.number) :
    Calls Tryd.prog 38 #[.pointer (some ⟨b, 0, none⟩), cmdV n c x y] w fun e w' => e = .returned (repZ (rreply m0 n 7)) ∧ RLeft b m0 w w' := by
  obtain ⟨a, b', mx, my, p, q, st, pa, qu, ta, nu, er⟩ := m0
  simp only at hta hn
  unfold rCells at m
  simp only at m
  have hbw := m.lt
  have k := But.refl b w
  subst hta
  have g1 : (n == nu) = false := by simp; omega
  have g2 : decide (n < nu) = true := decide_eq_true hn
  have cm := m.cell
  have fm := m.frozen
  have lm := m.lt
  unfold cmdV
  go_enter Tryd.func38, Tryd.ntmps38
  go_wp2
  refine Grow.seal_wp ?_
  intro W hW
  clear cm fm lm
  have k2 : But b w W := by
    rw [hW.out]
    (repeat (with_reducible first | exact k | refine But.setCell ?_ _ _ | refine But.alloc ?_ _ | refine But.drewN ?_ _ | refine But.drew ?_ | refine But.fresh ?_ ?_ _ _)) <;> omega
  apply Grow.have_known (W := W)
  · rw [hW.out]
    apply Known.at m
    (repeat (with_reducible first | exact m | apply Known.same | apply Known.other | apply Known.alloc | apply Known.drewN | apply Known.drew)) <;> omega
  clear m
  intro m
  (try simp only [List.setIfInBounds_toArray, List.set_cons_zero, List.set_cons_succ] at m)
  apply Grow.have_known (W := W) (b := w.heap.size)
  · rw [hW.out]
    (repeat (with_reducible first | exact Known.new _ _ _ | (apply Known.new'; (first | rfl | (simp; done))) | apply Known.same | apply Known.other | apply Known.alloc | apply Known.drewN | apply Known.drew)) <;> omega
  intro r3
  (try simp only [List.setIfInBounds_toArray, List.set_cons_zero, List.set_cons_succ] at r3)
  apply Grow.have_known (W := W) (b := w.heap.size + 1)
  · rw [hW.out]
    (repeat (with_reducible first | exact Known.new _ _ _ | (apply Known.new'; (first | rfl | (simp; done))) | apply Known.same | apply Known.other | apply Known.alloc | apply Known.drewN | apply Known.drew)) <;> omega
  intro r4
  (try simp only [List.setIfInBounds_toArray, List.set_cons_zero, List.set_cons_succ] at r4)
  clear hW k
  have k := k2
  clear k2
  have cm := m.cell
  have fm := m.frozen
  have lm := m.lt
  have cr3 := r3.cell
  have fr3 := r3.frozen
  have lr3 := r3.lt
  have cr4 := r4.cell
  have fr4 := r4.frozen
  have lr4 := r4.lt
  go_quiet (fail)
  go_wp2
  refine Grow.seal_wp ?_
  intro W hW
  clear cm fm lm cr3 fr3 lr3 cr4 fr4 lr4
  have k2 : But b w W := by
    rw [hW.out]
    (repeat (with_reducible first | exact k | refine But.setCell ?_ _ _ | refine But.alloc ?_ _ | refine But.drewN ?_ _ | refine But.drew ?_ | refine But.fresh ?_ ?_ _ _)) <;> omega
  apply Grow.have_known (W := W)
  · rw [hW.out]
    apply Known.at m
    (repeat (with_reducible first | exact m | apply Known.same | apply Known.other | apply Known.alloc | apply Known.drewN | apply Known.drew)) <;> omega
  clear m
  intro m
  (try simp only [List.setIfInBounds_toArray, List.set_cons_zero, List.set_cons_succ] at m)
  apply Grow.have_known (W := W)
  · rw [hW.out]
    apply Known.at r3
    (repeat (with_reducible first | exact r3 | apply Known.same | apply Known.other | apply Known.alloc | apply Known.drewN | apply Known.drew)) <;> omega
  clear r3
  intro r3
  (try simp only [List.setIfInBounds_toArray, List.set_cons_zero, List.set_cons_succ] at r3)
  apply Grow.have_known (W := W)
  · rw [hW.out]
    apply Known.at r4
    (repeat (with_reducible first | exact r4 | apply Known.same | apply Known.other | apply Known.alloc | apply Known.drewN | apply Known.drew)) <;> omega
  clear r4
  intro r4
  (try simp only [List.setIfInBounds_toArray, List.set_cons_zero, List.set_cons_succ] at r4)
  clear hW k
  have k := k2
  clear k2
  have cm := m.cell
  have fm := m.frozen
  have lm := m.lt
  have cr3 := r3.cell
  have fr3 := r3.frozen
  have lr3 := r3.lt
  have cr4 := r4.cell
  have fr4 := r4.frozen
  have lr4 := r4.lt
  go_quiet (fail)
  go_wp2_with (go_at_call 85; refine (rreply_walk b ⟨a, b', mx, my, p, q, st, pa, qu, true, nu, er⟩ _ 7 _ ?_).mono ?_; exact m.drewN _; rintro e w1 ⟨rfl, hB⟩; have HB := Lib.hid hB; clear hB; clear cm fm lm cr3 fr3 lr3 cr4 fr4 lr4; replace m := (m.drewN _).below HB.out; replace r4 := (r4.drewN _).below HB.out; replace k := (k.drewN _).trans (But.of_below HB.out); have cm := m.cell; have fm := m.frozen; have lm := m.lt; have cr4 := r4.cell; have fr4 := r4.frozen; have lr4 := r4.lt)
  apply bodyPost_ret
  · simp [results, Tryd.results38, go_sem, cr4, fr4]; rfl
  · rfl
  · refine ⟨?_, ?_, ?_⟩
    · simp [repZ, rreply]
    · apply Known.of_eq
      · apply Known.at m
        (repeat (with_reducible first | exact m | apply Known.same | apply Known.other | apply Known.alloc | apply Known.drewN | apply Known.drew)) <;> omega
      · simp [rCells]
    · (repeat (with_reducible first | exact k | refine But.setCell ?_ _ _ | refine But.alloc ?_ _ | refine But.drewN ?_ _ | refine But.drew ?_ | refine But.fresh ?_ ?_ _ _)) <;> omega

end Go.Proofs.YtlfpfeidaohjmaaDoor
