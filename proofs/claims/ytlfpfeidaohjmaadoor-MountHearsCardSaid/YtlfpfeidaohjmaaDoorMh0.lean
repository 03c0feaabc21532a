/- A sender of commands: its methods. -/
import Derived.Test.YtlfpfeidaohjmaaDoorMw6
set_option linter.unusedSimpArgs false
set_option linter.unusedVariables false
namespace Go.Proofs.YtlfpfeidaohjmaaDoor
open Go.RowKit Go.Grow Go.Mo

/-- A sender's cells. -/
def sCells (n : Int) (c : ByteArray) (x y : Int) (h : Bool) : Array Value := #[.int .i64 n, .string c, .int .i64 x, .int .i64 y, .bool h]
def SLeft (b : Nat) (n : Int) (c : ByteArray) (x y : Int) (h : Bool) (w w' : World) : Prop := Known w' b (sCells n c x y h) ∧ But b w w'
def SMade (w : World) (e : Ending) (w' : World) : Prop := ∃ b, w.heap.size ≤ b ∧ e = .returned (.pointer (some ⟨b, 0, none⟩)) ∧ Known w' b (sCells 0 ⟨#[]⟩ 0 0 true) ∧ Below w.heap.size w w'

set_option maxRecDepth 100000 in
set_option maxHeartbeats 4000000 in
theorem newSender_walk (w : World) : Calls Tryd.prog 43 #[] w (SMade w) := by
  go_enter Tryd.func43, Tryd.ntmps43
  go_wp2
  go_ret
  refine ⟨_, Nat.le_refl _, rfl, ?_, ?_⟩
  · apply Known.of_eq
    · apply Known.new
    · rfl
  · exact grow_alloc (grow_refl _) _

set_option maxRecDepth 100000 in
set_option maxHeartbeats 4000000 in
theorem again_yes (b : Nat) (n x y : Int) (c : ByteArray) (w : World) (q : Known w b (sCells n c x y true)) :
    Calls Tryd.prog 44 #[.pointer (some ⟨b, 0, none⟩)] w fun e w' => e = .returned (.tuple #[.agg #[.int .i64 0, .string ⟨#[]⟩, .int .i64 0, .int .i64 0], .bool false]) ∧ Below w.heap.size w w' := by
  unfold sCells at q
  have g : Hid (Below w.heap.size w w) := Lib.hid (Below.refl _ _)
  have cq := q.cell
  have fq := q.frozen
  have lq := q.lt
  go_enter Tryd.func44, Tryd.ntmps44
  go_wp2
  refine bodyPost_ret (v := .tuple #[.agg #[.int .i64 0, .string ⟨#[]⟩, .int .i64 0, .int .i64 0], .bool false]) (by simp [results, Tryd.results44, go_sem]) rfl ⟨rfl, ?_⟩
  (repeat (with_reducible first | exact g.out | exact Grow.grow_refl _ | refine Grow.grow_setCell ?_ ?_ _ | refine Grow.grow_alloc ?_ _ | refine Grow.grow_drewN ?_ _ | refine Grow.grow_drew ?_)) <;> (first | omega | (simp; done))

set_option maxRecDepth 100000 in
set_option maxHeartbeats 4000000 in
theorem again_no (b : Nat) (n x y : Int) (c : ByteArray) (w : World) (q : Known w b (sCells n c x y false)) :
    Calls Tryd.prog 44 #[.pointer (some ⟨b, 0, none⟩)] w fun e w' => e = .returned (.tuple #[.agg #[.int .i64 n, .string c, .int .i64 x, .int .i64 y], .bool true]) ∧ Below w.heap.size w w' := by
  unfold sCells at q
  have g : Hid (Below w.heap.size w w) := Lib.hid (Below.refl _ _)
  have cq := q.cell
  have fq := q.frozen
  have lq := q.lt
  go_enter Tryd.func44, Tryd.ntmps44
  go_wp2
  refine bodyPost_ret (v := .tuple #[.agg #[.int .i64 n, .string c, .int .i64 x, .int .i64 y], .bool true]) (by simp [results, Tryd.results44, go_sem]) rfl ⟨rfl, ?_⟩
  (repeat (with_reducible first | exact g.out | exact Grow.grow_refl _ | refine Grow.grow_setCell ?_ ?_ _ | refine Grow.grow_alloc ?_ _ | refine Grow.grow_drewN ?_ _ | refine Grow.grow_drew ?_)) <;> (first | omega | (simp; done))

set_option maxRecDepth 100000 in
set_option maxHeartbeats 4000000 in
theorem ask_walk (b : Nat) (n x0 y0 x y : Int) (c0 c : ByteArray) (h : Bool) (hn : 0 ≤ n) (hn1 : n ≤ 4611686018427387904) (w : World) (q : Known w b (sCells n c0 x0 y0 h)) :
    Calls Tryd.prog 45 #[.pointer (some ⟨b, 0, none⟩), .string c, .int .i64 x, .int .i64 y] w fun e w' => e = .returned (.agg #[.int .i64 (n + 1), .string c, .int .i64 x, .int .i64 y]) ∧ SLeft b (n + 1) c x y false w w' := by
  unfold sCells at q
  have hbw := q.lt
  have k := But.refl b w
  have en : IntKind.i64.wrap (n + 1) = n + 1 := IntWalk.i64_in _ (by omega)
  have cq := q.cell
  have fq := q.frozen
  have lq := q.lt
  go_enter Tryd.func45, Tryd.ntmps45
  go_upto_region 1 with (fail)
  refine Grow.seal_wp ?_
  intro W hW
  clear cq fq lq
  have k2 : But b w W := by
    rw [hW.out]
    (repeat (with_reducible first | exact k | refine But.setCell ?_ _ _ | refine But.alloc ?_ _ | refine But.drewN ?_ _ | refine But.drew ?_ | refine But.fresh ?_ ?_ _ _)) <;> omega
  apply Grow.have_known (W := W)
  · rw [hW.out]
    apply Known.at q
    (repeat (with_reducible first | exact q | apply Known.same | apply Known.other | apply Known.alloc | apply Known.drewN | apply Known.drew)) <;> omega
  clear q
  intro q
  (try simp only [List.setIfInBounds_toArray, List.set_cons_zero, List.set_cons_succ] at q)
  apply Grow.have_known (W := W) (b := w.heap.size)
  · rw [hW.out]
    (repeat (with_reducible first | exact Known.new _ _ _ | (apply Known.new'; (first | rfl | (simp; done))) | apply Known.same | apply Known.other | apply Known.alloc | apply Known.drewN | apply Known.drew)) <;> omega
  intro r
  (try simp only [List.setIfInBounds_toArray, List.set_cons_zero, List.set_cons_succ] at r)
  clear hW k
  have k := k2
  clear k2
  have cq := q.cell
  have fq := q.frozen
  have lq := q.lt
  have cr := r.cell
  have fr := r.frozen
  have lr := r.lt
  go_upto_region 2 with (fail)
  refine Grow.seal_wp ?_
  intro W hW
  clear cq fq lq cr fr lr
  have k2 : But b w W := by
    rw [hW.out]
    (repeat (with_reducible first | exact k | refine But.setCell ?_ _ _ | refine But.alloc ?_ _ | refine But.drewN ?_ _ | refine But.drew ?_ | refine But.fresh ?_ ?_ _ _)) <;> omega
  apply Grow.have_known (W := W)
  · rw [hW.out]
    apply Known.at q
    (repeat (with_reducible first | exact q | apply Known.same | apply Known.other | apply Known.alloc | apply Known.drewN | apply Known.drew)) <;> omega
  clear q
  intro q
  (try simp only [List.setIfInBounds_toArray, List.set_cons_zero, List.set_cons_succ] at q)
  apply Grow.have_known (W := W)
  · rw [hW.out]
    apply Known.at r
    (repeat (with_reducible first | exact r | apply Known.same | apply Known.other | apply Known.alloc | apply Known.drewN | apply Known.drew)) <;> omega
  clear r
  intro r
  (try simp only [List.setIfInBounds_toArray, List.set_cons_zero, List.set_cons_succ] at r)
  clear hW k
  have k := k2
  clear k2
  have cq := q.cell
  have fq := q.frozen
  have lq := q.lt
  have cr := r.cell
  have fr := r.frozen
  have lr := r.lt
  go_wp2
  refine bodyPost_ret (v := .agg #[.int .i64 (n + 1), .string c, .int .i64 x, .int .i64 y]) (by simp [results, Tryd.results45, go_sem, cr]) rfl ⟨rfl, ?_, ?_⟩
  · apply Known.of_eq
    · apply Known.at q
      (repeat (with_reducible first | exact q | apply Known.same | apply Known.other | apply Known.alloc | apply Known.drewN | apply Known.drew)) <;> (first | omega | (simp; omega))
    · simp [sCells]
  · (repeat (with_reducible first | exact k | exact But.refl _ _ | refine But.setCell ?_ _ _ | refine But.alloc ?_ _ | refine But.drewN ?_ _ | refine But.drew ?_ | refine But.fresh ?_ ?_ _ _)) <;> (first | omega | (simp; done))

set_option maxRecDepth 100000 in
set_option maxHeartbeats 4000000 in
theorem hear_yes (b : Nat) (n x y : Int) (c : ByteArray) (v : Value) (hv : v = .nilIface ∨ ∃ u, v = .iface 261 u) (z1 z2 z3 : Int) (w : World) (q : Known w b (sCells n c x y false)) :
    Calls Tryd.prog 46 #[.pointer (some ⟨b, 0, none⟩), .agg #[.int .i64 n, v, .int .i64 z1, .int .i64 z2, .int .i64 z3]] w fun e w' => e = .returned (.bool true) ∧ SLeft b n c x y true w w' := by
  unfold sCells at q
  have hbw := q.lt
  have k := But.refl b w
  rcases hv with rfl | ⟨u, rfl⟩
  all_goals
    have cq := q.cell
    have fq := q.frozen
    have lq := q.lt
    go_enter Tryd.func46, Tryd.ntmps46
    go_wp2
    refine Grow.seal_wp ?_
    intro W hW
    clear cq fq lq
    have k2 : But b w W := by
      rw [hW.out]
      (repeat (with_reducible first | exact k | refine But.setCell ?_ _ _ | refine But.alloc ?_ _ | refine But.drewN ?_ _ | refine But.drew ?_ | refine But.fresh ?_ ?_ _ _)) <;> omega
    apply Grow.have_known (W := W)
    · rw [hW.out]
      apply Known.at q
      (repeat (with_reducible first | exact q | apply Known.same | apply Known.other | apply Known.alloc | apply Known.drewN | apply Known.drew)) <;> omega
    clear q
    intro q
    (try simp only [List.setIfInBounds_toArray, List.set_cons_zero, List.set_cons_succ] at q)
    apply Grow.have_known (W := W) (b := w.heap.size)
    · rw [hW.out]
      (repeat (with_reducible first | exact Known.new _ _ _ | (apply Known.new'; (first | rfl | (simp; done))) | apply Known.same | apply Known.other | apply Known.alloc | apply Known.drewN | apply Known.drew)) <;> omega
    intro r
    (try simp only [List.setIfInBounds_toArray, List.set_cons_zero, List.set_cons_succ] at r)
    clear hW k
    have k := k2
    clear k2
    have cq := q.cell
    have fq := q.frozen
    have lq := q.lt
    have cr := r.cell
    have fr := r.frozen
    have lr := r.lt
    go_quiet (fail)
    go_wp2
    go_ret
    refine ⟨rfl, ?_, ?_⟩
    · apply Known.of_eq
      · apply Known.at q
        (repeat (with_reducible first | exact q | apply Known.same | apply Known.other | apply Known.alloc | apply Known.drewN | apply Known.drew)) <;> (first | omega | (simp; omega))
      · simp [sCells]
    · (repeat (with_reducible first | exact k | exact But.refl _ _ | refine But.setCell ?_ _ _ | refine But.alloc ?_ _ | refine But.drewN ?_ _ | refine But.drew ?_ | refine But.fresh ?_ ?_ _ _)) <;> (first | omega | (simp; done))

set_option maxRecDepth 100000 in
set_option maxHeartbeats 4000000 in
theorem hear_no (b : Nat) (n x y : Int) (c : ByteArray) (v : Value) (hv : v = .nilIface ∨ ∃ u, v = .iface 261 u) (z0 z1 z2 z3 : Int) (w : World) (q : Known w b (sCells n c x y true)) :
    Calls Tryd.prog 46 #[.pointer (some ⟨b, 0, none⟩), .agg #[.int .i64 z0, v, .int .i64 z1, .int .i64 z2, .int .i64 z3]] w fun e w' => e = .returned (.bool false) ∧ Below w.heap.size w w' := by
  unfold sCells at q
  have g : Hid (Below w.heap.size w w) := Lib.hid (Below.refl _ _)
  rcases hv with rfl | ⟨u, rfl⟩
  all_goals
    have cq := q.cell
    have fq := q.frozen
    have lq := q.lt
    go_enter Tryd.func46, Tryd.ntmps46
    go_wp2
    refine Grow.seal_wp ?_
    intro W hW
    clear cq fq lq
    have g2 : Hid (Below w.heap.size w W) := Lib.hid (by
      rw [hW.out]
      (repeat (with_reducible first | exact g.out | refine Grow.grow_setCell ?_ ?_ _ | refine Grow.grow_alloc ?_ _ | refine Grow.grow_drewN ?_ _ | refine Grow.grow_drew ?_)) <;> omega)
    apply Grow.have_known (W := W)
    · rw [hW.out]
      apply Known.at q
      (repeat (with_reducible first | exact q | apply Known.same | apply Known.other | apply Known.alloc | apply Known.drewN | apply Known.drew)) <;> omega
    clear q
    intro q
    (try simp only [List.setIfInBounds_toArray, List.set_cons_zero, List.set_cons_succ] at q)
    apply Grow.have_known (W := W) (b := w.heap.size)
    · rw [hW.out]
      (repeat (with_reducible first | exact Known.new _ _ _ | (apply Known.new'; (first | rfl | (simp; done))) | apply Known.same | apply Known.other | apply Known.alloc | apply Known.drewN | apply Known.drew)) <;> omega
    intro r
    (try simp only [List.setIfInBounds_toArray, List.set_cons_zero, List.set_cons_succ] at r)
    clear hW g
    have g := g2
    clear g2
    have cq := q.cell
    have fq := q.frozen
    have lq := q.lt
    have cr := r.cell
    have fr := r.frozen
    have lr := r.lt
    go_quiet (fail)
    go_wp2
    go_ret
    refine ⟨rfl, ?_⟩
    (repeat (with_reducible first | exact g.out | exact Grow.grow_refl _ | refine Grow.grow_setCell ?_ ?_ _ | refine Grow.grow_alloc ?_ _ | refine Grow.grow_drewN ?_ _ | refine Grow.grow_drew ?_)) <;> (first | omega | (simp; done))

/-- A command that was taken, taken once more. -/
theorem take_twice (s : St) (n : Int) (k : Kind) (x y : Int) (h : s.taken = false ∨ s.number < n) : take (take s n k x y).1 n k x y = take s n k x y ∧ (take s n k x y).2.number = n := by
  have e : take s n k x y = ({ (done { s with taken := true, number := n, quiet := 0 } k x y).2 with err := (done { s with taken := true, number := n, quiet := 0 } k x y).1 }, reply (done { s with taken := true, number := n, quiet := 0 } k x y).2 n (done { s with taken := true, number := n, quiet := 0 } k x y).1) := by
    unfold take
    rcases h with h | h
    · rw [h]; rfl
    · rw [if_neg (by simp; omega), if_neg (by simp; omega)]
  have hd : ∀ t : St, (done t k x y).2.taken = t.taken ∧ (done t k x y).2.number = t.number := by
    intro t
    cases k <;> simp only [done] <;> (try split) <;> (try split) <;> first | exact ⟨rfl, rfl⟩ | exact ⟨trivial, trivial⟩ | simp
  obtain ⟨h1, h2⟩ := hd { s with taken := true, number := n, quiet := 0 }
  rw [e]
  generalize done { s with taken := true, number := n, quiet := 0 } k x y = D at h1 h2
  obtain ⟨d1, d2⟩ := D
  refine ⟨?_, rfl⟩
  unfold take
  simp only at h1 h2 ⊢
  rw [h1, h2]
  simp [reply]

theorem take_num (s : St) (n : Int) (k : Kind) (x y : Int) (h : s.taken = false ∨ s.number < n) : (take s n k x y).1.number = n := by
  have e : (take s n k x y).1 = { (done { s with taken := true, number := n, quiet := 0 } k x y).2 with err := (done { s with taken := true, number := n, quiet := 0 } k x y).1 } := by
    unfold take
    rcases h with h | h
    · rw [h]; rfl
    · rw [if_neg (by simp; omega), if_neg (by simp; omega)]
  have hd : ∀ t : St, (done t k x y).2.number = t.number := by
    intro t
    cases k <;> simp only [done] <;> (try split) <;> (try split) <;> first | rfl | simp
  rw [e]
  exact hd _

theorem step_num (s : St) : (Mo.step s).number = s.number := by
  unfold Mo.step
  split
  · rfl
  · split
    · split <;> rfl
    · rfl
theorem tick_num (s : St) : (tick s).number = s.number := by
  unfold tick late
  split
  · exact step_num s
  · exact step_num s

end Go.Proofs.YtlfpfeidaohjmaaDoor
