/- The mount's small functions: an axis goes on, the mount parks, where it stands, its reply. -/
import Derived.Test.YtlfpfeidaohjmaaDoorKno
import Derived.Test.YtlfpfeidaohjmaaDoorMo
import Derived.Test.YtlfpfeidaohjmaaDoorSen
import Derived.StillTailTactics
import Derived.Deep.RegionWith
import Derived.RegionTactic
import Derived.ChangeAlike
import Derived.IntWalk
set_option linter.unusedSimpArgs false
set_option linter.unusedVariables false
namespace Go.Proofs.YtlfpfeidaohjmaaDoor
open Go.RowKit Go.Grow Go.Mo

/-- The mount's cells. -/
def mCells (a : Nat → Addr) (s : St) : Array Value :=
  #[.int .i64 s.p.l.low, .int .i64 s.p.l.high, .int .i64 s.p.l.fast, .int .i64 s.p.l.home, .int .i64 s.p.at', .int .i64 s.p.to', .int .i64 s.p.by',
    .int .i64 s.q.l.low, .int .i64 s.q.l.high, .int .i64 s.q.l.fast, .int .i64 s.q.l.home, .int .i64 s.q.at', .int .i64 s.q.to', .int .i64 s.q.by',
    .int .i64 s.state, .int .i64 s.patience, .int .i64 s.quiet, .bool s.taken, .int .i64 s.number, errV a s.err]
/-- What a method that may write the mount at b leaves. -/
def Left (a : Nat → Addr) (b : Nat) (s : St) (w w' : World) : Prop := Known w' b (mCells a s) ∧ But b w w'
theorem Left.trans {a : Nat → Addr} {b : Nat} {s s' : St} {w w1 w2 : World} (h : Left a b s w w1) (k : Left a b s' w1 w2) : Left a b s' w w2 := ⟨k.1, h.2.trans k.2⟩
theorem Known.of_eq {w : World} {b : Nat} {c c' : Array Value} (h : Known w b c) (e : c = c') : Known w b c' := e ▸ h
theorem left_mk {a : Nat → Addr} {b : Nat} {s : St} {w w' : World} {c : Array Value} (h : Known w' b c) (e : c = mCells a s) (k : But b w w') : Left a b s w w' := ⟨e ▸ h, k⟩
theorem errV_or (a : Nat → Addr) (k : Nat) : errV a k = .nilIface ∨ ∃ u, errV a k = .iface 261 u := by
  unfold errV; split
  · exact .inl rfl
  · exact .inr ⟨_, rfl⟩
theorem ret_bool {b c : Bool} (h : b = c) : Ending.returned (.bool b) = .returned (.bool c) := by rw [h]

set_option maxRecDepth 100000 in
set_option maxHeartbeats 2000000 in
theorem goes_p (a : Nat → Addr) (b : Nat) (s : St) (hs : s.p.ok) (w : World) (q : Known w b (mCells a s)) :
    Calls Tryd.prog 72 #[.pointer (some ⟨b, 0, none⟩)] w fun e w' => e = .returned (.bool (there (goes s.p))) ∧ Left a b { s with p := goes s.p } w w' := by
  obtain ⟨⟨l1, l2, l3, l4, l5, l6⟩, h1, h2, h3, h4, h5, h6⟩ := hs
  have e1 : IntKind.i64.wrap (s.p.to' - s.p.at') = s.p.to' - s.p.at' := IntWalk.i64_in _ (by omega)
  have e2 : IntKind.i64.wrap (-s.p.l.fast) = -s.p.l.fast := IntWalk.i64_in _ (by omega)
  have e3 : IntKind.i64.wrap (s.p.at' + (s.p.to' - s.p.at')) = s.p.at' + (s.p.to' - s.p.at') := IntWalk.i64_in _ (by omega)
  have e4 : IntKind.i64.wrap (s.p.at' + s.p.l.fast) = s.p.at' + s.p.l.fast := IntWalk.i64_in _ (by omega)
  have e5 : IntKind.i64.wrap (s.p.at' + -s.p.l.fast) = s.p.at' + -s.p.l.fast := IntWalk.i64_in _ (by omega)
  have key : (s.p.l.fast ≤ s.p.to' - s.p.at' ∧ -s.p.l.fast < s.p.l.fast ∧ clamp (s.p.to' - s.p.at') s.p.l.fast = s.p.l.fast) ∨ (s.p.to' - s.p.at' < s.p.l.fast ∧ s.p.to' - s.p.at' ≤ -s.p.l.fast ∧ clamp (s.p.to' - s.p.at') s.p.l.fast = -s.p.l.fast) ∨ (-s.p.l.fast < s.p.to' - s.p.at' ∧ s.p.to' - s.p.at' < s.p.l.fast ∧ clamp (s.p.to' - s.p.at') s.p.l.fast = s.p.to' - s.p.at') := by
    unfold clamp; omega
  rcases key with ⟨g1, g3, g2⟩ | ⟨g1, g3, g2⟩ | ⟨g1, g3, g2⟩
  all_goals
    have G2 := Lib.hid g2
    clear g2
    unfold mCells at q
    have hc := q.cell
    have hf := q.frozen
    go_enter Tryd.func72, Tryd.ntmps72
    go_wp2
    go_still_tail 29, (by kernel_rfl)
    go_wp2
    go_quiet (fail)
    go_wp2
    go_ret
    refine ⟨ret_bool ?_, left_mk (c := (mCells a s).setIfInBounds 4 (.int .i64 (goes s.p).at')) ?_ ?_ ?_⟩
    · simp only [there, goes, G2.out]
      rw [Bool.eq_iff_iff]
      simp
    · rw [show (goes s.p).at' = s.p.at' + clamp (s.p.to' - s.p.at') s.p.l.fast from rfl, G2.out]
      unfold mCells
      (repeat (with_reducible first | exact q | apply Known.same | apply Known.alloc | apply Known.drewN | apply Known.drew))
    · rfl
    · (repeat (with_reducible first | exact But.refl _ _ | refine But.setCell ?_ _ _ | refine But.alloc ?_ _ | refine But.drewN ?_ _ | refine But.drew ?_))

set_option maxRecDepth 100000 in
set_option maxHeartbeats 2000000 in
theorem goes_q (a : Nat → Addr) (b : Nat) (s : St) (hs : s.q.ok) (w : World) (q : Known w b (mCells a s)) :
    Calls Tryd.prog 72 #[.pointer (some ⟨b, 7, none⟩)] w fun e w' => e = .returned (.bool (there (goes s.q))) ∧ Left a b { s with q := goes s.q } w w' := by
  obtain ⟨⟨l1, l2, l3, l4, l5, l6⟩, h1, h2, h3, h4, h5, h6⟩ := hs
  have e1 : IntKind.i64.wrap (s.q.to' - s.q.at') = s.q.to' - s.q.at' := IntWalk.i64_in _ (by omega)
  have e2 : IntKind.i64.wrap (-s.q.l.fast) = -s.q.l.fast := IntWalk.i64_in _ (by omega)
  have e3 : IntKind.i64.wrap (s.q.at' + (s.q.to' - s.q.at')) = s.q.at' + (s.q.to' - s.q.at') := IntWalk.i64_in _ (by omega)
  have e4 : IntKind.i64.wrap (s.q.at' + s.q.l.fast) = s.q.at' + s.q.l.fast := IntWalk.i64_in _ (by omega)
  have e5 : IntKind.i64.wrap (s.q.at' + -s.q.l.fast) = s.q.at' + -s.q.l.fast := IntWalk.i64_in _ (by omega)
  have key : (s.q.l.fast ≤ s.q.to' - s.q.at' ∧ -s.q.l.fast < s.q.l.fast ∧ clamp (s.q.to' - s.q.at') s.q.l.fast = s.q.l.fast) ∨ (s.q.to' - s.q.at' < s.q.l.fast ∧ s.q.to' - s.q.at' ≤ -s.q.l.fast ∧ clamp (s.q.to' - s.q.at') s.q.l.fast = -s.q.l.fast) ∨ (-s.q.l.fast < s.q.to' - s.q.at' ∧ s.q.to' - s.q.at' < s.q.l.fast ∧ clamp (s.q.to' - s.q.at') s.q.l.fast = s.q.to' - s.q.at') := by
    unfold clamp; omega
  rcases key with ⟨g1, g3, g2⟩ | ⟨g1, g3, g2⟩ | ⟨g1, g3, g2⟩
  all_goals
    have G2 := Lib.hid g2
    clear g2
    unfold mCells at q
    have hc := q.cell
    have hf := q.frozen
    go_enter Tryd.func72, Tryd.ntmps72
    go_wp2
    go_still_tail 29, (by kernel_rfl)
    go_wp2
    go_quiet (fail)
    go_wp2
    go_ret
    refine ⟨ret_bool ?_, left_mk (c := (mCells a s).setIfInBounds 11 (.int .i64 (goes s.q).at')) ?_ ?_ ?_⟩
    · simp only [there, goes, G2.out]
      rw [Bool.eq_iff_iff]
      simp
    · rw [show (goes s.q).at' = s.q.at' + clamp (s.q.to' - s.q.at') s.q.l.fast from rfl, G2.out]
      unfold mCells
      (repeat (with_reducible first | exact q | apply Known.same | apply Known.alloc | apply Known.drewN | apply Known.drew))
    · rfl
    · (repeat (with_reducible first | exact But.refl _ _ | refine But.setCell ?_ _ _ | refine But.alloc ?_ _ | refine But.drewN ?_ _ | refine But.drew ?_))

set_option maxRecDepth 100000 in
set_option maxHeartbeats 4000000 in
theorem park_walk (a : Nat → Addr) (b : Nat) (s : St) (w : World) (q : Known w b (mCells a s)) :
    Calls Tryd.prog 73 #[.pointer (some ⟨b, 0, none⟩)] w fun e w' => e = .returned (.tuple #[]) ∧ Left a b (Mo.park s) w w' := by
  unfold mCells at q
  have k := But.refl b w
  have cq := q.cell
  have fq := q.frozen
  have lq := q.lt
  go_enter Tryd.func73, Tryd.ntmps73
  go_wp2
  refine wp_loop_rounds 3 ?_
  rw [rounds_succ]
  go_wp2
  go_still_tail 14, (by kernel_rfl)
  go_wp2
  refine Grow.seal_wp ?_
  intro W hW
  clear cq fq lq
  have k2 : But b w W := by
    rw [hW.out]
    (repeat (with_reducible first | exact k | refine But.setCell ?_ _ _ | refine But.alloc ?_ _ | refine But.drewN ?_ _ | refine But.drew ?_ | refine But.fresh ?_ ?_ _ _)) <;> omega
  apply Grow.have_known (W := W)
  · rw [hW.out]
    apply Known.at q
    (repeat (with_reducible first | exact q | apply Known.same | apply Known.other | apply Known.alloc | apply Known.drewN | apply Known.drew)) <;> omega
  clear q
  intro q
  (try simp only [List.setIfInBounds_toArray, List.set_cons_zero, List.set_cons_succ] at q)
  clear hW k
  have k := k2
  clear k2
  have cq := q.cell
  have fq := q.frozen
  have lq := q.lt
  (try rw [rounds_succ])
  go_wp2
  go_still_tail 14, (by kernel_rfl)
  go_wp2
  refine Grow.seal_wp ?_
  intro W hW
  clear cq fq lq
  have k2 : But b w W := by
    rw [hW.out]
    (repeat (with_reducible first | exact k | refine But.setCell ?_ _ _ | refine But.alloc ?_ _ | refine But.drewN ?_ _ | refine But.drew ?_ | refine But.fresh ?_ ?_ _ _)) <;> omega
  apply Grow.have_known (W := W)
  · rw [hW.out]
    apply Known.at q
    (repeat (with_reducible first | exact q | apply Known.same | apply Known.other | apply Known.alloc | apply Known.drewN | apply Known.drew)) <;> omega
  clear q
  intro q
  (try simp only [List.setIfInBounds_toArray, List.set_cons_zero, List.set_cons_succ] at q)
  clear hW k
  have k := k2
  clear k2
  have cq := q.cell
  have fq := q.frozen
  have lq := q.lt
  (try rw [rounds_succ])
  go_wp2
  go_end0
  refine ⟨rfl, left_mk (q.same 14 _) rfl ?_⟩
  refine But.setCell k _ _

set_option maxRecDepth 100000 in
set_option maxHeartbeats 4000000 in
theorem at_walk (a : Nat → Addr) (b : Nat) (s : St) (w : World) (q : Known w b (mCells a s)) :
    Calls Tryd.prog 25 #[.pointer (some ⟨b, 0, none⟩)] w fun e w' => e = .returned (.tuple #[.int .i64 s.p.at', .int .i64 s.q.at']) ∧ Below w.heap.size w w' := by
  unfold mCells at q
  have hc := q.cell
  have hf := q.frozen
  go_enter Tryd.func25, Tryd.ntmps25
  go_wp2
  go_quiet (fail)
  go_wp2
  go_ret2
  refine ⟨rfl, ?_⟩
  (repeat (with_reducible first | exact Grow.grow_refl _ | refine Grow.grow_setCell ?_ ?_ _ | refine Grow.grow_alloc ?_ _ | refine Grow.grow_drewN ?_ _ | refine Grow.grow_drew ?_)) <;> (first | omega | (simp; done) | skip)

set_option maxRecDepth 100000 in
set_option maxHeartbeats 4000000 in
theorem state_walk (a : Nat → Addr) (b : Nat) (s : St) (w : World) (q : Known w b (mCells a s)) :
    Calls Tryd.prog 31 #[.pointer (some ⟨b, 0, none⟩)] w fun e w' => e = .returned (.int .i64 s.state) ∧ Below w.heap.size w w' := by
  unfold mCells at q
  have hc := q.cell
  have hf := q.frozen
  go_enter Tryd.func31, Tryd.ntmps31
  go_wp2
  go_ret
  refine ⟨rfl, ?_⟩
  (repeat (with_reducible first | exact Grow.grow_refl _ | refine Grow.grow_setCell ?_ ?_ _ | refine Grow.grow_alloc ?_ _ | refine Grow.grow_drewN ?_ _ | refine Grow.grow_drew ?_)) <;> (first | omega | (simp; done) | skip)

set_option maxRecDepth 100000 in
set_option maxHeartbeats 4000000 in
theorem reply_walk (a : Nat → Addr) (b : Nat) (s : St) (n : Int) (k : Nat) (w : World) (q : Known w b (mCells a s)) :
    Calls Tryd.prog 74 #[.pointer (some ⟨b, 0, none⟩), .int .i64 n, errV a k] w fun e w' => e = .returned (.agg #[.int .i64 n, errV a k, .int .i64 s.p.at', .int .i64 s.q.at', .int .i64 s.state]) ∧ Below w.heap.size w w' := by
  have hv := errV_or a k
  unfold mCells at q
  generalize errV a k = v at hv ⊢
  rcases hv with rfl | ⟨u, rfl⟩
  all_goals
    have g : Hid (Below w.heap.size w w) := Lib.hid (Below.refl _ _)
    have cq := q.cell
    have fq := q.frozen
    have lq := q.lt
    go_enter Tryd.func74, Tryd.ntmps74
    go_wp2
    refine Grow.seal_wp ?_
    intro W hW
    clear cq fq lq
    have g2 : Hid (Below w.heap.size w W) := Lib.hid (by
      rw [hW.out]
      (repeat (with_reducible first | exact g.out | refine Grow.grow_setCell ?_ ?_ _ | refine Grow.grow_alloc ?_ _ | refine Grow.grow_drewN ?_ _ | refine Grow.grow_drew ?_)) <;> omega)
    apply Grow.have_known (W := W)
    · rw [hW.out]
      apply Known.at q
      (repeat (with_reducible first | exact q | apply Known.same | apply Known.other | apply Known.alloc | apply Known.drewN | apply Known.drew)) <;> omega
    clear q
    intro q
    (try simp only [List.setIfInBounds_toArray, List.set_cons_zero, List.set_cons_succ] at q)
    apply Grow.have_known (W := W) (b := w.heap.size)
    · rw [hW.out]
      (repeat (with_reducible first | exact Known.new _ _ _ | (apply Known.new'; (first | rfl | (simp; done))) | apply Known.same | apply Known.other | apply Known.alloc | apply Known.drewN | apply Known.drew)) <;> omega
    intro r
    (try simp only [List.setIfInBounds_toArray, List.set_cons_zero, List.set_cons_succ] at r)
    clear hW g
    have g := g2
    clear g2
    have cq := q.cell
    have fq := q.frozen
    have lq := q.lt
    have cr := r.cell
    have fr := r.frozen
    have lr := r.lt
    go_still_tail 18, (by kernel_rfl)
    go_wp2
    refine bodyPost_ret (v := .agg #[.int .i64 n, _, .int .i64 s.p.at', .int .i64 s.q.at', .int .i64 s.state]) (by simp [results, Tryd.results74, go_sem, cr]) rfl ⟨rfl, ?_⟩
    (repeat (with_reducible first | exact g.out | refine Grow.grow_setCell ?_ ?_ _ | refine Grow.grow_alloc ?_ _ | refine Grow.grow_drewN ?_ _ | refine Grow.grow_drew ?_)) <;> omega

end Go.Proofs.YtlfpfeidaohjmaaDoor
