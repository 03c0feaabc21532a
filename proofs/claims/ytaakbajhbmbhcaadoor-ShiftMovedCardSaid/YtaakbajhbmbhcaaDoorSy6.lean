/- How far a picture is moved: where nothing is told. -/
import Derived.Test.YtaakbajhbmbhcaaDoorSy5
set_option linter.unusedSimpArgs false
set_option linter.unusedVariables false
namespace Go.Proofs.YtaakbajhbmbhcaaDoor
open Go.RowKit Go.Grow

theorem err_pos (a : Nat → Addr) {k : Nat} (h : k ≠ 0) : ∃ u, errV a k = .iface 138 (.pointer (some u)) := ⟨_, errV_pos a h⟩
def MvNo (v : Value) (w : World) (e : Ending) (w' : World) : Prop := e = .returned (.tuple #[.int .i64 0, .int .i64 0, .int .i64 0, v]) ∧ Below w.heap.size w w'
set_option maxRecDepth 100000 in
set_option maxHeartbeats 16000000 in
theorem moved_bad1 (a : Nat → Addr) (A B : Pic) (R : Int) (w : World) (hs : Sen a [2, 5] w) (hA : PicAt w A) (hB : PicAt w B) (eA : picE A ≠ 0) :
    Calls Tryd.prog 16 #[picV A, picV B, .int .i64 R] w (MvNo (errV a (picE A)) w) := by
  have VA := Lib.hid (fun X (hX : Below w.heap.size w X) => frameValid_walk a A X (hs.below hX) (hA.below hX))
  obtain ⟨u, hu⟩ := err_pos a eA
  rw [hu] at VA ⊢
  clear hs hA hB eA hu
  obtain ⟨W1, H1, r1, n1, cap1, z1⟩ := A
  obtain ⟨W2, H2, r2, n2, cap2, z2⟩ := B
  unfold picV at *
  simp only at *
  go_enter Tryd.func16, Tryd.ntmps16
  go_wp2_with fail
  refine Grow.seal_wp ?_
  intro W hW
  have K0 : Known W w.heap.size #[.int .i64 W1, .int .i64 H1, .slice r1 n1 cap1] := by rw [hW.out]; exact ((Known.new w _ _).alloc _).alloc _
  have K1 : Known W (w.heap.size + 1) #[.int .i64 W2, .int .i64 H2, .slice r2 n2 cap2] := by rw [hW.out]; exact (Known.new' (by simp)).alloc _
  have KS : Known W (w.heap.size + 1 + 1) #[.int .i64 W1, .int .i64 H1, .slice r1 n1 cap1, .int .i64 W2, .int .i64 H2, .slice r2 n2 cap2] := by rw [hW.out]; exact Known.new' (by simp)
  have G : Hid (Below w.heap.size w W) := Lib.hid (by rw [hW.out]; exact grow_alloc (grow_alloc (grow_alloc (grow_refl w) _) _) _)
  clear hW
  have l0 := K0.lt
  have l1 := K1.lt
  have lS := KS.lt
  have cS := KS.cell
  have fS := KS.frozen
  refine wp_loop_rounds 3 ?_
  rw [rounds_succ]
  go_wp2_with (go_at_call 37; (with_reducible refine (VA.out _ ?_).mono ?_); ((repeat (with_reducible first | exact G.out | refine Grow.grow_setCell ?_ ?_ _ | refine Grow.grow_alloc ?_ _)) <;> omega); rintro e w1 ⟨rfl, hb⟩; have G2 := Lib.hid (grow_trans (show Below w.heap.size w _ by (repeat (with_reducible first | exact G.out | refine Grow.grow_setCell ?_ ?_ _ | refine Grow.grow_alloc ?_ _)) <;> omega) hb); replace K0 := Known.below (by (repeat (with_reducible first | exact K0 | apply Known.other | apply Known.alloc)) <;> omega) hb; replace K1 := Known.below (by (repeat (with_reducible first | exact K1 | apply Known.other | apply Known.alloc)) <;> omega) hb; clear cS fS l0 l1 lS G; have G := G2; clear G2; replace KS := Known.below (by (repeat (with_reducible first | exact KS | apply Known.other | apply Known.alloc)) <;> omega) hb; clear hb; have l0 := K0.lt; have l1 := K1.lt; have lS := KS.lt; have cS := KS.cell; have fS := KS.frozen)
  refine bodyPost_ret (results_tmp4 rfl _ _ _) rfl ?_
  exact ⟨rfl, G.out⟩
set_option maxRecDepth 100000 in
set_option maxHeartbeats 16000000 in
theorem moved_bad2 (a : Nat → Addr) (A B : Pic) (R : Int) (w : World) (hs : Sen a [2, 5] w) (hA : PicAt w A) (hB : PicAt w B) (eA : picE A = 0) (eB : picE B ≠ 0) :
    Calls Tryd.prog 16 #[picV A, picV B, .int .i64 R] w (MvNo (errV a (picE B)) w) := by
  have VA := Lib.hid (fun X (hX : Below w.heap.size w X) => frameValid_walk a A X (hs.below hX) (hA.below hX))
  have VB := Lib.hid (fun X (hX : Below w.heap.size w X) => frameValid_walk a B X (hs.below hX) (hB.below hX))
  rw [eA, errV_zero] at VA
  obtain ⟨u, hu⟩ := err_pos a eB
  rw [hu] at VB ⊢
  clear hs hA hB eA eB hu
  obtain ⟨W1, H1, r1, n1, cap1, z1⟩ := A
  obtain ⟨W2, H2, r2, n2, cap2, z2⟩ := B
  unfold picV at *
  simp only at *
  go_enter Tryd.func16, Tryd.ntmps16
  go_wp2_with fail
  refine Grow.seal_wp ?_
  intro W hW
  have K0 : Known W w.heap.size #[.int .i64 W1, .int .i64 H1, .slice r1 n1 cap1] := by rw [hW.out]; exact ((Known.new w _ _).alloc _).alloc _
  have K1 : Known W (w.heap.size + 1) #[.int .i64 W2, .int .i64 H2, .slice r2 n2 cap2] := by rw [hW.out]; exact (Known.new' (by simp)).alloc _
  have KS : Known W (w.heap.size + 1 + 1) #[.int .i64 W1, .int .i64 H1, .slice r1 n1 cap1, .int .i64 W2, .int .i64 H2, .slice r2 n2 cap2] := by rw [hW.out]; exact Known.new' (by simp)
  have G : Hid (Below w.heap.size w W) := Lib.hid (by rw [hW.out]; exact grow_alloc (grow_alloc (grow_alloc (grow_refl w) _) _) _)
  clear hW
  have l0 := K0.lt
  have l1 := K1.lt
  have lS := KS.lt
  have cS := KS.cell
  have fS := KS.frozen
  refine wp_loop_rounds 3 ?_
  rw [rounds_succ]
  go_wp2_with (go_at_call 37; (with_reducible refine (VA.out _ ?_).mono ?_); ((repeat (with_reducible first | exact G.out | refine Grow.grow_setCell ?_ ?_ _ | refine Grow.grow_alloc ?_ _)) <;> omega); rintro e w1 ⟨rfl, hb⟩; have G2 := Lib.hid (grow_trans (show Below w.heap.size w _ by (repeat (with_reducible first | exact G.out | refine Grow.grow_setCell ?_ ?_ _ | refine Grow.grow_alloc ?_ _)) <;> omega) hb); replace K0 := Known.below (by (repeat (with_reducible first | exact K0 | apply Known.other | apply Known.alloc)) <;> omega) hb; replace K1 := Known.below (by (repeat (with_reducible first | exact K1 | apply Known.other | apply Known.alloc)) <;> omega) hb; clear cS fS l0 l1 lS G; have G := G2; clear G2; replace KS := Known.below (by (repeat (with_reducible first | exact KS | apply Known.other | apply Known.alloc)) <;> omega) hb; clear hb; have l0 := K0.lt; have l1 := K1.lt; have lS := KS.lt; have cS := KS.cell; have fS := KS.frozen)
  rw [rounds_succ]
  go_wp2_with (go_at_call 37; (with_reducible refine (VB.out _ ?_).mono ?_); ((repeat (with_reducible first | exact G.out | refine Grow.grow_setCell ?_ ?_ _ | refine Grow.grow_alloc ?_ _)) <;> omega); rintro e w2 ⟨rfl, hb⟩; have G2 := Lib.hid (grow_trans (show Below w.heap.size w _ by (repeat (with_reducible first | exact G.out | refine Grow.grow_setCell ?_ ?_ _ | refine Grow.grow_alloc ?_ _)) <;> omega) hb); replace K0 := Known.below (by (repeat (with_reducible first | exact K0 | apply Known.other | apply Known.alloc)) <;> omega) hb; replace K1 := Known.below (by (repeat (with_reducible first | exact K1 | apply Known.other | apply Known.alloc)) <;> omega) hb; clear cS fS l0 l1 lS G; have G := G2; clear G2; replace KS := Known.below (by (repeat (with_reducible first | exact KS | apply Known.other | apply Known.alloc)) <;> omega) hb; clear hb; have l0 := K0.lt; have l1 := K1.lt; have lS := KS.lt; have cS := KS.cell; have fS := KS.frozen)
  refine bodyPost_ret (results_tmp4 rfl _ _ _) rfl ?_
  exact ⟨rfl, G.out⟩
set_option maxRecDepth 100000 in
set_option maxHeartbeats 16000000 in
theorem moved_far (a : Nat → Addr) (A B : Pic) (R : Int) (w : World) (hs : Sen a [2, 5] w) (hA : PicAt w A) (hB : PicAt w B) (eA : picE A = 0) (eB : picE B = 0) (hR : R < 0 ∨ 16 < R) :
    Calls Tryd.prog 16 #[picV A, picV B, .int .i64 R] w (MvNo (errV a 5) w) := by
  have VA := Lib.hid (fun X (hX : Below w.heap.size w X) => frameValid_walk a A X (hs.below hX) (hA.below hX))
  have VB := Lib.hid (fun X (hX : Below w.heap.size w X) => frameValid_walk a B X (hs.below hX) (hB.below hX))
  rw [eA, errV_zero] at VA
  rw [eB, errV_zero] at VB
  have SN := Lib.hid (fun X (hX : Below w.heap.size w X) => (hs.below hX) 5 (by decide))
  rw [errV_pos a (show 5 ≠ 0 by decide)]
  clear hs hA hB eA eB
  obtain ⟨W1, H1, r1, n1, cap1, z1⟩ := A
  obtain ⟨W2, H2, r2, n2, cap2, z2⟩ := B
  unfold picV at *
  simp only at *
  rcases hR with hR | hR
  all_goals
    go_enter Tryd.func16, Tryd.ntmps16
    go_upto_block 0 with (fail)
    refine Grow.seal_wp ?_
    intro W hW
    have K0 : Known W w.heap.size #[.int .i64 W1, .int .i64 H1, .slice r1 n1 cap1] := by rw [hW.out]; exact ((Known.new w _ _).alloc _).alloc _
    have K1 : Known W (w.heap.size + 1) #[.int .i64 W2, .int .i64 H2, .slice r2 n2 cap2] := by rw [hW.out]; exact (Known.new' (by simp)).alloc _
    have KS : Known W (w.heap.size + 1 + 1) #[.int .i64 W1, .int .i64 H1, .slice r1 n1 cap1, .int .i64 W2, .int .i64 H2, .slice r2 n2 cap2] := by rw [hW.out]; exact Known.new' (by simp)
    have G : Hid (Below w.heap.size w W) := Lib.hid (by rw [hW.out]; exact grow_alloc (grow_alloc (grow_alloc (grow_refl w) _) _) _)
    clear hW
    have l0 := K0.lt
    have l1 := K1.lt
    have lS := KS.lt
    have cS := KS.cell
    have fS := KS.frozen
    go_cut [6, 7] (fun v6 v7 wx => Below w.heap.size w wx)
    case first => as_aux_lemma =>
      go_wp2_with fail
      refine wp_loop_rounds 3 ?_
      rw [rounds_succ]
      go_wp2_with (go_at_call 37; (with_reducible refine (VA.out _ ?_).mono ?_); ((repeat (with_reducible first | exact G.out | refine Grow.grow_setCell ?_ ?_ _ | refine Grow.grow_alloc ?_ _)) <;> omega); rintro e w1 ⟨rfl, hb⟩; have G2 := Lib.hid (grow_trans (show Below w.heap.size w _ by (repeat (with_reducible first | exact G.out | refine Grow.grow_setCell ?_ ?_ _ | refine Grow.grow_alloc ?_ _)) <;> omega) hb); replace K0 := Known.below (by (repeat (with_reducible first | exact K0 | apply Known.other | apply Known.alloc)) <;> omega) hb; replace K1 := Known.below (by (repeat (with_reducible first | exact K1 | apply Known.other | apply Known.alloc)) <;> omega) hb; clear cS fS l0 l1 lS G; have G := G2; clear G2; replace KS := Known.below (by (repeat (with_reducible first | exact KS | apply Known.other | apply Known.alloc)) <;> omega) hb; clear hb; have l0 := K0.lt; have l1 := K1.lt; have lS := KS.lt; have cS := KS.cell; have fS := KS.frozen)
      rw [rounds_succ]
      go_wp2_with (go_at_call 37; (with_reducible refine (VB.out _ ?_).mono ?_); ((repeat (with_reducible first | exact G.out | refine Grow.grow_setCell ?_ ?_ _ | refine Grow.grow_alloc ?_ _)) <;> omega); rintro e w2 ⟨rfl, hb⟩; have G2 := Lib.hid (grow_trans (show Below w.heap.size w _ by (repeat (with_reducible first | exact G.out | refine Grow.grow_setCell ?_ ?_ _ | refine Grow.grow_alloc ?_ _)) <;> omega) hb); replace K0 := Known.below (by (repeat (with_reducible first | exact K0 | apply Known.other | apply Known.alloc)) <;> omega) hb; replace K1 := Known.below (by (repeat (with_reducible first | exact K1 | apply Known.other | apply Known.alloc)) <;> omega) hb; clear cS fS l0 l1 lS G; have G := G2; clear G2; replace KS := Known.below (by (repeat (with_reducible first | exact KS | apply Known.other | apply Known.alloc)) <;> omega) hb; clear hb; have l0 := K0.lt; have l1 := K1.lt; have lS := KS.lt; have cS := KS.cell; have fS := KS.frozen)
      rw [rounds_succ]
      go_wp2_with fail
      go_meet
      exact G.out
    case rest =>
      clear K0 K1 KS cS fS l0 l1 lS G VA VB
      have G := Lib.hid hcut
      have c5 := (SN.out _ G.out).1
      simp only [gOf] at c5
      clear hcut
      go_wp2
      go_quiet (fail)
      go_wp2
      refine bodyPost_ret (results_tmp4 rfl _ _ _) rfl ?_
      exact ⟨rfl, grow_drewN G.out _⟩
end Go.Proofs.YtaakbajhbmbhcaaDoor
