/- Cells of directions: Up, listed. -/
import Derived.Test.YtjjjbkehmnfgbaaDoorAc8
set_option linter.unusedSimpArgs false
set_option linter.unusedVariables false
namespace Go.Proofs.YtjjjbkehmnfgbaaDoor
open Go.RowKit Go.Grow Go.Atl

theorem up_frame (w w1 : World) (a b c d : Value) (HB' : Below ((w.alloc (.cells #[a, b, c, d] 51)).alloc (.cells #[.int .i64 0, .int .i64 0, .int .i64 0, .int .i64 0] 51)).heap.size ((w.alloc (.cells #[a, b, c, d] 51)).alloc (.cells #[.int .i64 0, .int .i64 0, .int .i64 0, .int .i64 0] 51)) w1) :
    Known w1 w.heap.size #[a, b, c, d] ∧ Known w1 (w.heap.size + 1) #[.int .i64 0, .int .i64 0, .int .i64 0, .int .i64 0] ∧ Below w.heap.size w w1 :=
  ⟨((Known.new w #[a, b, c, d] 51).alloc _).below HB',
    (Known.new' (w := w.alloc (.cells #[a, b, c, d] 51)) (b := w.heap.size + 1) (by simp)).below HB',
    grow_trans (grow_alloc (grow_alloc (grow_refl w) _) _) HB'⟩
set_option maxRecDepth 100000 in
set_option maxHeartbeats 16000000 in
theorem up_no (s : Sp) (w : World) (hv : validS s = false) :
    Calls Tryd.prog 23 #[spV s] w fun e w' => e = .returned (.tuple #[spV ⟨0, 0, 0, 0⟩, .bool false]) ∧ Below w.heap.size w w' := by
  have VW := Lib.hid (fun X => valid_spot s X)
  rw [hv] at VW
  have hal := alloc_sp
  clear hv
  obtain ⟨fc, lv, cl, rw_⟩ := s
  unfold spV at VW ⊢
  simp only at VW ⊢
  go_enter Tryd.func23, Tryd.ntmps23
  go_wp2_with (go_at_call 24; (with_reducible refine (VW.out _).mono ?_); rintro e w1 ⟨rfl, hb⟩; obtain ⟨K1, K2, GX⟩ := up_frame _ _ _ _ _ _ hb; have K1 := Lib.hid K1; have K2 := Lib.hid K2; have GX := Lib.hid GX; have hz := GX.out.size; clear hb; have q1 := K1.out.cell 1; have q0 := K1.out.cell 0; have q2 := K1.out.cell 2; have q3 := K1.out.cell 3; have f0 := K2.out.frozen 0; have f1 := K2.out.frozen 1; have f2 := K2.out.frozen 2; have f3 := K2.out.frozen 3; have c0 := K2.out.cell 0; have c1 := K2.out.cell 1; have c2 := K2.out.cell 2; have c3 := K2.out.cell 3; have l4 := K2.out.lt; simp only [List.getElem?_toArray, List.getElem?_cons_zero, List.getElem?_cons_succ] at q0 q1 q2 q3 c0 c1 c2 c3)
  have KF := Lib.hid ((((K2.out.same 0 (.int .i64 0)).same 1 (.int .i64 0)).same 2 (.int .i64 0)).same 3 (.int .i64 0))
  (try simp only [Exit.inBlock, Exit.then])
  refine bodyPost_ret (results_cell2 rfl _ _ (w.heap.size + 1) [.int .i64 0, .int .i64 0, .int .i64 0, .int .i64 0] _ rfl KF.out Tryd.underlying51 rfl (by kernel_rfl)) rfl ?_
  exact ⟨rfl, (by (repeat (with_reducible first | exact GX.out | refine Grow.grow_drewN ?_ _ | refine Grow.grow_drew ?_ | refine Grow.grow_setCell ?_ ?_ _ | refine Grow.grow_alloc ?_ _)) <;> omega)⟩
set_option maxRecDepth 100000 in
set_option maxHeartbeats 16000000 in
theorem up_zero (fc cl rw_ : Int) (w : World) (hv : validS ⟨fc, 0, cl, rw_⟩ = true) :
    Calls Tryd.prog 23 #[spV ⟨fc, 0, cl, rw_⟩] w fun e w' => e = .returned (.tuple #[spV ⟨0, 0, 0, 0⟩, .bool false]) ∧ Below w.heap.size w w' := by
  have VW := Lib.hid (fun X => valid_spot ⟨fc, 0, cl, rw_⟩ X)
  rw [hv] at VW
  have hal := alloc_sp
  clear hv
  unfold spV at VW ⊢
  simp only at VW ⊢
  go_enter Tryd.func23, Tryd.ntmps23
  go_wp2_with (go_at_call 24; (with_reducible refine (VW.out _).mono ?_); rintro e w1 ⟨rfl, hb⟩; obtain ⟨K1, K2, GX⟩ := up_frame _ _ _ _ _ _ hb; have K1 := Lib.hid K1; have K2 := Lib.hid K2; have GX := Lib.hid GX; have hz := GX.out.size; clear hb; have q1 := K1.out.cell 1; have q0 := K1.out.cell 0; have q2 := K1.out.cell 2; have q3 := K1.out.cell 3; have f0 := K2.out.frozen 0; have f1 := K2.out.frozen 1; have f2 := K2.out.frozen 2; have f3 := K2.out.frozen 3; have c0 := K2.out.cell 0; have c1 := K2.out.cell 1; have c2 := K2.out.cell 2; have c3 := K2.out.cell 3; have l4 := K2.out.lt; simp only [List.getElem?_toArray, List.getElem?_cons_zero, List.getElem?_cons_succ] at q0 q1 q2 q3 c0 c1 c2 c3)
  have KF := Lib.hid ((((K2.out.same 0 (.int .i64 0)).same 1 (.int .i64 0)).same 2 (.int .i64 0)).same 3 (.int .i64 0))
  (try simp only [Exit.inBlock, Exit.then])
  refine bodyPost_ret (results_cell2 rfl _ _ (w.heap.size + 1) [.int .i64 0, .int .i64 0, .int .i64 0, .int .i64 0] _ rfl KF.out Tryd.underlying51 rfl (by kernel_rfl)) rfl ?_
  exact ⟨rfl, (by (repeat (with_reducible first | exact GX.out | refine Grow.grow_drewN ?_ _ | refine Grow.grow_drew ?_ | refine Grow.grow_setCell ?_ ?_ _ | refine Grow.grow_alloc ?_ _)) <;> omega)⟩
set_option maxRecDepth 100000 in
set_option maxHeartbeats 16000000 in
theorem up_good (fc lv cl rw_ : Int) (w : World) (hv : validS ⟨fc, lv, cl, rw_⟩ = true) (h0 : lv ≠ 0) :
    Calls Tryd.prog 23 #[spV ⟨fc, lv, cl, rw_⟩] w fun e w' => e = .returned (.tuple #[spV (upOf ⟨fc, lv, cl, rw_⟩), .bool true]) ∧ Below w.heap.size w w' := by
  have VW := Lib.hid (fun X => valid_spot ⟨fc, lv, cl, rw_⟩ X)
  obtain ⟨v0, v1, v2, v3, v4, v5, v6, v7⟩ := (validS_iff _).1 hv
  simp only at v0 v1 v2 v3 v4 v5 v6 v7
  rw [hv] at VW
  have hal := alloc_sp
  have HP := pow_le12 lv.toNat (by omega)
  have n0 : wrap64 (lv - 1) = lv - 1 := by simp only [wrap64]; omega
  have n1 : Int.tdiv cl 2 = cl / 2 := Int.tdiv_eq_ediv_of_nonneg v4
  have n2 : Int.tdiv rw_ 2 = rw_ / 2 := Int.tdiv_eq_ediv_of_nonneg v5
  have n3 : wrap64 (cl / 2) = cl / 2 := by simp only [wrap64]; omega
  have n4 : wrap64 (rw_ / 2) = rw_ / 2 := by simp only [wrap64]; omega
  have u0 : decide (lv = 0) = false := decide_eq_false h0
  clear hv v6 v7 HP
  unfold spV at VW ⊢
  simp only [upOf] at VW ⊢
  go_enter Tryd.func23, Tryd.ntmps23
  go_wp2_with (go_at_call 24; (with_reducible refine (VW.out _).mono ?_); rintro e w1 ⟨rfl, hb⟩; obtain ⟨K1, K2, GX⟩ := up_frame _ _ _ _ _ _ hb; have K1 := Lib.hid K1; have K2 := Lib.hid K2; have GX := Lib.hid GX; have hz := GX.out.size; clear hb; have q1 := K1.out.cell 1; have q0 := K1.out.cell 0; have q2 := K1.out.cell 2; have q3 := K1.out.cell 3; have f0 := K2.out.frozen 0; have f1 := K2.out.frozen 1; have f2 := K2.out.frozen 2; have f3 := K2.out.frozen 3; have c0 := K2.out.cell 0; have c1 := K2.out.cell 1; have c2 := K2.out.cell 2; have c3 := K2.out.cell 3; have l4 := K2.out.lt; simp only [List.getElem?_toArray, List.getElem?_cons_zero, List.getElem?_cons_succ] at q0 q1 q2 q3 c0 c1 c2 c3)
  have KF := Lib.hid ((((K2.out.same 0 (.int .i64 fc)).same 1 (.int .i64 (lv - 1))).same 2 (.int .i64 (cl / 2))).same 3 (.int .i64 (rw_ / 2)))
  (try simp only [Exit.inBlock, Exit.then])
  refine bodyPost_ret (results_cell2 rfl _ _ (w.heap.size + 1) [.int .i64 fc, .int .i64 (lv - 1), .int .i64 (cl / 2), .int .i64 (rw_ / 2)] _ rfl KF.out Tryd.underlying51 rfl (by kernel_rfl)) rfl ?_
  exact ⟨rfl, (by (repeat (with_reducible first | exact GX.out | refine Grow.grow_drewN ?_ _ | refine Grow.grow_drew ?_ | refine Grow.grow_setCell ?_ ?_ _ | refine Grow.grow_alloc ?_ _)) <;> omega)⟩
set_option maxRecDepth 100000 in
set_option maxHeartbeats 16000000 in
theorem listed_walk (w : World) :
    Calls Tryd.prog 17 #[] w fun e w' => e = .returned (.bool true) ∧ Below w.heap.size w w' := by
  have CW := Lib.hid (show ∀ X, Calls Tryd.prog 20 #[.agg #[.int .i64 5, .int .i64 5, .int .i64 0], .int .i64 1] X fun e w' => e = .returned (.tuple #[.agg #[.int .i64 0, .int .i64 1, .int .i64 1, .int .i64 1], .nilIface]) ∧ Below X.heap.size X w' from fun X => by
    have h := cellOf_good ⟨5, 5, 0⟩ 1 X (by decide) (by decide)
    rw [show cellAt ⟨5, 5, 0⟩ 1 = ⟨0, 1, 1, 1⟩ by decide] at h
    exact h)
  have hal := alloc_sp
  go_enter Tryd.func17, Tryd.ntmps17
  go_wp2_with (go_at_call 20; (with_reducible refine (CW.out _).mono ?_); rintro e w1 ⟨rfl, hb⟩; have HB := Lib.hid hb; clear hb)
  go_ret
  exact ⟨rfl, (by (repeat (with_reducible first | exact (grow_trans (grow_refl w) HB.out) | exact HB.out | refine Grow.grow_drewN ?_ _ | refine Grow.grow_drew ?_ | refine Grow.grow_alloc ?_ _)) <;> (try have := HB.out.size) <;> omega)⟩
end Go.Proofs.YtjjjbkehmnfgbaaDoor
