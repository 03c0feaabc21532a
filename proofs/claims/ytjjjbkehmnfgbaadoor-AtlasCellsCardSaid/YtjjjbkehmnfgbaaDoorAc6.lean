/- Cells of directions: the document's cell. -/
import Derived.Test.YtjjjbkehmnfgbaaDoorAc5
set_option linter.unusedSimpArgs false
set_option linter.unusedVariables false
namespace Go.Proofs.YtjjjbkehmnfgbaaDoor
open Go.RowKit Go.Grow Go.Atl

theorem known_eqA {w : World} {b : Nat} {c c' : Array Value} (h : Known w b c) (e : c = c') : Known w b c' := e ▸ h
theorem quiet_sum {P : Program} {f : FuncId} {args : Array Value} {w : World} {n m : Nat} {v : Value} (h : Calls P f args (w.drewN (n + m)) fun e w' => e = .returned v ∧ w.drewN (n + m) = w') :
    Calls P f args (w.drewN (n + m)) fun e w'' => e = .returned v ∧ ∃ k, w'' = w.drewN (n + k) :=
  h.mono fun _ _ ⟨he, hm⟩ => ⟨he, m, hm.symm⟩
theorem alloc_sp5 (w : World) : (Instr.alloc 48 true (.tuple #[])).run Tryd.prog w = .ok (.pointer (some ⟨w.heap.size, 0, none⟩)) (w.alloc (.cells #[.int .i64 0, .int .i64 0, .int .i64 0, .int .i64 0] 48)) := by kernel_rfl
set_option maxRecDepth 100000 in
set_option maxHeartbeats 16000000 in
theorem cellAt_dir (d : Dr) (lev : Int) (w : World) (hd : isDir d = false) :
    Calls Tryd.prog 21 #[drV d, .int .i64 lev] w fun e w' => e = .returned (.tuple #[spV ⟨0, 0, 0, 0⟩, .int .i64 5]) ∧ Below w.heap.size w w' := by
  have DW := Lib.hid (fun X => isDirection_walk d X)
  rw [hd] at DW
  have hal := alloc_sp5
  clear hd
  obtain ⟨x, y, z⟩ := d
  unfold drV at DW ⊢
  simp only at DW ⊢
  go_enter Tryd.func21, Tryd.ntmps21
  go_wp2_with (go_at_call 55; (with_reducible refine (DW.out _).mono ?_); rintro e w1 ⟨rfl, hb⟩; have HB := Lib.hid hb; clear hb; have GX := Lib.hid (show Below w.heap.size w w1 from grow_trans (grow_alloc (grow_alloc (grow_refl w) _) _) HB.out); have hz := GX.out.size; have K2 := Lib.hid (((Known.new w #[.int .i64 x, .int .i64 y, .int .i64 z] 46).alloc (.cells #[.int .i64 0, .int .i64 0, .int .i64 0, .int .i64 0] 48)).below HB.out); have K4 := Lib.hid ((Known.new' (w := w.alloc (.cells #[.int .i64 x, .int .i64 y, .int .i64 z] 46)) (c := #[.int .i64 0, .int .i64 0, .int .i64 0, .int .i64 0]) (t := 48) (b := w.heap.size + 1) (by simp)).below HB.out); have q0 := K2.out.cell 0; have q1 := K2.out.cell 1; have q2 := K2.out.cell 2; have q3 := K2.out.lt; have c0 := K4.out.cell 0; have c1 := K4.out.cell 1; have c2 := K4.out.cell 2; have c3 := K4.out.cell 3; have f0 := K4.out.frozen 0; have f1 := K4.out.frozen 1; have f2 := K4.out.frozen 2; have f3 := K4.out.frozen 3; have l4 := K4.out.lt; simp only [List.getElem?_toArray, List.getElem?_cons_zero, List.getElem?_cons_succ] at q0 q1 q2 c0 c1 c2 c3)
  have KF := Lib.hid ((((K4.out.same 0 (.int .i64 0)).same 1 (.int .i64 0)).same 2 (.int .i64 0)).same 3 (.int .i64 0))
  (try simp only [Exit.inBlock, Exit.then])
  refine bodyPost_ret (results_cell2 rfl _ _ (w.heap.size + 1) [.int .i64 0, .int .i64 0, .int .i64 0, .int .i64 0] _ rfl KF.out Tryd.underlying48 rfl (by kernel_rfl)) rfl ?_
  exact ⟨rfl, (by (repeat (with_reducible first | exact GX.out | refine Grow.grow_drewN ?_ _ | refine Grow.grow_drew ?_ | refine Grow.grow_setCell ?_ ?_ _ | refine Grow.grow_alloc ?_ _)) <;> omega)⟩
set_option maxRecDepth 100000 in
set_option maxHeartbeats 16000000 in
theorem cellAt_lev (d : Dr) (lev : Int) (w : World) (hd : isDir d = true) (hl : lev < 0 ∨ 12 < lev) :
    Calls Tryd.prog 21 #[drV d, .int .i64 lev] w fun e w' => e = .returned (.tuple #[spV ⟨0, 0, 0, 0⟩, .int .i64 2]) ∧ Below w.heap.size w w' := by
  have DW := Lib.hid (fun X => isDirection_walk d X)
  rw [hd] at DW
  have hal := alloc_sp5
  clear hd
  obtain ⟨x, y, z⟩ := d
  unfold drV at DW ⊢
  simp only at DW ⊢
  by_cases h0 : lev < 0
  · have u0 : decide (lev < 0) = true := decide_eq_true h0
    clear hl
    go_enter Tryd.func21, Tryd.ntmps21
    go_wp2_with (go_at_call 55; (with_reducible refine (DW.out _).mono ?_); rintro e w1 ⟨rfl, hb⟩; have HB := Lib.hid hb; clear hb; have GX := Lib.hid (show Below w.heap.size w w1 from grow_trans (grow_alloc (grow_alloc (grow_refl w) _) _) HB.out); have hz := GX.out.size; have K2 := Lib.hid (((Known.new w #[.int .i64 x, .int .i64 y, .int .i64 z] 46).alloc (.cells #[.int .i64 0, .int .i64 0, .int .i64 0, .int .i64 0] 48)).below HB.out); have K4 := Lib.hid ((Known.new' (w := w.alloc (.cells #[.int .i64 x, .int .i64 y, .int .i64 z] 46)) (c := #[.int .i64 0, .int .i64 0, .int .i64 0, .int .i64 0]) (t := 48) (b := w.heap.size + 1) (by simp)).below HB.out); have q0 := K2.out.cell 0; have q1 := K2.out.cell 1; have q2 := K2.out.cell 2; have q3 := K2.out.lt; have c0 := K4.out.cell 0; have c1 := K4.out.cell 1; have c2 := K4.out.cell 2; have c3 := K4.out.cell 3; have f0 := K4.out.frozen 0; have f1 := K4.out.frozen 1; have f2 := K4.out.frozen 2; have f3 := K4.out.frozen 3; have l4 := K4.out.lt; simp only [List.getElem?_toArray, List.getElem?_cons_zero, List.getElem?_cons_succ] at q0 q1 q2 c0 c1 c2 c3)
    have KF := Lib.hid ((((K4.out.same 0 (.int .i64 0)).same 1 (.int .i64 0)).same 2 (.int .i64 0)).same 3 (.int .i64 0))
    (try simp only [Exit.inBlock, Exit.then])
    refine bodyPost_ret (results_cell2 rfl _ _ (w.heap.size + 1) [.int .i64 0, .int .i64 0, .int .i64 0, .int .i64 0] _ rfl KF.out Tryd.underlying48 rfl (by kernel_rfl)) rfl ?_
    exact ⟨rfl, (by (repeat (with_reducible first | exact GX.out | refine Grow.grow_drewN ?_ _ | refine Grow.grow_drew ?_ | refine Grow.grow_setCell ?_ ?_ _ | refine Grow.grow_alloc ?_ _)) <;> omega)⟩
  · have u0 : decide (lev < 0) = false := decide_eq_false h0
    have u1 : decide (12 < lev) = true := decide_eq_true (by omega)
    clear hl
    go_enter Tryd.func21, Tryd.ntmps21
    go_wp2_with (go_at_call 55; (with_reducible refine (DW.out _).mono ?_); rintro e w1 ⟨rfl, hb⟩; have HB := Lib.hid hb; clear hb; have GX := Lib.hid (show Below w.heap.size w w1 from grow_trans (grow_alloc (grow_alloc (grow_refl w) _) _) HB.out); have hz := GX.out.size; have K2 := Lib.hid (((Known.new w #[.int .i64 x, .int .i64 y, .int .i64 z] 46).alloc (.cells #[.int .i64 0, .int .i64 0, .int .i64 0, .int .i64 0] 48)).below HB.out); have K4 := Lib.hid ((Known.new' (w := w.alloc (.cells #[.int .i64 x, .int .i64 y, .int .i64 z] 46)) (c := #[.int .i64 0, .int .i64 0, .int .i64 0, .int .i64 0]) (t := 48) (b := w.heap.size + 1) (by simp)).below HB.out); have q0 := K2.out.cell 0; have q1 := K2.out.cell 1; have q2 := K2.out.cell 2; have q3 := K2.out.lt; have c0 := K4.out.cell 0; have c1 := K4.out.cell 1; have c2 := K4.out.cell 2; have c3 := K4.out.cell 3; have f0 := K4.out.frozen 0; have f1 := K4.out.frozen 1; have f2 := K4.out.frozen 2; have f3 := K4.out.frozen 3; have l4 := K4.out.lt; simp only [List.getElem?_toArray, List.getElem?_cons_zero, List.getElem?_cons_succ] at q0 q1 q2 c0 c1 c2 c3)
    have KF := Lib.hid ((((K4.out.same 0 (.int .i64 0)).same 1 (.int .i64 0)).same 2 (.int .i64 0)).same 3 (.int .i64 0))
    (try simp only [Exit.inBlock, Exit.then])
    refine bodyPost_ret (results_cell2 rfl _ _ (w.heap.size + 1) [.int .i64 0, .int .i64 0, .int .i64 0, .int .i64 0] _ rfl KF.out Tryd.underlying48 rfl (by kernel_rfl)) rfl ?_
    exact ⟨rfl, (by (repeat (with_reducible first | exact GX.out | refine Grow.grow_drewN ?_ _ | refine Grow.grow_drew ?_ | refine Grow.grow_setCell ?_ ?_ _ | refine Grow.grow_alloc ?_ _)) <;> omega)⟩
theorem cellAt_0 {d : Dr} (h : axis d = 0) (L : Nat) : spV (cellAt d L) = .agg #[.int .i64 (0 + if d.x < 0 then 1 else 0), .int .i64 L, .int .i64 (stripUp d.y (sz d.x) L), .int .i64 (stripUp d.z (sz d.x) L)] := by unfold spV cellAt faceOf fU fV fM; rw [h]; rfl
theorem cellAt_1 {d : Dr} (h : axis d = 1) (L : Nat) : spV (cellAt d L) = .agg #[.int .i64 (2 + if d.y < 0 then 1 else 0), .int .i64 L, .int .i64 (stripUp d.x (sz d.y) L), .int .i64 (stripUp d.z (sz d.y) L)] := by unfold spV cellAt faceOf fU fV fM; rw [h]; rfl
theorem cellAt_2 {d : Dr} (h : axis d = 2) (L : Nat) : spV (cellAt d L) = .agg #[.int .i64 (4 + if d.z < 0 then 1 else 0), .int .i64 L, .int .i64 (stripUp d.x (sz d.z) L), .int .i64 (stripUp d.y (sz d.z) L)] := by unfold spV cellAt faceOf fU fV fM; rw [h]; rfl
set_option maxRecDepth 100000 in
set_option maxHeartbeats 16000000 in
theorem cellAt_good (d : Dr) (L : Nat) (w : World) (hd : isDir d = true) (hl : L ≤ 12) :
    Calls Tryd.prog 21 #[drV d, .int .i64 L] w fun e w' => e = .returned (.tuple #[spV (cellAt d L), .int .i64 0]) ∧ Below w.heap.size w w' := by
  obtain ⟨h1, h2, h3, _⟩ := isDir_spec hd
  obtain ⟨m0, m1, m2, m3, m4, m5⟩ := face_spec hd
  have DW := Lib.hid (fun X => isDirection_walk d X)
  rw [hd] at DW
  have hal := alloc_sp5
  have S := Lib.hid (fun (n : Int) (X : World) (hn : -4611686018427387904 ≤ n ∧ n ≤ 4611686018427387904) => nsize_walk n X hn)
  have ST := Lib.hid (fun (u m : Int) (X : World) (hm : 0 < m ∧ m ≤ 1048576) (hu : -m ≤ u ∧ u ≤ m) => strip_walk u m L X hm hu hl)
  have u0 : decide ((L : Int) < 0) = false := decide_eq_false (by omega)
  have u1 : decide (12 < (L : Int)) = false := decide_eq_false (by omega)
  have Sx := Lib.hid (fun X => S.out d.x X (by omega))
  have Sy := Lib.hid (fun X => S.out d.y X (by omega))
  have Sz := Lib.hid (fun X => S.out d.z X (by omega))
  have nx := (sz_in d.x)
  have ny := (sz_in d.y)
  have nz := (sz_in d.z)
  clear hd S
  by_cases c1 : sz d.x < sz d.y
  · have v1 : decide (sz d.x < sz d.y) = true := decide_eq_true c1
    by_cases c2 : sz d.y < sz d.z
    · have v2 : decide (sz d.y < sz d.z) = true := decide_eq_true c2
      have hax : axis d = 2 := axis2 (by omega) (by omega)
      rw [cellAt_2 hax]
      have hm : 0 < sz d.z ∧ sz d.z ≤ 1048576 := by unfold fM at m0 m1; rw [hax] at m0 m1; exact ⟨m0, m1⟩
      have hu : -sz d.z ≤ d.x ∧ d.x ≤ sz d.z := by unfold fM fU at m2 m3; rw [hax] at m2 m3; exact ⟨m2, m3⟩
      have hv : -sz d.z ≤ d.y ∧ d.y ≤ sz d.z := by unfold fM fV at m4 m5; rw [hax] at m4 m5; exact ⟨m4, m5⟩
      have T1 := Lib.hid (fun X => ST.out d.x (sz d.z) X hm hu)
      have T2 := Lib.hid (fun X => ST.out d.y (sz d.z) X hm hv)
      clear ST hax m0 m1 m2 m3 m4 m5
      obtain ⟨x, y, z⟩ := d
      unfold drV at DW ⊢
      simp only at *
      generalize sz x = sx at *
      generalize sz y = sy at *
      generalize sz z = sz' at *
      by_cases cm : z < 0
      · have um : decide (z < 0) = true := decide_eq_true cm
        rw [if_pos cm]
        go_enter Tryd.func21, Tryd.ntmps21
        go_wp2_with (go_at_call 55; (with_reducible refine (DW.out _).mono ?_); rintro e w1 ⟨rfl, hb⟩; have HB := Lib.hid hb; clear hb; have GX := Lib.hid (show Below w.heap.size w w1 from grow_trans (grow_alloc (grow_alloc (grow_refl w) _) _) HB.out); have hz := GX.out.size; have K2 := Lib.hid (((Known.new w #[.int .i64 x, .int .i64 y, .int .i64 z] 46).alloc (.cells #[.int .i64 0, .int .i64 0, .int .i64 0, .int .i64 0] 48)).below HB.out); have K4 := Lib.hid ((Known.new' (w := w.alloc (.cells #[.int .i64 x, .int .i64 y, .int .i64 z] 46)) (c := #[.int .i64 0, .int .i64 0, .int .i64 0, .int .i64 0]) (t := 48) (b := w.heap.size + 1) (by simp)).below HB.out); have q0 := K2.out.cell 0; have q1 := K2.out.cell 1; have q2 := K2.out.cell 2; have q3 := K2.out.lt; have c0 := K4.out.cell 0; have c1 := K4.out.cell 1; have c2 := K4.out.cell 2; have c3 := K4.out.cell 3; have f0 := K4.out.frozen 0; have f1 := K4.out.frozen 1; have f2 := K4.out.frozen 2; have f3 := K4.out.frozen 3; have l4 := K4.out.lt; simp only [List.getElem?_toArray, List.getElem?_cons_zero, List.getElem?_cons_succ] at q0 q1 q2 c0 c1 c2 c3)
        refine Grow.seal_wp ?_
        intro W hW
        have KL := Lib.hid (show Known W w1.heap.size #[.int .i64 x, .int .i64 y, .int .i64 z] from hW.out ▸ Known.new w1 #[.int .i64 x, .int .i64 y, .int .i64 z] 3)
        have GY := Lib.hid (show Below w.heap.size w W from hW.out ▸ grow_alloc GX.out _)
        have K5 := Lib.hid (show Known W (w.heap.size + 1) #[.int .i64 0, .int .i64 0, .int .i64 0, .int .i64 0] from hW.out ▸ K4.out.alloc _)
        clear hW K2 K4 GX c0 c1 c2 c3 f0 f1 f2 f3 q0 q1 q2 q3 l4
        have GX := GY
        have e0 := KL.out.cell 0
        have e1 := KL.out.cell 1
        have e2 := KL.out.cell 2
        have el := KL.out.lt
        have c0 := K5.out.cell 0
        have c1 := K5.out.cell 1
        have c2 := K5.out.cell 2
        have c3 := K5.out.cell 3
        have f0 := K5.out.frozen 0
        have f1 := K5.out.frozen 1
        have f2 := K5.out.frozen 2
        have f3 := K5.out.frozen 3
        have l4 := K5.out.lt
        have hz2 := GX.out.size
        simp only [List.getElem?_toArray, List.getElem?_cons_zero, List.getElem?_cons_succ] at e0 e1 e2 c0 c1 c2 c3
        refine wp_loop_rounds 3 ?_
        rw [rounds_succ]
        go_wp2
        go_quiet (first | (go_at_call 56; with_reducible first | exact Calls.quiet_of_same ((Sx.out _).mono fun e w2 h => ⟨h.1, h.2.symm⟩) | exact quiet_sum (Sx.out _)) | (go_at_call 56; with_reducible first | exact Calls.quiet_of_same ((Sy.out _).mono fun e w2 h => ⟨h.1, h.2.symm⟩) | exact quiet_sum (Sy.out _)) | (go_at_call 56; with_reducible first | exact Calls.quiet_of_same ((Sz.out _).mono fun e w2 h => ⟨h.1, h.2.symm⟩) | exact quiet_sum (Sz.out _)))
        go_wp2
        rw [rounds_succ]
        go_wp2
        go_quiet (first | (go_at_call 56; with_reducible first | exact Calls.quiet_of_same ((Sx.out _).mono fun e w2 h => ⟨h.1, h.2.symm⟩) | exact quiet_sum (Sx.out _)) | (go_at_call 56; with_reducible first | exact Calls.quiet_of_same ((Sy.out _).mono fun e w2 h => ⟨h.1, h.2.symm⟩) | exact quiet_sum (Sy.out _)) | (go_at_call 56; with_reducible first | exact Calls.quiet_of_same ((Sz.out _).mono fun e w2 h => ⟨h.1, h.2.symm⟩) | exact quiet_sum (Sz.out _)))
        go_wp2
        rw [rounds_succ]
        have s1 := trivial
        go_wp2_with (first
          | (go_at_call 56; (with_reducible refine (Sz.out _).mono ?_); rintro e w2 ⟨rfl, rfl⟩)
          | (clear s1; go_at_call 57; (with_reducible refine (T1.out _).mono ?_); rintro e w2 ⟨rfl, rfl⟩; have s2 := trivial)
          | (clear s2; go_at_call 57; (with_reducible refine (T2.out _).mono ?_); rintro e w2 ⟨rfl, rfl⟩))
        have hne : W.heap.size ≠ w.heap.size + 1 := by omega
        (try simp only [Exit.inBlock, Exit.then])
        refine bodyPost_ret (results_cell2 rfl _ _ (w.heap.size + 1) [.int .i64 5, .int .i64 L, .int .i64 (stripUp x sz' L), .int .i64 (stripUp y sz' L)] _ rfl ?_ Tryd.underlying48 rfl (by kernel_rfl)) rfl ?_
        rotate_left
        · exact ⟨rfl, (by (repeat (with_reducible first | exact GX.out | refine Grow.grow_drewN ?_ _ | refine Grow.grow_drew ?_ | refine Grow.grow_setCell ?_ ?_ _ | refine Grow.grow_alloc ?_ _)) <;> omega)⟩
        · refine known_eqA (c := ((((#[.int .i64 0, .int .i64 0, .int .i64 0, .int .i64 0] : Array Value).setIfInBounds 0 (.int .i64 5)).setIfInBounds 1 (.int .i64 L)).setIfInBounds 2 (.int .i64 (stripUp x sz' L))).setIfInBounds 3 (.int .i64 (stripUp y sz' L))) ?_ rfl
          (repeat (with_reducible first | exact K5.out | apply Known.same | apply Known.other _ hne | apply Known.alloc | apply Known.drewN | apply Known.drew))
      · have um : decide (z < 0) = false := decide_eq_false cm
        rw [if_neg cm]
        go_enter Tryd.func21, Tryd.ntmps21
        go_wp2_with (go_at_call 55; (with_reducible refine (DW.out _).mono ?_); rintro e w1 ⟨rfl, hb⟩; have HB := Lib.hid hb; clear hb; have GX := Lib.hid (show Below w.heap.size w w1 from grow_trans (grow_alloc (grow_alloc (grow_refl w) _) _) HB.out); have hz := GX.out.size; have K2 := Lib.hid (((Known.new w #[.int .i64 x, .int .i64 y, .int .i64 z] 46).alloc (.cells #[.int .i64 0, .int .i64 0, .int .i64 0, .int .i64 0] 48)).below HB.out); have K4 := Lib.hid ((Known.new' (w := w.alloc (.cells #[.int .i64 x, .int .i64 y, .int .i64 z] 46)) (c := #[.int .i64 0, .int .i64 0, .int .i64 0, .int .i64 0]) (t := 48) (b := w.heap.size + 1) (by simp)).below HB.out); have q0 := K2.out.cell 0; have q1 := K2.out.cell 1; have q2 := K2.out.cell 2; have q3 := K2.out.lt; have c0 := K4.out.cell 0; have c1 := K4.out.cell 1; have c2 := K4.out.cell 2; have c3 := K4.out.cell 3; have f0 := K4.out.frozen 0; have f1 := K4.out.frozen 1; have f2 := K4.out.frozen 2; have f3 := K4.out.frozen 3; have l4 := K4.out.lt; simp only [List.getElem?_toArray, List.getElem?_cons_zero, List.getElem?_cons_succ] at q0 q1 q2 c0 c1 c2 c3)
        refine Grow.seal_wp ?_
        intro W hW
        have KL := Lib.hid (show Known W w1.heap.size #[.int .i64 x, .int .i64 y, .int .i64 z] from hW.out ▸ Known.new w1 #[.int .i64 x, .int .i64 y, .int .i64 z] 3)
        have GY := Lib.hid (show Below w.heap.size w W from hW.out ▸ grow_alloc GX.out _)
        have K5 := Lib.hid (show Known W (w.heap.size + 1) #[.int .i64 0, .int .i64 0, .int .i64 0, .int .i64 0] from hW.out ▸ K4.out.alloc _)
        clear hW K2 K4 GX c0 c1 c2 c3 f0 f1 f2 f3 q0 q1 q2 q3 l4
        have GX := GY
        have e0 := KL.out.cell 0
        have e1 := KL.out.cell 1
        have e2 := KL.out.cell 2
        have el := KL.out.lt
        have c0 := K5.out.cell 0
        have c1 := K5.out.cell 1
        have c2 := K5.out.cell 2
        have c3 := K5.out.cell 3
        have f0 := K5.out.frozen 0
        have f1 := K5.out.frozen 1
        have f2 := K5.out.frozen 2
        have f3 := K5.out.frozen 3
        have l4 := K5.out.lt
        have hz2 := GX.out.size
        simp only [List.getElem?_toArray, List.getElem?_cons_zero, List.getElem?_cons_succ] at e0 e1 e2 c0 c1 c2 c3
        refine wp_loop_rounds 3 ?_
        rw [rounds_succ]
        go_wp2
        go_quiet (first | (go_at_call 56; with_reducible first | exact Calls.quiet_of_same ((Sx.out _).mono fun e w2 h => ⟨h.1, h.2.symm⟩) | exact quiet_sum (Sx.out _)) | (go_at_call 56; with_reducible first | exact Calls.quiet_of_same ((Sy.out _).mono fun e w2 h => ⟨h.1, h.2.symm⟩) | exact quiet_sum (Sy.out _)) | (go_at_call 56; with_reducible first | exact Calls.quiet_of_same ((Sz.out _).mono fun e w2 h => ⟨h.1, h.2.symm⟩) | exact quiet_sum (Sz.out _)))
        go_wp2
        rw [rounds_succ]
        go_wp2
        go_quiet (first | (go_at_call 56; with_reducible first | exact Calls.quiet_of_same ((Sx.out _).mono fun e w2 h => ⟨h.1, h.2.symm⟩) | exact quiet_sum (Sx.out _)) | (go_at_call 56; with_reducible first | exact Calls.quiet_of_same ((Sy.out _).mono fun e w2 h => ⟨h.1, h.2.symm⟩) | exact quiet_sum (Sy.out _)) | (go_at_call 56; with_reducible first | exact Calls.quiet_of_same ((Sz.out _).mono fun e w2 h => ⟨h.1, h.2.symm⟩) | exact quiet_sum (Sz.out _)))
        go_wp2
        rw [rounds_succ]
        have s1 := trivial
        go_wp2_with (first
          | (go_at_call 56; (with_reducible refine (Sz.out _).mono ?_); rintro e w2 ⟨rfl, rfl⟩)
          | (clear s1; go_at_call 57; (with_reducible refine (T1.out _).mono ?_); rintro e w2 ⟨rfl, rfl⟩; have s2 := trivial)
          | (clear s2; go_at_call 57; (with_reducible refine (T2.out _).mono ?_); rintro e w2 ⟨rfl, rfl⟩))
        have hne : W.heap.size ≠ w.heap.size + 1 := by omega
        (try simp only [Exit.inBlock, Exit.then])
        refine bodyPost_ret (results_cell2 rfl _ _ (w.heap.size + 1) [.int .i64 4, .int .i64 L, .int .i64 (stripUp x sz' L), .int .i64 (stripUp y sz' L)] _ rfl ?_ Tryd.underlying48 rfl (by kernel_rfl)) rfl ?_
        rotate_left
        · exact ⟨rfl, (by (repeat (with_reducible first | exact GX.out | refine Grow.grow_drewN ?_ _ | refine Grow.grow_drew ?_ | refine Grow.grow_setCell ?_ ?_ _ | refine Grow.grow_alloc ?_ _)) <;> omega)⟩
        · refine known_eqA (c := ((((#[.int .i64 0, .int .i64 0, .int .i64 0, .int .i64 0] : Array Value).setIfInBounds 0 (.int .i64 4)).setIfInBounds 1 (.int .i64 L)).setIfInBounds 2 (.int .i64 (stripUp x sz' L))).setIfInBounds 3 (.int .i64 (stripUp y sz' L))) ?_ rfl
          (repeat (with_reducible first | exact K5.out | apply Known.same | apply Known.other _ hne | apply Known.alloc | apply Known.drewN | apply Known.drew))
    · have v2 : decide (sz d.y < sz d.z) = false := decide_eq_false c2
      have hax : axis d = 1 := axis1 (by omega) (by omega)
      rw [cellAt_1 hax]
      have hm : 0 < sz d.y ∧ sz d.y ≤ 1048576 := by unfold fM at m0 m1; rw [hax] at m0 m1; exact ⟨m0, m1⟩
      have hu : -sz d.y ≤ d.x ∧ d.x ≤ sz d.y := by unfold fM fU at m2 m3; rw [hax] at m2 m3; exact ⟨m2, m3⟩
      have hv : -sz d.y ≤ d.z ∧ d.z ≤ sz d.y := by unfold fM fV at m4 m5; rw [hax] at m4 m5; exact ⟨m4, m5⟩
      have T1 := Lib.hid (fun X => ST.out d.x (sz d.y) X hm hu)
      have T2 := Lib.hid (fun X => ST.out d.z (sz d.y) X hm hv)
      clear ST hax m0 m1 m2 m3 m4 m5
      obtain ⟨x, y, z⟩ := d
      unfold drV at DW ⊢
      simp only at *
      generalize sz x = sx at *
      generalize sz y = sy at *
      generalize sz z = sz' at *
      by_cases cm : y < 0
      · have um : decide (y < 0) = true := decide_eq_true cm
        rw [if_pos cm]
        go_enter Tryd.func21, Tryd.ntmps21
        go_wp2_with (go_at_call 55; (with_reducible refine (DW.out _).mono ?_); rintro e w1 ⟨rfl, hb⟩; have HB := Lib.hid hb; clear hb; have GX := Lib.hid (show Below w.heap.size w w1 from grow_trans (grow_alloc (grow_alloc (grow_refl w) _) _) HB.out); have hz := GX.out.size; have K2 := Lib.hid (((Known.new w #[.int .i64 x, .int .i64 y, .int .i64 z] 46).alloc (.cells #[.int .i64 0, .int .i64 0, .int .i64 0, .int .i64 0] 48)).below HB.out); have K4 := Lib.hid ((Known.new' (w := w.alloc (.cells #[.int .i64 x, .int .i64 y, .int .i64 z] 46)) (c := #[.int .i64 0, .int .i64 0, .int .i64 0, .int .i64 0]) (t := 48) (b := w.heap.size + 1) (by simp)).below HB.out); have q0 := K2.out.cell 0; have q1 := K2.out.cell 1; have q2 := K2.out.cell 2; have q3 := K2.out.lt; have c0 := K4.out.cell 0; have c1 := K4.out.cell 1; have c2 := K4.out.cell 2; have c3 := K4.out.cell 3; have f0 := K4.out.frozen 0; have f1 := K4.out.frozen 1; have f2 := K4.out.frozen 2; have f3 := K4.out.frozen 3; have l4 := K4.out.lt; simp only [List.getElem?_toArray, List.getElem?_cons_zero, List.getElem?_cons_succ] at q0 q1 q2 c0 c1 c2 c3)
        refine Grow.seal_wp ?_
        intro W hW
        have KL := Lib.hid (show Known W w1.heap.size #[.int .i64 x, .int .i64 y, .int .i64 z] from hW.out ▸ Known.new w1 #[.int .i64 x, .int .i64 y, .int .i64 z] 3)
        have GY := Lib.hid (show Below w.heap.size w W from hW.out ▸ grow_alloc GX.out _)
        have K5 := Lib.hid (show Known W (w.heap.size + 1) #[.int .i64 0, .int .i64 0, .int .i64 0, .int .i64 0] from hW.out ▸ K4.out.alloc _)
        clear hW K2 K4 GX c0 c1 c2 c3 f0 f1 f2 f3 q0 q1 q2 q3 l4
        have GX := GY
        have e0 := KL.out.cell 0
        have e1 := KL.out.cell 1
        have e2 := KL.out.cell 2
        have el := KL.out.lt
        have c0 := K5.out.cell 0
        have c1 := K5.out.cell 1
        have c2 := K5.out.cell 2
        have c3 := K5.out.cell 3
        have f0 := K5.out.frozen 0
        have f1 := K5.out.frozen 1
        have f2 := K5.out.frozen 2
        have f3 := K5.out.frozen 3
        have l4 := K5.out.lt
        have hz2 := GX.out.size
        simp only [List.getElem?_toArray, List.getElem?_cons_zero, List.getElem?_cons_succ] at e0 e1 e2 c0 c1 c2 c3
        refine wp_loop_rounds 3 ?_
        rw [rounds_succ]
        go_wp2
        go_quiet (first | (go_at_call 56; with_reducible first | exact Calls.quiet_of_same ((Sx.out _).mono fun e w2 h => ⟨h.1, h.2.symm⟩) | exact quiet_sum (Sx.out _)) | (go_at_call 56; with_reducible first | exact Calls.quiet_of_same ((Sy.out _).mono fun e w2 h => ⟨h.1, h.2.symm⟩) | exact quiet_sum (Sy.out _)) | (go_at_call 56; with_reducible first | exact Calls.quiet_of_same ((Sz.out _).mono fun e w2 h => ⟨h.1, h.2.symm⟩) | exact quiet_sum (Sz.out _)))
        go_wp2
        rw [rounds_succ]
        go_wp2
        go_quiet (first | (go_at_call 56; with_reducible first | exact Calls.quiet_of_same ((Sx.out _).mono fun e w2 h => ⟨h.1, h.2.symm⟩) | exact quiet_sum (Sx.out _)) | (go_at_call 56; with_reducible first | exact Calls.quiet_of_same ((Sy.out _).mono fun e w2 h => ⟨h.1, h.2.symm⟩) | exact quiet_sum (Sy.out _)) | (go_at_call 56; with_reducible first | exact Calls.quiet_of_same ((Sz.out _).mono fun e w2 h => ⟨h.1, h.2.symm⟩) | exact quiet_sum (Sz.out _)))
        go_wp2
        rw [rounds_succ]
        have s1 := trivial
        go_wp2_with (first
          | (go_at_call 56; (with_reducible refine (Sy.out _).mono ?_); rintro e w2 ⟨rfl, rfl⟩)
          | (clear s1; go_at_call 57; (with_reducible refine (T1.out _).mono ?_); rintro e w2 ⟨rfl, rfl⟩; have s2 := trivial)
          | (clear s2; go_at_call 57; (with_reducible refine (T2.out _).mono ?_); rintro e w2 ⟨rfl, rfl⟩))
        have hne : W.heap.size ≠ w.heap.size + 1 := by omega
        (try simp only [Exit.inBlock, Exit.then])
        refine bodyPost_ret (results_cell2 rfl _ _ (w.heap.size + 1) [.int .i64 3, .int .i64 L, .int .i64 (stripUp x sy L), .int .i64 (stripUp z sy L)] _ rfl ?_ Tryd.underlying48 rfl (by kernel_rfl)) rfl ?_
        rotate_left
        · exact ⟨rfl, (by (repeat (with_reducible first | exact GX.out | refine Grow.grow_drewN ?_ _ | refine Grow.grow_drew ?_ | refine Grow.grow_setCell ?_ ?_ _ | refine Grow.grow_alloc ?_ _)) <;> omega)⟩
        · refine known_eqA (c := ((((#[.int .i64 0, .int .i64 0, .int .i64 0, .int .i64 0] : Array Value).setIfInBounds 0 (.int .i64 3)).setIfInBounds 1 (.int .i64 L)).setIfInBounds 2 (.int .i64 (stripUp x sy L))).setIfInBounds 3 (.int .i64 (stripUp z sy L))) ?_ rfl
          (repeat (with_reducible first | exact K5.out | apply Known.same | apply Known.other _ hne | apply Known.alloc | apply Known.drewN | apply Known.drew))
      · have um : decide (y < 0) = false := decide_eq_false cm
        rw [if_neg cm]
        go_enter Tryd.func21, Tryd.ntmps21
        go_wp2_with (go_at_call 55; (with_reducible refine (DW.out _).mono ?_); rintro e w1 ⟨rfl, hb⟩; have HB := Lib.hid hb; clear hb; have GX := Lib.hid (show Below w.heap.size w w1 from grow_trans (grow_alloc (grow_alloc (grow_refl w) _) _) HB.out); have hz := GX.out.size; have K2 := Lib.hid (((Known.new w #[.int .i64 x, .int .i64 y, .int .i64 z] 46).alloc (.cells #[.int .i64 0, .int .i64 0, .int .i64 0, .int .i64 0] 48)).below HB.out); have K4 := Lib.hid ((Known.new' (w := w.alloc (.cells #[.int .i64 x, .int .i64 y, .int .i64 z] 46)) (c := #[.int .i64 0, .int .i64 0, .int .i64 0, .int .i64 0]) (t := 48) (b := w.heap.size + 1) (by simp)).below HB.out); have q0 := K2.out.cell 0; have q1 := K2.out.cell 1; have q2 := K2.out.cell 2; have q3 := K2.out.lt; have c0 := K4.out.cell 0; have c1 := K4.out.cell 1; have c2 := K4.out.cell 2; have c3 := K4.out.cell 3; have f0 := K4.out.frozen 0; have f1 := K4.out.frozen 1; have f2 := K4.out.frozen 2; have f3 := K4.out.frozen 3; have l4 := K4.out.lt; simp only [List.getElem?_toArray, List.getElem?_cons_zero, List.getElem?_cons_succ] at q0 q1 q2 c0 c1 c2 c3)
        refine Grow.seal_wp ?_
        intro W hW
        have KL := Lib.hid (show Known W w1.heap.size #[.int .i64 x, .int .i64 y, .int .i64 z] from hW.out ▸ Known.new w1 #[.int .i64 x, .int .i64 y, .int .i64 z] 3)
        have GY := Lib.hid (show Below w.heap.size w W from hW.out ▸ grow_alloc GX.out _)
        have K5 := Lib.hid (show Known W (w.heap.size + 1) #[.int .i64 0, .int .i64 0, .int .i64 0, .int .i64 0] from hW.out ▸ K4.out.alloc _)
        clear hW K2 K4 GX c0 c1 c2 c3 f0 f1 f2 f3 q0 q1 q2 q3 l4
        have GX := GY
        have e0 := KL.out.cell 0
        have e1 := KL.out.cell 1
        have e2 := KL.out.cell 2
        have el := KL.out.lt
        have c0 := K5.out.cell 0
        have c1 := K5.out.cell 1
        have c2 := K5.out.cell 2
        have c3 := K5.out.cell 3
        have f0 := K5.out.frozen 0
        have f1 := K5.out.frozen 1
        have f2 := K5.out.frozen 2
        have f3 := K5.out.frozen 3
        have l4 := K5.out.lt
        have hz2 := GX.out.size
        simp only [List.getElem?_toArray, List.getElem?_cons_zero, List.getElem?_cons_succ] at e0 e1 e2 c0 c1 c2 c3
        refine wp_loop_rounds 3 ?_
        rw [rounds_succ]
        go_wp2
        go_quiet (first | (go_at_call 56; with_reducible first | exact Calls.quiet_of_same ((Sx.out _).mono fun e w2 h => ⟨h.1, h.2.symm⟩) | exact quiet_sum (Sx.out _)) | (go_at_call 56; with_reducible first | exact Calls.quiet_of_same ((Sy.out _).mono fun e w2 h => ⟨h.1, h.2.symm⟩) | exact quiet_sum (Sy.out _)) | (go_at_call 56; with_reducible first | exact Calls.quiet_of_same ((Sz.out _).mono fun e w2 h => ⟨h.1, h.2.symm⟩) | exact quiet_sum (Sz.out _)))
        go_wp2
        rw [rounds_succ]
        go_wp2
        go_quiet (first | (go_at_call 56; with_reducible first | exact Calls.quiet_of_same ((Sx.out _).mono fun e w2 h => ⟨h.1, h.2.symm⟩) | exact quiet_sum (Sx.out _)) | (go_at_call 56; with_reducible first | exact Calls.quiet_of_same ((Sy.out _).mono fun e w2 h => ⟨h.1, h.2.symm⟩) | exact quiet_sum (Sy.out _)) | (go_at_call 56; with_reducible first | exact Calls.quiet_of_same ((Sz.out _).mono fun e w2 h => ⟨h.1, h.2.symm⟩) | exact quiet_sum (Sz.out _)))
        go_wp2
        rw [rounds_succ]
        have s1 := trivial
        go_wp2_with (first
          | (go_at_call 56; (with_reducible refine (Sy.out _).mono ?_); rintro e w2 ⟨rfl, rfl⟩)
          | (clear s1; go_at_call 57; (with_reducible refine (T1.out _).mono ?_); rintro e w2 ⟨rfl, rfl⟩; have s2 := trivial)
          | (clear s2; go_at_call 57; (with_reducible refine (T2.out _).mono ?_); rintro e w2 ⟨rfl, rfl⟩))
        have hne : W.heap.size ≠ w.heap.size + 1 := by omega
        (try simp only [Exit.inBlock, Exit.then])
        refine bodyPost_ret (results_cell2 rfl _ _ (w.heap.size + 1) [.int .i64 2, .int .i64 L, .int .i64 (stripUp x sy L), .int .i64 (stripUp z sy L)] _ rfl ?_ Tryd.underlying48 rfl (by kernel_rfl)) rfl ?_
        rotate_left
        · exact ⟨rfl, (by (repeat (with_reducible first | exact GX.out | refine Grow.grow_drewN ?_ _ | refine Grow.grow_drew ?_ | refine Grow.grow_setCell ?_ ?_ _ | refine Grow.grow_alloc ?_ _)) <;> omega)⟩
        · refine known_eqA (c := ((((#[.int .i64 0, .int .i64 0, .int .i64 0, .int .i64 0] : Array Value).setIfInBounds 0 (.int .i64 2)).setIfInBounds 1 (.int .i64 L)).setIfInBounds 2 (.int .i64 (stripUp x sy L))).setIfInBounds 3 (.int .i64 (stripUp z sy L))) ?_ rfl
          (repeat (with_reducible first | exact K5.out | apply Known.same | apply Known.other _ hne | apply Known.alloc | apply Known.drewN | apply Known.drew))
  · have v1 : decide (sz d.x < sz d.y) = false := decide_eq_false c1
    by_cases c2 : sz d.x < sz d.z
    · have v2 : decide (sz d.x < sz d.z) = true := decide_eq_true c2
      have hax : axis d = 2 := axis2 (by omega) (by omega)
      rw [cellAt_2 hax]
      have hm : 0 < sz d.z ∧ sz d.z ≤ 1048576 := by unfold fM at m0 m1; rw [hax] at m0 m1; exact ⟨m0, m1⟩
      have hu : -sz d.z ≤ d.x ∧ d.x ≤ sz d.z := by unfold fM fU at m2 m3; rw [hax] at m2 m3; exact ⟨m2, m3⟩
      have hv : -sz d.z ≤ d.y ∧ d.y ≤ sz d.z := by unfold fM fV at m4 m5; rw [hax] at m4 m5; exact ⟨m4, m5⟩
      have T1 := Lib.hid (fun X => ST.out d.x (sz d.z) X hm hu)
      have T2 := Lib.hid (fun X => ST.out d.y (sz d.z) X hm hv)
      clear ST hax m0 m1 m2 m3 m4 m5
      obtain ⟨x, y, z⟩ := d
      unfold drV at DW ⊢
      simp only at *
      generalize sz x = sx at *
      generalize sz y = sy at *
      generalize sz z = sz' at *
      by_cases cm : z < 0
      · have um : decide (z < 0) = true := decide_eq_true cm
        rw [if_pos cm]
        go_enter Tryd.func21, Tryd.ntmps21
        go_wp2_with (go_at_call 55; (with_reducible refine (DW.out _).mono ?_); rintro e w1 ⟨rfl, hb⟩; have HB := Lib.hid hb; clear hb; have GX := Lib.hid (show Below w.heap.size w w1 from grow_trans (grow_alloc (grow_alloc (grow_refl w) _) _) HB.out); have hz := GX.out.size; have K2 := Lib.hid (((Known.new w #[.int .i64 x, .int .i64 y, .int .i64 z] 46).alloc (.cells #[.int .i64 0, .int .i64 0, .int .i64 0, .int .i64 0] 48)).below HB.out); have K4 := Lib.hid ((Known.new' (w := w.alloc (.cells #[.int .i64 x, .int .i64 y, .int .i64 z] 46)) (c := #[.int .i64 0, .int .i64 0, .int .i64 0, .int .i64 0]) (t := 48) (b := w.heap.size + 1) (by simp)).below HB.out); have q0 := K2.out.cell 0; have q1 := K2.out.cell 1; have q2 := K2.out.cell 2; have q3 := K2.out.lt; have c0 := K4.out.cell 0; have c1 := K4.out.cell 1; have c2 := K4.out.cell 2; have c3 := K4.out.cell 3; have f0 := K4.out.frozen 0; have f1 := K4.out.frozen 1; have f2 := K4.out.frozen 2; have f3 := K4.out.frozen 3; have l4 := K4.out.lt; simp only [List.getElem?_toArray, List.getElem?_cons_zero, List.getElem?_cons_succ] at q0 q1 q2 c0 c1 c2 c3)
        refine Grow.seal_wp ?_
        intro W hW
        have KL := Lib.hid (show Known W w1.heap.size #[.int .i64 x, .int .i64 y, .int .i64 z] from hW.out ▸ Known.new w1 #[.int .i64 x, .int .i64 y, .int .i64 z] 3)
        have GY := Lib.hid (show Below w.heap.size w W from hW.out ▸ grow_alloc GX.out _)
        have K5 := Lib.hid (show Known W (w.heap.size + 1) #[.int .i64 0, .int .i64 0, .int .i64 0, .int .i64 0] from hW.out ▸ K4.out.alloc _)
        clear hW K2 K4 GX c0 c1 c2 c3 f0 f1 f2 f3 q0 q1 q2 q3 l4
        have GX := GY
        have e0 := KL.out.cell 0
        have e1 := KL.out.cell 1
        have e2 := KL.out.cell 2
        have el := KL.out.lt
        have c0 := K5.out.cell 0
        have c1 := K5.out.cell 1
        have c2 := K5.out.cell 2
        have c3 := K5.out.cell 3
        have f0 := K5.out.frozen 0
        have f1 := K5.out.frozen 1
        have f2 := K5.out.frozen 2
        have f3 := K5.out.frozen 3
        have l4 := K5.out.lt
        have hz2 := GX.out.size
        simp only [List.getElem?_toArray, List.getElem?_cons_zero, List.getElem?_cons_succ] at e0 e1 e2 c0 c1 c2 c3
        refine wp_loop_rounds 3 ?_
        rw [rounds_succ]
        go_wp2
        go_quiet (first | (go_at_call 56; with_reducible first | exact Calls.quiet_of_same ((Sx.out _).mono fun e w2 h => ⟨h.1, h.2.symm⟩) | exact quiet_sum (Sx.out _)) | (go_at_call 56; with_reducible first | exact Calls.quiet_of_same ((Sy.out _).mono fun e w2 h => ⟨h.1, h.2.symm⟩) | exact quiet_sum (Sy.out _)) | (go_at_call 56; with_reducible first | exact Calls.quiet_of_same ((Sz.out _).mono fun e w2 h => ⟨h.1, h.2.symm⟩) | exact quiet_sum (Sz.out _)))
        go_wp2
        rw [rounds_succ]
        go_wp2
        go_quiet (first | (go_at_call 56; with_reducible first | exact Calls.quiet_of_same ((Sx.out _).mono fun e w2 h => ⟨h.1, h.2.symm⟩) | exact quiet_sum (Sx.out _)) | (go_at_call 56; with_reducible first | exact Calls.quiet_of_same ((Sy.out _).mono fun e w2 h => ⟨h.1, h.2.symm⟩) | exact quiet_sum (Sy.out _)) | (go_at_call 56; with_reducible first | exact Calls.quiet_of_same ((Sz.out _).mono fun e w2 h => ⟨h.1, h.2.symm⟩) | exact quiet_sum (Sz.out _)))
        go_wp2
        rw [rounds_succ]
        have s1 := trivial
        go_wp2_with (first
          | (go_at_call 56; (with_reducible refine (Sz.out _).mono ?_); rintro e w2 ⟨rfl, rfl⟩)
          | (clear s1; go_at_call 57; (with_reducible refine (T1.out _).mono ?_); rintro e w2 ⟨rfl, rfl⟩; have s2 := trivial)
          | (clear s2; go_at_call 57; (with_reducible refine (T2.out _).mono ?_); rintro e w2 ⟨rfl, rfl⟩))
        have hne : W.heap.size ≠ w.heap.size + 1 := by omega
        (try simp only [Exit.inBlock, Exit.then])
        refine bodyPost_ret (results_cell2 rfl _ _ (w.heap.size + 1) [.int .i64 5, .int .i64 L, .int .i64 (stripUp x sz' L), .int .i64 (stripUp y sz' L)] _ rfl ?_ Tryd.underlying48 rfl (by kernel_rfl)) rfl ?_
        rotate_left
        · exact ⟨rfl, (by (repeat (with_reducible first | exact GX.out | refine Grow.grow_drewN ?_ _ | refine Grow.grow_drew ?_ | refine Grow.grow_setCell ?_ ?_ _ | refine Grow.grow_alloc ?_ _)) <;> omega)⟩
        · refine known_eqA (c := ((((#[.int .i64 0, .int .i64 0, .int .i64 0, .int .i64 0] : Array Value).setIfInBounds 0 (.int .i64 5)).setIfInBounds 1 (.int .i64 L)).setIfInBounds 2 (.int .i64 (stripUp x sz' L))).setIfInBounds 3 (.int .i64 (stripUp y sz' L))) ?_ rfl
          (repeat (with_reducible first | exact K5.out | apply Known.same | apply Known.other _ hne | apply Known.alloc | apply Known.drewN | apply Known.drew))
      · have um : decide (z < 0) = false := decide_eq_false cm
        rw [if_neg cm]
        go_enter Tryd.func21, Tryd.ntmps21
        go_wp2_with (go_at_call 55; (with_reducible refine (DW.out _).mono ?_); rintro e w1 ⟨rfl, hb⟩; have HB := Lib.hid hb; clear hb; have GX := Lib.hid (show Below w.heap.size w w1 from grow_trans (grow_alloc (grow_alloc (grow_refl w) _) _) HB.out); have hz := GX.out.size; have K2 := Lib.hid (((Known.new w #[.int .i64 x, .int .i64 y, .int .i64 z] 46).alloc (.cells #[.int .i64 0, .int .i64 0, .int .i64 0, .int .i64 0] 48)).below HB.out); have K4 := Lib.hid ((Known.new' (w := w.alloc (.cells #[.int .i64 x, .int .i64 y, .int .i64 z] 46)) (c := #[.int .i64 0, .int .i64 0, .int .i64 0, .int .i64 0]) (t := 48) (b := w.heap.size + 1) (by simp)).below HB.out); have q0 := K2.out.cell 0; have q1 := K2.out.cell 1; have q2 := K2.out.cell 2; have q3 := K2.out.lt; have c0 := K4.out.cell 0; have c1 := K4.out.cell 1; have c2 := K4.out.cell 2; have c3 := K4.out.cell 3; have f0 := K4.out.frozen 0; have f1 := K4.out.frozen 1; have f2 := K4.out.frozen 2; have f3 := K4.out.frozen 3; have l4 := K4.out.lt; simp only [List.getElem?_toArray, List.getElem?_cons_zero, List.getElem?_cons_succ] at q0 q1 q2 c0 c1 c2 c3)
        refine Grow.seal_wp ?_
        intro W hW
        have KL := Lib.hid (show Known W w1.heap.size #[.int .i64 x, .int .i64 y, .int .i64 z] from hW.out ▸ Known.new w1 #[.int .i64 x, .int .i64 y, .int .i64 z] 3)
        have GY := Lib.hid (show Below w.heap.size w W from hW.out ▸ grow_alloc GX.out _)
        have K5 := Lib.hid (show Known W (w.heap.size + 1) #[.int .i64 0, .int .i64 0, .int .i64 0, .int .i64 0] from hW.out ▸ K4.out.alloc _)
        clear hW K2 K4 GX c0 c1 c2 c3 f0 f1 f2 f3 q0 q1 q2 q3 l4
        have GX := GY
        have e0 := KL.out.cell 0
        have e1 := KL.out.cell 1
        have e2 := KL.out.cell 2
        have el := KL.out.lt
        have c0 := K5.out.cell 0
        have c1 := K5.out.cell 1
        have c2 := K5.out.cell 2
        have c3 := K5.out.cell 3
        have f0 := K5.out.frozen 0
        have f1 := K5.out.frozen 1
        have f2 := K5.out.frozen 2
        have f3 := K5.out.frozen 3
        have l4 := K5.out.lt
        have hz2 := GX.out.size
        simp only [List.getElem?_toArray, List.getElem?_cons_zero, List.getElem?_cons_succ] at e0 e1 e2 c0 c1 c2 c3
        refine wp_loop_rounds 3 ?_
        rw [rounds_succ]
        go_wp2
        go_quiet (first | (go_at_call 56; with_reducible first | exact Calls.quiet_of_same ((Sx.out _).mono fun e w2 h => ⟨h.1, h.2.symm⟩) | exact quiet_sum (Sx.out _)) | (go_at_call 56; with_reducible first | exact Calls.quiet_of_same ((Sy.out _).mono fun e w2 h => ⟨h.1, h.2.symm⟩) | exact quiet_sum (Sy.out _)) | (go_at_call 56; with_reducible first | exact Calls.quiet_of_same ((Sz.out _).mono fun e w2 h => ⟨h.1, h.2.symm⟩) | exact quiet_sum (Sz.out _)))
        go_wp2
        rw [rounds_succ]
        go_wp2
        go_quiet (first | (go_at_call 56; with_reducible first | exact Calls.quiet_of_same ((Sx.out _).mono fun e w2 h => ⟨h.1, h.2.symm⟩) | exact quiet_sum (Sx.out _)) | (go_at_call 56; with_reducible first | exact Calls.quiet_of_same ((Sy.out _).mono fun e w2 h => ⟨h.1, h.2.symm⟩) | exact quiet_sum (Sy.out _)) | (go_at_call 56; with_reducible first | exact Calls.quiet_of_same ((Sz.out _).mono fun e w2 h => ⟨h.1, h.2.symm⟩) | exact quiet_sum (Sz.out _)))
        go_wp2
        rw [rounds_succ]
        have s1 := trivial
        go_wp2_with (first
          | (go_at_call 56; (with_reducible refine (Sz.out _).mono ?_); rintro e w2 ⟨rfl, rfl⟩)
          | (clear s1; go_at_call 57; (with_reducible refine (T1.out _).mono ?_); rintro e w2 ⟨rfl, rfl⟩; have s2 := trivial)
          | (clear s2; go_at_call 57; (with_reducible refine (T2.out _).mono ?_); rintro e w2 ⟨rfl, rfl⟩))
        have hne : W.heap.size ≠ w.heap.size + 1 := by omega
        (try simp only [Exit.inBlock, Exit.then])
        refine bodyPost_ret (results_cell2 rfl _ _ (w.heap.size + 1) [.int .i64 4, .int .i64 L, .int .i64 (stripUp x sz' L), .int .i64 (stripUp y sz' L)] _ rfl ?_ Tryd.underlying48 rfl (by kernel_rfl)) rfl ?_
        rotate_left
        · exact ⟨rfl, (by (repeat (with_reducible first | exact GX.out | refine Grow.grow_drewN ?_ _ | refine Grow.grow_drew ?_ | refine Grow.grow_setCell ?_ ?_ _ | refine Grow.grow_alloc ?_ _)) <;> omega)⟩
        · refine known_eqA (c := ((((#[.int .i64 0, .int .i64 0, .int .i64 0, .int .i64 0] : Array Value).setIfInBounds 0 (.int .i64 4)).setIfInBounds 1 (.int .i64 L)).setIfInBounds 2 (.int .i64 (stripUp x sz' L))).setIfInBounds 3 (.int .i64 (stripUp y sz' L))) ?_ rfl
          (repeat (with_reducible first | exact K5.out | apply Known.same | apply Known.other _ hne | apply Known.alloc | apply Known.drewN | apply Known.drew))
    · have v2 : decide (sz d.x < sz d.z) = false := decide_eq_false c2
      have hax : axis d = 0 := axis0 (by omega) (by omega)
      rw [cellAt_0 hax]
      have hm : 0 < sz d.x ∧ sz d.x ≤ 1048576 := by unfold fM at m0 m1; rw [hax] at m0 m1; exact ⟨m0, m1⟩
      have hu : -sz d.x ≤ d.y ∧ d.y ≤ sz d.x := by unfold fM fU at m2 m3; rw [hax] at m2 m3; exact ⟨m2, m3⟩
      have hv : -sz d.x ≤ d.z ∧ d.z ≤ sz d.x := by unfold fM fV at m4 m5; rw [hax] at m4 m5; exact ⟨m4, m5⟩
      have T1 := Lib.hid (fun X => ST.out d.y (sz d.x) X hm hu)
      have T2 := Lib.hid (fun X => ST.out d.z (sz d.x) X hm hv)
      clear ST hax m0 m1 m2 m3 m4 m5
      obtain ⟨x, y, z⟩ := d
      unfold drV at DW ⊢
      simp only at *
      generalize sz x = sx at *
      generalize sz y = sy at *
      generalize sz z = sz' at *
      by_cases cm : x < 0
      · have um : decide (x < 0) = true := decide_eq_true cm
        rw [if_pos cm]
        go_enter Tryd.func21, Tryd.ntmps21
        go_wp2_with (go_at_call 55; (with_reducible refine (DW.out _).mono ?_); rintro e w1 ⟨rfl, hb⟩; have HB := Lib.hid hb; clear hb; have GX := Lib.hid (show Below w.heap.size w w1 from grow_trans (grow_alloc (grow_alloc (grow_refl w) _) _) HB.out); have hz := GX.out.size; have K2 := Lib.hid (((Known.new w #[.int .i64 x, .int .i64 y, .int .i64 z] 46).alloc (.cells #[.int .i64 0, .int .i64 0, .int .i64 0, .int .i64 0] 48)).below HB.out); have K4 := Lib.hid ((Known.new' (w := w.alloc (.cells #[.int .i64 x, .int .i64 y, .int .i64 z] 46)) (c := #[.int .i64 0, .int .i64 0, .int .i64 0, .int .i64 0]) (t := 48) (b := w.heap.size + 1) (by simp)).below HB.out); have q0 := K2.out.cell 0; have q1 := K2.out.cell 1; have q2 := K2.out.cell 2; have q3 := K2.out.lt; have c0 := K4.out.cell 0; have c1 := K4.out.cell 1; have c2 := K4.out.cell 2; have c3 := K4.out.cell 3; have f0 := K4.out.frozen 0; have f1 := K4.out.frozen 1; have f2 := K4.out.frozen 2; have f3 := K4.out.frozen 3; have l4 := K4.out.lt; simp only [List.getElem?_toArray, List.getElem?_cons_zero, List.getElem?_cons_succ] at q0 q1 q2 c0 c1 c2 c3)
        refine Grow.seal_wp ?_
        intro W hW
        have KL := Lib.hid (show Known W w1.heap.size #[.int .i64 x, .int .i64 y, .int .i64 z] from hW.out ▸ Known.new w1 #[.int .i64 x, .int .i64 y, .int .i64 z] 3)
        have GY := Lib.hid (show Below w.heap.size w W from hW.out ▸ grow_alloc GX.out _)
        have K5 := Lib.hid (show Known W (w.heap.size + 1) #[.int .i64 0, .int .i64 0, .int .i64 0, .int .i64 0] from hW.out ▸ K4.out.alloc _)
        clear hW K2 K4 GX c0 c1 c2 c3 f0 f1 f2 f3 q0 q1 q2 q3 l4
        have GX := GY
        have e0 := KL.out.cell 0
        have e1 := KL.out.cell 1
        have e2 := KL.out.cell 2
        have el := KL.out.lt
        have c0 := K5.out.cell 0
        have c1 := K5.out.cell 1
        have c2 := K5.out.cell 2
        have c3 := K5.out.cell 3
        have f0 := K5.out.frozen 0
        have f1 := K5.out.frozen 1
        have f2 := K5.out.frozen 2
        have f3 := K5.out.frozen 3
        have l4 := K5.out.lt
        have hz2 := GX.out.size
        simp only [List.getElem?_toArray, List.getElem?_cons_zero, List.getElem?_cons_succ] at e0 e1 e2 c0 c1 c2 c3
        refine wp_loop_rounds 3 ?_
        rw [rounds_succ]
        go_wp2
        go_quiet (first | (go_at_call 56; with_reducible first | exact Calls.quiet_of_same ((Sx.out _).mono fun e w2 h => ⟨h.1, h.2.symm⟩) | exact quiet_sum (Sx.out _)) | (go_at_call 56; with_reducible first | exact Calls.quiet_of_same ((Sy.out _).mono fun e w2 h => ⟨h.1, h.2.symm⟩) | exact quiet_sum (Sy.out _)) | (go_at_call 56; with_reducible first | exact Calls.quiet_of_same ((Sz.out _).mono fun e w2 h => ⟨h.1, h.2.symm⟩) | exact quiet_sum (Sz.out _)))
        go_wp2
        rw [rounds_succ]
        go_wp2
        go_quiet (first | (go_at_call 56; with_reducible first | exact Calls.quiet_of_same ((Sx.out _).mono fun e w2 h => ⟨h.1, h.2.symm⟩) | exact quiet_sum (Sx.out _)) | (go_at_call 56; with_reducible first | exact Calls.quiet_of_same ((Sy.out _).mono fun e w2 h => ⟨h.1, h.2.symm⟩) | exact quiet_sum (Sy.out _)) | (go_at_call 56; with_reducible first | exact Calls.quiet_of_same ((Sz.out _).mono fun e w2 h => ⟨h.1, h.2.symm⟩) | exact quiet_sum (Sz.out _)))
        go_wp2
        rw [rounds_succ]
        have s1 := trivial
        go_wp2_with (first
          | (go_at_call 56; (with_reducible refine (Sx.out _).mono ?_); rintro e w2 ⟨rfl, rfl⟩)
          | (clear s1; go_at_call 57; (with_reducible refine (T1.out _).mono ?_); rintro e w2 ⟨rfl, rfl⟩; have s2 := trivial)
          | (clear s2; go_at_call 57; (with_reducible refine (T2.out _).mono ?_); rintro e w2 ⟨rfl, rfl⟩))
        have hne : W.heap.size ≠ w.heap.size + 1 := by omega
        (try simp only [Exit.inBlock, Exit.then])
        refine bodyPost_ret (results_cell2 rfl _ _ (w.heap.size + 1) [.int .i64 1, .int .i64 L, .int .i64 (stripUp y sx L), .int .i64 (stripUp z sx L)] _ rfl ?_ Tryd.underlying48 rfl (by kernel_rfl)) rfl ?_
        rotate_left
        · exact ⟨rfl, (by (repeat (with_reducible first | exact GX.out | refine Grow.grow_drewN ?_ _ | refine Grow.grow_drew ?_ | refine Grow.grow_setCell ?_ ?_ _ | refine Grow.grow_alloc ?_ _)) <;> omega)⟩
        · refine known_eqA (c := ((((#[.int .i64 0, .int .i64 0, .int .i64 0, .int .i64 0] : Array Value).setIfInBounds 0 (.int .i64 1)).setIfInBounds 1 (.int .i64 L)).setIfInBounds 2 (.int .i64 (stripUp y sx L))).setIfInBounds 3 (.int .i64 (stripUp z sx L))) ?_ rfl
          (repeat (with_reducible first | exact K5.out | apply Known.same | apply Known.other _ hne | apply Known.alloc | apply Known.drewN | apply Known.drew))
      · have um : decide (x < 0) = false := decide_eq_false cm
        rw [if_neg cm]
        go_enter Tryd.func21, Tryd.ntmps21
        go_wp2_with (go_at_call 55; (with_reducible refine (DW.out _).mono ?_); rintro e w1 ⟨rfl, hb⟩; have HB := Lib.hid hb; clear hb; have GX := Lib.hid (show Below w.heap.size w w1 from grow_trans (grow_alloc (grow_alloc (grow_refl w) _) _) HB.out); have hz := GX.out.size; have K2 := Lib.hid (((Known.new w #[.int .i64 x, .int .i64 y, .int .i64 z] 46).alloc (.cells #[.int .i64 0, .int .i64 0, .int .i64 0, .int .i64 0] 48)).below HB.out); have K4 := Lib.hid ((Known.new' (w := w.alloc (.cells #[.int .i64 x, .int .i64 y, .int .i64 z] 46)) (c := #[.int .i64 0, .int .i64 0, .int .i64 0, .int .i64 0]) (t := 48) (b := w.heap.size + 1) (by simp)).below HB.out); have q0 := K2.out.cell 0; have q1 := K2.out.cell 1; have q2 := K2.out.cell 2; have q3 := K2.out.lt; have c0 := K4.out.cell 0; have c1 := K4.out.cell 1; have c2 := K4.out.cell 2; have c3 := K4.out.cell 3; have f0 := K4.out.frozen 0; have f1 := K4.out.frozen 1; have f2 := K4.out.frozen 2; have f3 := K4.out.frozen 3; have l4 := K4.out.lt; simp only [List.getElem?_toArray, List.getElem?_cons_zero, List.getElem?_cons_succ] at q0 q1 q2 c0 c1 c2 c3)
        refine Grow.seal_wp ?_
        intro W hW
        have KL := Lib.hid (show Known W w1.heap.size #[.int .i64 x, .int .i64 y, .int .i64 z] from hW.out ▸ Known.new w1 #[.int .i64 x, .int .i64 y, .int .i64 z] 3)
        have GY := Lib.hid (show Below w.heap.size w W from hW.out ▸ grow_alloc GX.out _)
        have K5 := Lib.hid (show Known W (w.heap.size + 1) #[.int .i64 0, .int .i64 0, .int .i64 0, .int .i64 0] from hW.out ▸ K4.out.alloc _)
        clear hW K2 K4 GX c0 c1 c2 c3 f0 f1 f2 f3 q0 q1 q2 q3 l4
        have GX := GY
        have e0 := KL.out.cell 0
        have e1 := KL.out.cell 1
        have e2 := KL.out.cell 2
        have el := KL.out.lt
        have c0 := K5.out.cell 0
        have c1 := K5.out.cell 1
        have c2 := K5.out.cell 2
        have c3 := K5.out.cell 3
        have f0 := K5.out.frozen 0
        have f1 := K5.out.frozen 1
        have f2 := K5.out.frozen 2
        have f3 := K5.out.frozen 3
        have l4 := K5.out.lt
        have hz2 := GX.out.size
        simp only [List.getElem?_toArray, List.getElem?_cons_zero, List.getElem?_cons_succ] at e0 e1 e2 c0 c1 c2 c3
        refine wp_loop_rounds 3 ?_
        rw [rounds_succ]
        go_wp2
        go_quiet (first | (go_at_call 56; with_reducible first | exact Calls.quiet_of_same ((Sx.out _).mono fun e w2 h => ⟨h.1, h.2.symm⟩) | exact quiet_sum (Sx.out _)) | (go_at_call 56; with_reducible first | exact Calls.quiet_of_same ((Sy.out _).mono fun e w2 h => ⟨h.1, h.2.symm⟩) | exact quiet_sum (Sy.out _)) | (go_at_call 56; with_reducible first | exact Calls.quiet_of_same ((Sz.out _).mono fun e w2 h => ⟨h.1, h.2.symm⟩) | exact quiet_sum (Sz.out _)))
        go_wp2
        rw [rounds_succ]
        go_wp2
        go_quiet (first | (go_at_call 56; with_reducible first | exact Calls.quiet_of_same ((Sx.out _).mono fun e w2 h => ⟨h.1, h.2.symm⟩) | exact quiet_sum (Sx.out _)) | (go_at_call 56; with_reducible first | exact Calls.quiet_of_same ((Sy.out _).mono fun e w2 h => ⟨h.1, h.2.symm⟩) | exact quiet_sum (Sy.out _)) | (go_at_call 56; with_reducible first | exact Calls.quiet_of_same ((Sz.out _).mono fun e w2 h => ⟨h.1, h.2.symm⟩) | exact quiet_sum (Sz.out _)))
        go_wp2
        rw [rounds_succ]
        have s1 := trivial
        go_wp2_with (first
          | (go_at_call 56; (with_reducible refine (Sx.out _).mono ?_); rintro e w2 ⟨rfl, rfl⟩)
          | (clear s1; go_at_call 57; (with_reducible refine (T1.out _).mono ?_); rintro e w2 ⟨rfl, rfl⟩; have s2 := trivial)
          | (clear s2; go_at_call 57; (with_reducible refine (T2.out _).mono ?_); rintro e w2 ⟨rfl, rfl⟩))
        have hne : W.heap.size ≠ w.heap.size + 1 := by omega
        (try simp only [Exit.inBlock, Exit.then])
        refine bodyPost_ret (results_cell2 rfl _ _ (w.heap.size + 1) [.int .i64 0, .int .i64 L, .int .i64 (stripUp y sx L), .int .i64 (stripUp z sx L)] _ rfl ?_ Tryd.underlying48 rfl (by kernel_rfl)) rfl ?_
        rotate_left
        · exact ⟨rfl, (by (repeat (with_reducible first | exact GX.out | refine Grow.grow_drewN ?_ _ | refine Grow.grow_drew ?_ | refine Grow.grow_setCell ?_ ?_ _ | refine Grow.grow_alloc ?_ _)) <;> omega)⟩
        · refine known_eqA (c := ((((#[.int .i64 0, .int .i64 0, .int .i64 0, .int .i64 0] : Array Value).setIfInBounds 0 (.int .i64 0)).setIfInBounds 1 (.int .i64 L)).setIfInBounds 2 (.int .i64 (stripUp y sx L))).setIfInBounds 3 (.int .i64 (stripUp z sx L))) ?_ rfl
          (repeat (with_reducible first | exact K5.out | apply Known.same | apply Known.other _ hne | apply Known.alloc | apply Known.drewN | apply Known.drew))
end Go.Proofs.YtjjjbkehmnfgbaaDoor
