/- Shapes of three points: three numbers sorted by the sides across. -/
import Derived.Test.YtlnbeildplafbaaGreatDoorPs2
set_option linter.unusedSimpArgs false
set_option linter.unusedVariables false
namespace Go.Proofs.YtlnbeildplafbaaGreatDoor
open Go.RowKit Go.Grow Go.Wd Go.Atl Go.Pl

def cmpV (bt : Nat) : Value := .func (.func 58) #[] #[.pointer (some ⟨bt, 0, none⟩)]
/-- The row of three numbers as it stands. -/
structure Row3 (w X : World) (g : Nat) (i j k : Nat) : Prop where
  row : Known X g #[.int .i64 (i : Nat), .int .i64 (j : Nat), .int .i64 (k : Nat)]
  but : But g w X
theorem Row3.below {w X Y : World} {g i j k : Nat} (h : Row3 w X g i j k) (hb : Below X.heap.size X Y) : Row3 w Y g i j k := ⟨h.row.below hb, h.but.trans (But.of_below hb)⟩
theorem Row3.swap01 {w X : World} {g i j k : Nat} (h : Row3 w X g i j k) : Row3 w ((X.setCell ⟨g, 1, none⟩ (.int .i64 (i : Nat))).setCell ⟨g, 0, none⟩ (.int .i64 (j : Nat))) g j i k := ⟨by have := (h.row.same 1 (.int .i64 (i : Nat))).same 0 (.int .i64 (j : Nat)); simpa using this, (h.but.setCell _ _).setCell _ _⟩
theorem Row3.swap12 {w X : World} {g i j k : Nat} (h : Row3 w X g i j k) : Row3 w ((X.setCell ⟨g, 2, none⟩ (.int .i64 (j : Nat))).setCell ⟨g, 1, none⟩ (.int .i64 (k : Nat))) g i k j := ⟨by have := (h.row.same 2 (.int .i64 (j : Nat))).same 1 (.int .i64 (k : Nat)); simpa using this, (h.but.setCell _ _).setCell _ _⟩
theorem Pts.but {w X : World} {bp bt g : Nat} {a b c : Dr} (h : Pts w bp bt a b c) (hb : But g w X) (h1 : bp ≠ g) (h2 : bt ≠ g) : Pts X bp bt a b c := ⟨h.p.but hb h1, h.t.but hb h2⟩
set_option maxRecDepth 100000 in
set_option maxHeartbeats 16000000 in
theorem ins3_0 (a b c : Dr) (ha : goodP a = true) (hb : goodP b = true) (hc : goodP c = true) (w : World) (bp bt g : Nat) (hp : Pts w bp bt a b c) (h1 : bp ≠ g) (h2 : bt ≠ g) (hr : Known w g #[.int .i64 0, .int .i64 1, .int .i64 2]) (h01 : acr a b c 0 < acr a b c 1) (h02 : acr a b c 0 < acr a b c 2) (h12 : acr a b c 1 < acr a b c 2) :
    Calls Tryz.prog 115 #[.slice (some ⟨g, 0, none⟩) 3 3, .int .i64 0, .int .i64 3, cmpV bt] w fun e w' => e = .returned (.tuple #[]) ∧ Row3 w w' g 2 1 0 := by
  have CM10 := Lib.hid (fun X (hX : Pts X bp bt a b c) => show Calls Tryz.prog 58 #[.int .i64 1, .int .i64 0, .pointer (some ⟨bt, 0, none⟩)] X fun e w' => e = .returned (.int .i64 (acr a b c 0 - acr a b c 1)) ∧ Below X.heap.size X w' from cmp3_walk a b c ha hb hc 1 0 (by decide) (by decide) X bp bt hX)
  have CM20 := Lib.hid (fun X (hX : Pts X bp bt a b c) => show Calls Tryz.prog 58 #[.int .i64 2, .int .i64 0, .pointer (some ⟨bt, 0, none⟩)] X fun e w' => e = .returned (.int .i64 (acr a b c 0 - acr a b c 2)) ∧ Below X.heap.size X w' from cmp3_walk a b c ha hb hc 2 0 (by decide) (by decide) X bp bt hX)
  have CM21 := Lib.hid (fun X (hX : Pts X bp bt a b c) => show Calls Tryz.prog 58 #[.int .i64 2, .int .i64 1, .pointer (some ⟨bt, 0, none⟩)] X fun e w' => e = .returned (.int .i64 (acr a b c 1 - acr a b c 2)) ∧ Below X.heap.size X w' from cmp3_walk a b c ha hb hc 2 1 (by decide) (by decide) X bp bt hX)
  have PT := Lib.hid (fun X {i j k : Nat} (hX : Row3 w X g i j k) => hp.but hX.but h1 h2)
  have R0 := Lib.hid (show Row3 w w g 0 1 2 from ⟨hr, But.refl g w⟩)
  clear hp hr h1 h2
  generalize acr a b c 0 = D0 at *
  generalize acr a b c 1 = D1 at *
  generalize acr a b c 2 = D2 at *
  have d01 : decide (D0 - D1 < 0) = true := decide_eq_true (by omega)
  have d02 : decide (D0 - D2 < 0) = true := decide_eq_true (by omega)
  have d12 : decide (D1 - D2 < 0) = true := decide_eq_true (by omega)
  unfold cmpV
  have c0 := R0.out.row.cell 0
  have c1 := R0.out.row.cell 1
  have c2 := R0.out.row.cell 2
  have f0 := R0.out.row.frozen 0
  have f1 := R0.out.row.frozen 1
  have f2 := R0.out.row.frozen 2
  have lg := R0.out.row.lt
  simp only [List.getElem?_toArray, List.getElem?_cons_zero, List.getElem?_cons_succ] at c0 c1 c2
  go_enter Tryz.func115, Tryz.ntmps115
  go_wp2
  refine wp_loop_rounds 3 ?_
  rw [rounds_succ]
  go_wp2
  refine wp_loop_rounds 2 ?_
  rw [rounds_succ]
  go_upto_region 4 with (fail)
  refine Grow.wp_region_plan (.quiet [0, 1, 2, 3, 4, 5, 6, 7, 9, 10, 11, 12] (.reads [8, 13] (.tail [14, 15, 16]))) (by kernel_rfl) (by kernel_rfl) (by kernel_rfl) (by kernel_rfl) ?_ ?_
  · intro c aa d v ww h
    first
      | exact Grow.bodyPost_blind h
      | (simp (config := {zetaDelta := true}) only [Exit.then, Exit.inBlock] at h ⊢; first | exact Grow.bodyPost_blind h | exact h)
  simp only [Grow.Plan.wp, Grow.pick, List.getElem?_cons_zero, List.getElem?_cons_succ, List.cons_append, List.nil_append]
  repeat (go_big_quiet_step (fail))
  refine wpQuiet_nil ?_
  repeat (go_big_quiet_step (fail))
  refine wpQuiet_nil ?_
  go_upto_region 6 with (first
    | (go_at_call 58; go_loud ((with_reducible refine (CM10.out _ (PT.out _ (R0.out.below (by (repeat (with_reducible first | exact grow_refl _ | refine Grow.grow_drewN ?_ _ | refine Grow.grow_drew ?_ | refine Grow.grow_alloc ?_ _)))))).mono ?_); rintro e w1 ⟨rfl, hb⟩; have R1 := Lib.hid (R0.out.below (grow_trans (by (repeat (with_reducible first | exact grow_refl _ | refine Grow.grow_drewN ?_ _ | refine Grow.grow_drew ?_ | refine Grow.grow_alloc ?_ _))) hb)); clear hb c0 c1 c2 f0 f1 f2 lg)))
  have c0 := R1.out.row.cell 0
  have c1 := R1.out.row.cell 1
  have c2 := R1.out.row.cell 2
  have f0 := R1.out.row.frozen 0
  have f1 := R1.out.row.frozen 1
  have f2 := R1.out.row.frozen 2
  have lg := R1.out.row.lt
  simp only [List.getElem?_toArray, List.getElem?_cons_zero, List.getElem?_cons_succ] at c0 c1 c2
  refine Grow.wp_region_plan (.quiet [0, 1, 2, 3, 4, 5, 6, 7, 8, 10, 11, 12] (.reads [9, 13] (.tail [14, 15, 16, 17]))) (by kernel_rfl) (by kernel_rfl) (by kernel_rfl) (by kernel_rfl) ?_ ?_
  · intro c aa d v ww h
    first
      | exact Grow.bodyPost_blind h
      | (simp (config := {zetaDelta := true}) only [Exit.then, Exit.inBlock] at h ⊢; first | exact Grow.bodyPost_blind h | exact h)
  simp only [Grow.Plan.wp, Grow.pick, List.getElem?_cons_zero, List.getElem?_cons_succ, List.cons_append, List.nil_append]
  repeat (go_big_quiet_step (fail))
  refine wpQuiet_nil ?_
  repeat (go_big_quiet_step (fail))
  refine wpQuiet_nil ?_
  go_upto_region 5 with (fail)
  refine seal_wp fun X1 hX => ?_
  have Q1 := Lib.hid (show Row3 w X1 g 1 0 2 from by rw [hX.out]; exact (R1.out.swap01).below (grow_drew (grow_refl _)))
  clear hX c0 c1 c2 f0 f1 f2 lg
  have c0 := Q1.out.row.cell 0
  have c1 := Q1.out.row.cell 1
  have c2 := Q1.out.row.cell 2
  have f0 := Q1.out.row.frozen 0
  have f1 := Q1.out.row.frozen 1
  have f2 := Q1.out.row.frozen 2
  have lg := Q1.out.row.lt
  simp only [List.getElem?_toArray, List.getElem?_cons_zero, List.getElem?_cons_succ] at c0 c1 c2
  go_wp2
  rw [rounds_succ]
  go_upto_region 4 with (fail)
  refine Grow.wp_region_plan (.quiet [0, 1, 2, 3, 4, 5, 6, 7, 9, 10, 11, 12] (.reads [8, 13] (.tail [14, 15, 16]))) (by kernel_rfl) (by kernel_rfl) (by kernel_rfl) (by kernel_rfl) ?_ ?_
  · intro c aa d v ww h
    first
      | exact Grow.bodyPost_blind h
      | (simp (config := {zetaDelta := true}) only [Exit.then, Exit.inBlock] at h ⊢; first | exact Grow.bodyPost_blind h | exact h)
  simp only [Grow.Plan.wp, Grow.pick, List.getElem?_cons_zero, List.getElem?_cons_succ, List.cons_append, List.nil_append]
  repeat (go_big_quiet_step (fail))
  refine wpQuiet_nil ?_
  repeat (go_big_quiet_step (fail))
  refine wpQuiet_nil ?_
  go_wp2
  rw [rounds_succ]
  go_wp2
  refine wp_loop_rounds 3 ?_
  rw [rounds_succ]
  go_upto_region 4 with (fail)
  refine Grow.wp_region_plan (.quiet [0, 1, 2, 3, 4, 5, 6, 7, 9, 10, 11, 12] (.reads [8, 13] (.tail [14, 15, 16]))) (by kernel_rfl) (by kernel_rfl) (by kernel_rfl) (by kernel_rfl) ?_ ?_
  · intro c aa d v ww h
    first
      | exact Grow.bodyPost_blind h
      | (simp (config := {zetaDelta := true}) only [Exit.then, Exit.inBlock] at h ⊢; first | exact Grow.bodyPost_blind h | exact h)
  simp only [Grow.Plan.wp, Grow.pick, List.getElem?_cons_zero, List.getElem?_cons_succ, List.cons_append, List.nil_append]
  repeat (go_big_quiet_step (fail))
  refine wpQuiet_nil ?_
  repeat (go_big_quiet_step (fail))
  refine wpQuiet_nil ?_
  go_upto_region 6 with (first
    | (go_at_call 58; go_loud ((with_reducible refine (CM20.out _ (PT.out _ (Q1.out.below (by (repeat (with_reducible first | exact grow_refl _ | refine Grow.grow_drewN ?_ _ | refine Grow.grow_drew ?_ | refine Grow.grow_alloc ?_ _)))))).mono ?_); rintro e w2 ⟨rfl, hb⟩; have R2 := Lib.hid (Q1.out.below (grow_trans (by (repeat (with_reducible first | exact grow_refl _ | refine Grow.grow_drewN ?_ _ | refine Grow.grow_drew ?_ | refine Grow.grow_alloc ?_ _))) hb)); clear hb c0 c1 c2 f0 f1 f2 lg)))
  have c0 := R2.out.row.cell 0
  have c1 := R2.out.row.cell 1
  have c2 := R2.out.row.cell 2
  have f0 := R2.out.row.frozen 0
  have f1 := R2.out.row.frozen 1
  have f2 := R2.out.row.frozen 2
  have lg := R2.out.row.lt
  simp only [List.getElem?_toArray, List.getElem?_cons_zero, List.getElem?_cons_succ] at c0 c1 c2
  refine Grow.wp_region_plan (.quiet [0, 1, 2, 3, 4, 5, 6, 7, 8, 10, 11, 12] (.reads [9, 13] (.tail [14, 15, 16, 17]))) (by kernel_rfl) (by kernel_rfl) (by kernel_rfl) (by kernel_rfl) ?_ ?_
  · intro c aa d v ww h
    first
      | exact Grow.bodyPost_blind h
      | (simp (config := {zetaDelta := true}) only [Exit.then, Exit.inBlock] at h ⊢; first | exact Grow.bodyPost_blind h | exact h)
  simp only [Grow.Plan.wp, Grow.pick, List.getElem?_cons_zero, List.getElem?_cons_succ, List.cons_append, List.nil_append]
  repeat (go_big_quiet_step (fail))
  refine wpQuiet_nil ?_
  repeat (go_big_quiet_step (fail))
  refine wpQuiet_nil ?_
  go_upto_region 5 with (fail)
  refine seal_wp fun X2 hX => ?_
  have Q2 := Lib.hid (show Row3 w X2 g 1 2 0 from by rw [hX.out]; exact (R2.out.swap12).below (grow_drew (grow_refl _)))
  clear hX c0 c1 c2 f0 f1 f2 lg
  have c0 := Q2.out.row.cell 0
  have c1 := Q2.out.row.cell 1
  have c2 := Q2.out.row.cell 2
  have f0 := Q2.out.row.frozen 0
  have f1 := Q2.out.row.frozen 1
  have f2 := Q2.out.row.frozen 2
  have lg := Q2.out.row.lt
  simp only [List.getElem?_toArray, List.getElem?_cons_zero, List.getElem?_cons_succ] at c0 c1 c2
  go_wp2
  rw [rounds_succ]
  go_upto_region 4 with (fail)
  refine Grow.wp_region_plan (.quiet [0, 1, 2, 3, 4, 5, 6, 7, 9, 10, 11, 12] (.reads [8, 13] (.tail [14, 15, 16]))) (by kernel_rfl) (by kernel_rfl) (by kernel_rfl) (by kernel_rfl) ?_ ?_
  · intro c aa d v ww h
    first
      | exact Grow.bodyPost_blind h
      | (simp (config := {zetaDelta := true}) only [Exit.then, Exit.inBlock] at h ⊢; first | exact Grow.bodyPost_blind h | exact h)
  simp only [Grow.Plan.wp, Grow.pick, List.getElem?_cons_zero, List.getElem?_cons_succ, List.cons_append, List.nil_append]
  repeat (go_big_quiet_step (fail))
  refine wpQuiet_nil ?_
  repeat (go_big_quiet_step (fail))
  refine wpQuiet_nil ?_
  go_upto_region 6 with (first
    | (go_at_call 58; go_loud ((with_reducible refine (CM21.out _ (PT.out _ (Q2.out.below (by (repeat (with_reducible first | exact grow_refl _ | refine Grow.grow_drewN ?_ _ | refine Grow.grow_drew ?_ | refine Grow.grow_alloc ?_ _)))))).mono ?_); rintro e w3 ⟨rfl, hb⟩; have R3 := Lib.hid (Q2.out.below (grow_trans (by (repeat (with_reducible first | exact grow_refl _ | refine Grow.grow_drewN ?_ _ | refine Grow.grow_drew ?_ | refine Grow.grow_alloc ?_ _))) hb)); clear hb c0 c1 c2 f0 f1 f2 lg)))
  have c0 := R3.out.row.cell 0
  have c1 := R3.out.row.cell 1
  have c2 := R3.out.row.cell 2
  have f0 := R3.out.row.frozen 0
  have f1 := R3.out.row.frozen 1
  have f2 := R3.out.row.frozen 2
  have lg := R3.out.row.lt
  simp only [List.getElem?_toArray, List.getElem?_cons_zero, List.getElem?_cons_succ] at c0 c1 c2
  refine Grow.wp_region_plan (.quiet [0, 1, 2, 3, 4, 5, 6, 7, 8, 10, 11, 12] (.reads [9, 13] (.tail [14, 15, 16, 17]))) (by kernel_rfl) (by kernel_rfl) (by kernel_rfl) (by kernel_rfl) ?_ ?_
  · intro c aa d v ww h
    first
      | exact Grow.bodyPost_blind h
      | (simp (config := {zetaDelta := true}) only [Exit.then, Exit.inBlock] at h ⊢; first | exact Grow.bodyPost_blind h | exact h)
  simp only [Grow.Plan.wp, Grow.pick, List.getElem?_cons_zero, List.getElem?_cons_succ, List.cons_append, List.nil_append]
  repeat (go_big_quiet_step (fail))
  refine wpQuiet_nil ?_
  repeat (go_big_quiet_step (fail))
  refine wpQuiet_nil ?_
  go_upto_region 5 with (fail)
  refine seal_wp fun X3 hX => ?_
  have Q3 := Lib.hid (show Row3 w X3 g 2 1 0 from by rw [hX.out]; exact (R3.out.swap01).below (grow_drew (grow_refl _)))
  clear hX c0 c1 c2 f0 f1 f2 lg
  have c0 := Q3.out.row.cell 0
  have c1 := Q3.out.row.cell 1
  have c2 := Q3.out.row.cell 2
  have f0 := Q3.out.row.frozen 0
  have f1 := Q3.out.row.frozen 1
  have f2 := Q3.out.row.frozen 2
  have lg := Q3.out.row.lt
  simp only [List.getElem?_toArray, List.getElem?_cons_zero, List.getElem?_cons_succ] at c0 c1 c2
  go_wp2
  rw [rounds_succ]
  go_upto_region 4 with (fail)
  refine Grow.wp_region_plan (.quiet [0, 1, 2, 3, 4, 5, 6, 7, 9, 10, 11, 12] (.reads [8, 13] (.tail [14, 15, 16]))) (by kernel_rfl) (by kernel_rfl) (by kernel_rfl) (by kernel_rfl) ?_ ?_
  · intro c aa d v ww h
    first
      | exact Grow.bodyPost_blind h
      | (simp (config := {zetaDelta := true}) only [Exit.then, Exit.inBlock] at h ⊢; first | exact Grow.bodyPost_blind h | exact h)
  simp only [Grow.Plan.wp, Grow.pick, List.getElem?_cons_zero, List.getElem?_cons_succ, List.cons_append, List.nil_append]
  repeat (go_big_quiet_step (fail))
  refine wpQuiet_nil ?_
  repeat (go_big_quiet_step (fail))
  refine wpQuiet_nil ?_
  go_wp2
  rw [rounds_succ]
  go_wp2
  go_end0
  first
    | exact ⟨rfl, Q3.out⟩
    | exact ⟨rfl, Q3.out.below (by (repeat (with_reducible first | exact grow_refl _ | refine Grow.grow_drewN ?_ _ | refine Grow.grow_drew ?_ | refine Grow.grow_alloc ?_ _)))⟩
set_option maxRecDepth 100000 in
set_option maxHeartbeats 16000000 in
theorem ins3_1 (a b c : Dr) (ha : goodP a = true) (hb : goodP b = true) (hc : goodP c = true) (w : World) (bp bt g : Nat) (hp : Pts w bp bt a b c) (h1 : bp ≠ g) (h2 : bt ≠ g) (hr : Known w g #[.int .i64 0, .int .i64 1, .int .i64 2]) (h01 : acr a b c 0 < acr a b c 1) (h02 : acr a b c 0 < acr a b c 2) (h12 : ¬ acr a b c 1 < acr a b c 2) :
    Calls Tryz.prog 115 #[.slice (some ⟨g, 0, none⟩) 3 3, .int .i64 0, .int .i64 3, cmpV bt] w fun e w' => e = .returned (.tuple #[]) ∧ Row3 w w' g 1 2 0 := by
  have CM10 := Lib.hid (fun X (hX : Pts X bp bt a b c) => show Calls Tryz.prog 58 #[.int .i64 1, .int .i64 0, .pointer (some ⟨bt, 0, none⟩)] X fun e w' => e = .returned (.int .i64 (acr a b c 0 - acr a b c 1)) ∧ Below X.heap.size X w' from cmp3_walk a b c ha hb hc 1 0 (by decide) (by decide) X bp bt hX)
  have CM20 := Lib.hid (fun X (hX : Pts X bp bt a b c) => show Calls Tryz.prog 58 #[.int .i64 2, .int .i64 0, .pointer (some ⟨bt, 0, none⟩)] X fun e w' => e = .returned (.int .i64 (acr a b c 0 - acr a b c 2)) ∧ Below X.heap.size X w' from cmp3_walk a b c ha hb hc 2 0 (by decide) (by decide) X bp bt hX)
  have CM21 := Lib.hid (fun X (hX : Pts X bp bt a b c) => show Calls Tryz.prog 58 #[.int .i64 2, .int .i64 1, .pointer (some ⟨bt, 0, none⟩)] X fun e w' => e = .returned (.int .i64 (acr a b c 1 - acr a b c 2)) ∧ Below X.heap.size X w' from cmp3_walk a b c ha hb hc 2 1 (by decide) (by decide) X bp bt hX)
  have PT := Lib.hid (fun X {i j k : Nat} (hX : Row3 w X g i j k) => hp.but hX.but h1 h2)
  have R0 := Lib.hid (show Row3 w w g 0 1 2 from ⟨hr, But.refl g w⟩)
  clear hp hr h1 h2
  generalize acr a b c 0 = D0 at *
  generalize acr a b c 1 = D1 at *
  generalize acr a b c 2 = D2 at *
  have d01 : decide (D0 - D1 < 0) = true := decide_eq_true (by omega)
  have d02 : decide (D0 - D2 < 0) = true := decide_eq_true (by omega)
  have d12 : decide (D1 - D2 < 0) = false := decide_eq_false (by omega)
  unfold cmpV
  have c0 := R0.out.row.cell 0
  have c1 := R0.out.row.cell 1
  have c2 := R0.out.row.cell 2
  have f0 := R0.out.row.frozen 0
  have f1 := R0.out.row.frozen 1
  have f2 := R0.out.row.frozen 2
  have lg := R0.out.row.lt
  simp only [List.getElem?_toArray, List.getElem?_cons_zero, List.getElem?_cons_succ] at c0 c1 c2
  go_enter Tryz.func115, Tryz.ntmps115
  go_wp2
  refine wp_loop_rounds 3 ?_
  rw [rounds_succ]
  go_wp2
  refine wp_loop_rounds 2 ?_
  rw [rounds_succ]
  go_upto_region 4 with (fail)
  refine Grow.wp_region_plan (.quiet [0, 1, 2, 3, 4, 5, 6, 7, 9, 10, 11, 12] (.reads [8, 13] (.tail [14, 15, 16]))) (by kernel_rfl) (by kernel_rfl) (by kernel_rfl) (by kernel_rfl) ?_ ?_
  · intro c aa d v ww h
    first
      | exact Grow.bodyPost_blind h
      | (simp (config := {zetaDelta := true}) only [Exit.then, Exit.inBlock] at h ⊢; first | exact Grow.bodyPost_blind h | exact h)
  simp only [Grow.Plan.wp, Grow.pick, List.getElem?_cons_zero, List.getElem?_cons_succ, List.cons_append, List.nil_append]
  repeat (go_big_quiet_step (fail))
  refine wpQuiet_nil ?_
  repeat (go_big_quiet_step (fail))
  refine wpQuiet_nil ?_
  go_upto_region 6 with (first
    | (go_at_call 58; go_loud ((with_reducible refine (CM10.out _ (PT.out _ (R0.out.below (by (repeat (with_reducible first | exact grow_refl _ | refine Grow.grow_drewN ?_ _ | refine Grow.grow_drew ?_ | refine Grow.grow_alloc ?_ _)))))).mono ?_); rintro e w1 ⟨rfl, hb⟩; have R1 := Lib.hid (R0.out.below (grow_trans (by (repeat (with_reducible first | exact grow_refl _ | refine Grow.grow_drewN ?_ _ | refine Grow.grow_drew ?_ | refine Grow.grow_alloc ?_ _))) hb)); clear hb c0 c1 c2 f0 f1 f2 lg)))
  have c0 := R1.out.row.cell 0
  have c1 := R1.out.row.cell 1
  have c2 := R1.out.row.cell 2
  have f0 := R1.out.row.frozen 0
  have f1 := R1.out.row.frozen 1
  have f2 := R1.out.row.frozen 2
  have lg := R1.out.row.lt
  simp only [List.getElem?_toArray, List.getElem?_cons_zero, List.getElem?_cons_succ] at c0 c1 c2
  refine Grow.wp_region_plan (.quiet [0, 1, 2, 3, 4, 5, 6, 7, 8, 10, 11, 12] (.reads [9, 13] (.tail [14, 15, 16, 17]))) (by kernel_rfl) (by kernel_rfl) (by kernel_rfl) (by kernel_rfl) ?_ ?_
  · intro c aa d v ww h
    first
      | exact Grow.bodyPost_blind h
      | (simp (config := {zetaDelta := true}) only [Exit.then, Exit.inBlock] at h ⊢; first | exact Grow.bodyPost_blind h | exact h)
  simp only [Grow.Plan.wp, Grow.pick, List.getElem?_cons_zero, List.getElem?_cons_succ, List.cons_append, List.nil_append]
  repeat (go_big_quiet_step (fail))
  refine wpQuiet_nil ?_
  repeat (go_big_quiet_step (fail))
  refine wpQuiet_nil ?_
  go_upto_region 5 with (fail)
  refine seal_wp fun X1 hX => ?_
  have Q1 := Lib.hid (show Row3 w X1 g 1 0 2 from by rw [hX.out]; exact (R1.out.swap01).below (grow_drew (grow_refl _)))
  clear hX c0 c1 c2 f0 f1 f2 lg
  have c0 := Q1.out.row.cell 0
  have c1 := Q1.out.row.cell 1
  have c2 := Q1.out.row.cell 2
  have f0 := Q1.out.row.frozen 0
  have f1 := Q1.out.row.frozen 1
  have f2 := Q1.out.row.frozen 2
  have lg := Q1.out.row.lt
  simp only [List.getElem?_toArray, List.getElem?_cons_zero, List.getElem?_cons_succ] at c0 c1 c2
  go_wp2
  rw [rounds_succ]
  go_upto_region 4 with (fail)
  refine Grow.wp_region_plan (.quiet [0, 1, 2, 3, 4, 5, 6, 7, 9, 10, 11, 12] (.reads [8, 13] (.tail [14, 15, 16]))) (by kernel_rfl) (by kernel_rfl) (by kernel_rfl) (by kernel_rfl) ?_ ?_
  · intro c aa d v ww h
    first
      | exact Grow.bodyPost_blind h
      | (simp (config := {zetaDelta := true}) only [Exit.then, Exit.inBlock] at h ⊢; first | exact Grow.bodyPost_blind h | exact h)
  simp only [Grow.Plan.wp, Grow.pick, List.getElem?_cons_zero, List.getElem?_cons_succ, List.cons_append, List.nil_append]
  repeat (go_big_quiet_step (fail))
  refine wpQuiet_nil ?_
  repeat (go_big_quiet_step (fail))
  refine wpQuiet_nil ?_
  go_wp2
  rw [rounds_succ]
  go_wp2
  refine wp_loop_rounds 3 ?_
  rw [rounds_succ]
  go_upto_region 4 with (fail)
  refine Grow.wp_region_plan (.quiet [0, 1, 2, 3, 4, 5, 6, 7, 9, 10, 11, 12] (.reads [8, 13] (.tail [14, 15, 16]))) (by kernel_rfl) (by kernel_rfl) (by kernel_rfl) (by kernel_rfl) ?_ ?_
  · intro c aa d v ww h
    first
      | exact Grow.bodyPost_blind h
      | (simp (config := {zetaDelta := true}) only [Exit.then, Exit.inBlock] at h ⊢; first | exact Grow.bodyPost_blind h | exact h)
  simp only [Grow.Plan.wp, Grow.pick, List.getElem?_cons_zero, List.getElem?_cons_succ, List.cons_append, List.nil_append]
  repeat (go_big_quiet_step (fail))
  refine wpQuiet_nil ?_
  repeat (go_big_quiet_step (fail))
  refine wpQuiet_nil ?_
  go_upto_region 6 with (first
    | (go_at_call 58; go_loud ((with_reducible refine (CM20.out _ (PT.out _ (Q1.out.below (by (repeat (with_reducible first | exact grow_refl _ | refine Grow.grow_drewN ?_ _ | refine Grow.grow_drew ?_ | refine Grow.grow_alloc ?_ _)))))).mono ?_); rintro e w2 ⟨rfl, hb⟩; have R2 := Lib.hid (Q1.out.below (grow_trans (by (repeat (with_reducible first | exact grow_refl _ | refine Grow.grow_drewN ?_ _ | refine Grow.grow_drew ?_ | refine Grow.grow_alloc ?_ _))) hb)); clear hb c0 c1 c2 f0 f1 f2 lg)))
  have c0 := R2.out.row.cell 0
  have c1 := R2.out.row.cell 1
  have c2 := R2.out.row.cell 2
  have f0 := R2.out.row.frozen 0
  have f1 := R2.out.row.frozen 1
  have f2 := R2.out.row.frozen 2
  have lg := R2.out.row.lt
  simp only [List.getElem?_toArray, List.getElem?_cons_zero, List.getElem?_cons_succ] at c0 c1 c2
  refine Grow.wp_region_plan (.quiet [0, 1, 2, 3, 4, 5, 6, 7, 8, 10, 11, 12] (.reads [9, 13] (.tail [14, 15, 16, 17]))) (by kernel_rfl) (by kernel_rfl) (by kernel_rfl) (by kernel_rfl) ?_ ?_
  · intro c aa d v ww h
    first
      | exact Grow.bodyPost_blind h
      | (simp (config := {zetaDelta := true}) only [Exit.then, Exit.inBlock] at h ⊢; first | exact Grow.bodyPost_blind h | exact h)
  simp only [Grow.Plan.wp, Grow.pick, List.getElem?_cons_zero, List.getElem?_cons_succ, List.cons_append, List.nil_append]
  repeat (go_big_quiet_step (fail))
  refine wpQuiet_nil ?_
  repeat (go_big_quiet_step (fail))
  refine wpQuiet_nil ?_
  go_upto_region 5 with (fail)
  refine seal_wp fun X2 hX => ?_
  have Q2 := Lib.hid (show Row3 w X2 g 1 2 0 from by rw [hX.out]; exact (R2.out.swap12).below (grow_drew (grow_refl _)))
  clear hX c0 c1 c2 f0 f1 f2 lg
  have c0 := Q2.out.row.cell 0
  have c1 := Q2.out.row.cell 1
  have c2 := Q2.out.row.cell 2
  have f0 := Q2.out.row.frozen 0
  have f1 := Q2.out.row.frozen 1
  have f2 := Q2.out.row.frozen 2
  have lg := Q2.out.row.lt
  simp only [List.getElem?_toArray, List.getElem?_cons_zero, List.getElem?_cons_succ] at c0 c1 c2
  go_wp2
  rw [rounds_succ]
  go_upto_region 4 with (fail)
  refine Grow.wp_region_plan (.quiet [0, 1, 2, 3, 4, 5, 6, 7, 9, 10, 11, 12] (.reads [8, 13] (.tail [14, 15, 16]))) (by kernel_rfl) (by kernel_rfl) (by kernel_rfl) (by kernel_rfl) ?_ ?_
  · intro c aa d v ww h
    first
      | exact Grow.bodyPost_blind h
      | (simp (config := {zetaDelta := true}) only [Exit.then, Exit.inBlock] at h ⊢; first | exact Grow.bodyPost_blind h | exact h)
  simp only [Grow.Plan.wp, Grow.pick, List.getElem?_cons_zero, List.getElem?_cons_succ, List.cons_append, List.nil_append]
  repeat (go_big_quiet_step (fail))
  refine wpQuiet_nil ?_
  repeat (go_big_quiet_step (fail))
  refine wpQuiet_nil ?_
  go_wp2_with (first
    | (go_at_call 58; go_loud ((with_reducible refine (CM21.out _ (PT.out _ (Q2.out.below (by (repeat (with_reducible first | exact grow_refl _ | refine Grow.grow_drewN ?_ _ | refine Grow.grow_drew ?_ | refine Grow.grow_alloc ?_ _)))))).mono ?_); rintro e w3 ⟨rfl, hb⟩; have R3 := Lib.hid (Q2.out.below (grow_trans (by (repeat (with_reducible first | exact grow_refl _ | refine Grow.grow_drewN ?_ _ | refine Grow.grow_drew ?_ | refine Grow.grow_alloc ?_ _))) hb)); clear hb c0 c1 c2 f0 f1 f2 lg)))
  have c0 := R3.out.row.cell 0
  have c1 := R3.out.row.cell 1
  have c2 := R3.out.row.cell 2
  have f0 := R3.out.row.frozen 0
  have f1 := R3.out.row.frozen 1
  have f2 := R3.out.row.frozen 2
  have lg := R3.out.row.lt
  simp only [List.getElem?_toArray, List.getElem?_cons_zero, List.getElem?_cons_succ] at c0 c1 c2
  rw [rounds_succ]
  go_wp2
  go_end0
  first
    | exact ⟨rfl, R3.out⟩
    | exact ⟨rfl, R3.out.below (by (repeat (with_reducible first | exact grow_refl _ | refine Grow.grow_drewN ?_ _ | refine Grow.grow_drew ?_ | refine Grow.grow_alloc ?_ _)))⟩
set_option maxRecDepth 100000 in
set_option maxHeartbeats 16000000 in
theorem ins3_2 (a b c : Dr) (ha : goodP a = true) (hb : goodP b = true) (hc : goodP c = true) (w : World) (bp bt g : Nat) (hp : Pts w bp bt a b c) (h1 : bp ≠ g) (h2 : bt ≠ g) (hr : Known w g #[.int .i64 0, .int .i64 1, .int .i64 2]) (h01 : acr a b c 0 < acr a b c 1) (h02 : ¬ acr a b c 0 < acr a b c 2) :
    Calls Tryz.prog 115 #[.slice (some ⟨g, 0, none⟩) 3 3, .int .i64 0, .int .i64 3, cmpV bt] w fun e w' => e = .returned (.tuple #[]) ∧ Row3 w w' g 1 0 2 := by
  have CM10 := Lib.hid (fun X (hX : Pts X bp bt a b c) => show Calls Tryz.prog 58 #[.int .i64 1, .int .i64 0, .pointer (some ⟨bt, 0, none⟩)] X fun e w' => e = .returned (.int .i64 (acr a b c 0 - acr a b c 1)) ∧ Below X.heap.size X w' from cmp3_walk a b c ha hb hc 1 0 (by decide) (by decide) X bp bt hX)
  have CM20 := Lib.hid (fun X (hX : Pts X bp bt a b c) => show Calls Tryz.prog 58 #[.int .i64 2, .int .i64 0, .pointer (some ⟨bt, 0, none⟩)] X fun e w' => e = .returned (.int .i64 (acr a b c 0 - acr a b c 2)) ∧ Below X.heap.size X w' from cmp3_walk a b c ha hb hc 2 0 (by decide) (by decide) X bp bt hX)
  have PT := Lib.hid (fun X {i j k : Nat} (hX : Row3 w X g i j k) => hp.but hX.but h1 h2)
  have R0 := Lib.hid (show Row3 w w g 0 1 2 from ⟨hr, But.refl g w⟩)
  clear hp hr h1 h2
  generalize acr a b c 0 = D0 at *
  generalize acr a b c 1 = D1 at *
  generalize acr a b c 2 = D2 at *
  have d01 : decide (D0 - D1 < 0) = true := decide_eq_true (by omega)
  have d02 : decide (D0 - D2 < 0) = false := decide_eq_false (by omega)
  unfold cmpV
  have c0 := R0.out.row.cell 0
  have c1 := R0.out.row.cell 1
  have c2 := R0.out.row.cell 2
  have f0 := R0.out.row.frozen 0
  have f1 := R0.out.row.frozen 1
  have f2 := R0.out.row.frozen 2
  have lg := R0.out.row.lt
  simp only [List.getElem?_toArray, List.getElem?_cons_zero, List.getElem?_cons_succ] at c0 c1 c2
  go_enter Tryz.func115, Tryz.ntmps115
  go_wp2
  refine wp_loop_rounds 3 ?_
  rw [rounds_succ]
  go_wp2
  refine wp_loop_rounds 2 ?_
  rw [rounds_succ]
  go_upto_region 4 with (fail)
  refine Grow.wp_region_plan (.quiet [0, 1, 2, 3, 4, 5, 6, 7, 9, 10, 11, 12] (.reads [8, 13] (.tail [14, 15, 16]))) (by kernel_rfl) (by kernel_rfl) (by kernel_rfl) (by kernel_rfl) ?_ ?_
  · intro c aa d v ww h
    first
      | exact Grow.bodyPost_blind h
      | (simp (config := {zetaDelta := true}) only [Exit.then, Exit.inBlock] at h ⊢; first | exact Grow.bodyPost_blind h | exact h)
  simp only [Grow.Plan.wp, Grow.pick, List.getElem?_cons_zero, List.getElem?_cons_succ, List.cons_append, List.nil_append]
  repeat (go_big_quiet_step (fail))
  refine wpQuiet_nil ?_
  repeat (go_big_quiet_step (fail))
  refine wpQuiet_nil ?_
  go_upto_region 6 with (first
    | (go_at_call 58; go_loud ((with_reducible refine (CM10.out _ (PT.out _ (R0.out.below (by (repeat (with_reducible first | exact grow_refl _ | refine Grow.grow_drewN ?_ _ | refine Grow.grow_drew ?_ | refine Grow.grow_alloc ?_ _)))))).mono ?_); rintro e w1 ⟨rfl, hb⟩; have R1 := Lib.hid (R0.out.below (grow_trans (by (repeat (with_reducible first | exact grow_refl _ | refine Grow.grow_drewN ?_ _ | refine Grow.grow_drew ?_ | refine Grow.grow_alloc ?_ _))) hb)); clear hb c0 c1 c2 f0 f1 f2 lg)))
  have c0 := R1.out.row.cell 0
  have c1 := R1.out.row.cell 1
  have c2 := R1.out.row.cell 2
  have f0 := R1.out.row.frozen 0
  have f1 := R1.out.row.frozen 1
  have f2 := R1.out.row.frozen 2
  have lg := R1.out.row.lt
  simp only [List.getElem?_toArray, List.getElem?_cons_zero, List.getElem?_cons_succ] at c0 c1 c2
  refine Grow.wp_region_plan (.quiet [0, 1, 2, 3, 4, 5, 6, 7, 8, 10, 11, 12] (.reads [9, 13] (.tail [14, 15, 16, 17]))) (by kernel_rfl) (by kernel_rfl) (by kernel_rfl) (by kernel_rfl) ?_ ?_
  · intro c aa d v ww h
    first
      | exact Grow.bodyPost_blind h
      | (simp (config := {zetaDelta := true}) only [Exit.then, Exit.inBlock] at h ⊢; first | exact Grow.bodyPost_blind h | exact h)
  simp only [Grow.Plan.wp, Grow.pick, List.getElem?_cons_zero, List.getElem?_cons_succ, List.cons_append, List.nil_append]
  repeat (go_big_quiet_step (fail))
  refine wpQuiet_nil ?_
  repeat (go_big_quiet_step (fail))
  refine wpQuiet_nil ?_
  go_upto_region 5 with (fail)
  refine seal_wp fun X1 hX => ?_
  have Q1 := Lib.hid (show Row3 w X1 g 1 0 2 from by rw [hX.out]; exact (R1.out.swap01).below (grow_drew (grow_refl _)))
  clear hX c0 c1 c2 f0 f1 f2 lg
  have c0 := Q1.out.row.cell 0
  have c1 := Q1.out.row.cell 1
  have c2 := Q1.out.row.cell 2
  have f0 := Q1.out.row.frozen 0
  have f1 := Q1.out.row.frozen 1
  have f2 := Q1.out.row.frozen 2
  have lg := Q1.out.row.lt
  simp only [List.getElem?_toArray, List.getElem?_cons_zero, List.getElem?_cons_succ] at c0 c1 c2
  go_wp2
  rw [rounds_succ]
  go_upto_region 4 with (fail)
  refine Grow.wp_region_plan (.quiet [0, 1, 2, 3, 4, 5, 6, 7, 9, 10, 11, 12] (.reads [8, 13] (.tail [14, 15, 16]))) (by kernel_rfl) (by kernel_rfl) (by kernel_rfl) (by kernel_rfl) ?_ ?_
  · intro c aa d v ww h
    first
      | exact Grow.bodyPost_blind h
      | (simp (config := {zetaDelta := true}) only [Exit.then, Exit.inBlock] at h ⊢; first | exact Grow.bodyPost_blind h | exact h)
  simp only [Grow.Plan.wp, Grow.pick, List.getElem?_cons_zero, List.getElem?_cons_succ, List.cons_append, List.nil_append]
  repeat (go_big_quiet_step (fail))
  refine wpQuiet_nil ?_
  repeat (go_big_quiet_step (fail))
  refine wpQuiet_nil ?_
  go_wp2
  rw [rounds_succ]
  go_wp2
  refine wp_loop_rounds 3 ?_
  rw [rounds_succ]
  go_upto_region 4 with (fail)
  refine Grow.wp_region_plan (.quiet [0, 1, 2, 3, 4, 5, 6, 7, 9, 10, 11, 12] (.reads [8, 13] (.tail [14, 15, 16]))) (by kernel_rfl) (by kernel_rfl) (by kernel_rfl) (by kernel_rfl) ?_ ?_
  · intro c aa d v ww h
    first
      | exact Grow.bodyPost_blind h
      | (simp (config := {zetaDelta := true}) only [Exit.then, Exit.inBlock] at h ⊢; first | exact Grow.bodyPost_blind h | exact h)
  simp only [Grow.Plan.wp, Grow.pick, List.getElem?_cons_zero, List.getElem?_cons_succ, List.cons_append, List.nil_append]
  repeat (go_big_quiet_step (fail))
  refine wpQuiet_nil ?_
  repeat (go_big_quiet_step (fail))
  refine wpQuiet_nil ?_
  go_wp2_with (first
    | (go_at_call 58; go_loud ((with_reducible refine (CM20.out _ (PT.out _ (Q1.out.below (by (repeat (with_reducible first | exact grow_refl _ | refine Grow.grow_drewN ?_ _ | refine Grow.grow_drew ?_ | refine Grow.grow_alloc ?_ _)))))).mono ?_); rintro e w2 ⟨rfl, hb⟩; have R2 := Lib.hid (Q1.out.below (grow_trans (by (repeat (with_reducible first | exact grow_refl _ | refine Grow.grow_drewN ?_ _ | refine Grow.grow_drew ?_ | refine Grow.grow_alloc ?_ _))) hb)); clear hb c0 c1 c2 f0 f1 f2 lg)))
  have c0 := R2.out.row.cell 0
  have c1 := R2.out.row.cell 1
  have c2 := R2.out.row.cell 2
  have f0 := R2.out.row.frozen 0
  have f1 := R2.out.row.frozen 1
  have f2 := R2.out.row.frozen 2
  have lg := R2.out.row.lt
  simp only [List.getElem?_toArray, List.getElem?_cons_zero, List.getElem?_cons_succ] at c0 c1 c2
  rw [rounds_succ]
  go_wp2
  go_end0
  first
    | exact ⟨rfl, R2.out⟩
    | exact ⟨rfl, R2.out.below (by (repeat (with_reducible first | exact grow_refl _ | refine Grow.grow_drewN ?_ _ | refine Grow.grow_drew ?_ | refine Grow.grow_alloc ?_ _)))⟩
set_option maxRecDepth 100000 in
set_option maxHeartbeats 16000000 in
theorem ins3_3 (a b c : Dr) (ha : goodP a = true) (hb : goodP b = true) (hc : goodP c = true) (w : World) (bp bt g : Nat) (hp : Pts w bp bt a b c) (h1 : bp ≠ g) (h2 : bt ≠ g) (hr : Known w g #[.int .i64 0, .int .i64 1, .int .i64 2]) (h01 : ¬ acr a b c 0 < acr a b c 1) (h12 : acr a b c 1 < acr a b c 2) (h02 : acr a b c 0 < acr a b c 2) :
    Calls Tryz.prog 115 #[.slice (some ⟨g, 0, none⟩) 3 3, .int .i64 0, .int .i64 3, cmpV bt] w fun e w' => e = .returned (.tuple #[]) ∧ Row3 w w' g 2 0 1 := by
  have CM10 := Lib.hid (fun X (hX : Pts X bp bt a b c) => show Calls Tryz.prog 58 #[.int .i64 1, .int .i64 0, .pointer (some ⟨bt, 0, none⟩)] X fun e w' => e = .returned (.int .i64 (acr a b c 0 - acr a b c 1)) ∧ Below X.heap.size X w' from cmp3_walk a b c ha hb hc 1 0 (by decide) (by decide) X bp bt hX)
  have CM21 := Lib.hid (fun X (hX : Pts X bp bt a b c) => show Calls Tryz.prog 58 #[.int .i64 2, .int .i64 1, .pointer (some ⟨bt, 0, none⟩)] X fun e w' => e = .returned (.int .i64 (acr a b c 1 - acr a b c 2)) ∧ Below X.heap.size X w' from cmp3_walk a b c ha hb hc 2 1 (by decide) (by decide) X bp bt hX)
  have CM20 := Lib.hid (fun X (hX : Pts X bp bt a b c) => show Calls Tryz.prog 58 #[.int .i64 2, .int .i64 0, .pointer (some ⟨bt, 0, none⟩)] X fun e w' => e = .returned (.int .i64 (acr a b c 0 - acr a b c 2)) ∧ Below X.heap.size X w' from cmp3_walk a b c ha hb hc 2 0 (by decide) (by decide) X bp bt hX)
  have PT := Lib.hid (fun X {i j k : Nat} (hX : Row3 w X g i j k) => hp.but hX.but h1 h2)
  have R0 := Lib.hid (show Row3 w w g 0 1 2 from ⟨hr, But.refl g w⟩)
  clear hp hr h1 h2
  generalize acr a b c 0 = D0 at *
  generalize acr a b c 1 = D1 at *
  generalize acr a b c 2 = D2 at *
  have d01 : decide (D0 - D1 < 0) = false := decide_eq_false (by omega)
  have d12 : decide (D1 - D2 < 0) = true := decide_eq_true (by omega)
  have d02 : decide (D0 - D2 < 0) = true := decide_eq_true (by omega)
  unfold cmpV
  have c0 := R0.out.row.cell 0
  have c1 := R0.out.row.cell 1
  have c2 := R0.out.row.cell 2
  have f0 := R0.out.row.frozen 0
  have f1 := R0.out.row.frozen 1
  have f2 := R0.out.row.frozen 2
  have lg := R0.out.row.lt
  simp only [List.getElem?_toArray, List.getElem?_cons_zero, List.getElem?_cons_succ] at c0 c1 c2
  go_enter Tryz.func115, Tryz.ntmps115
  go_wp2
  refine wp_loop_rounds 3 ?_
  rw [rounds_succ]
  go_wp2
  refine wp_loop_rounds 2 ?_
  rw [rounds_succ]
  go_upto_region 4 with (fail)
  refine Grow.wp_region_plan (.quiet [0, 1, 2, 3, 4, 5, 6, 7, 9, 10, 11, 12] (.reads [8, 13] (.tail [14, 15, 16]))) (by kernel_rfl) (by kernel_rfl) (by kernel_rfl) (by kernel_rfl) ?_ ?_
  · intro c aa d v ww h
    first
      | exact Grow.bodyPost_blind h
      | (simp (config := {zetaDelta := true}) only [Exit.then, Exit.inBlock] at h ⊢; first | exact Grow.bodyPost_blind h | exact h)
  simp only [Grow.Plan.wp, Grow.pick, List.getElem?_cons_zero, List.getElem?_cons_succ, List.cons_append, List.nil_append]
  repeat (go_big_quiet_step (fail))
  refine wpQuiet_nil ?_
  repeat (go_big_quiet_step (fail))
  refine wpQuiet_nil ?_
  go_wp2_with (first
    | (go_at_call 58; go_loud ((with_reducible refine (CM10.out _ (PT.out _ (R0.out.below (by (repeat (with_reducible first | exact grow_refl _ | refine Grow.grow_drewN ?_ _ | refine Grow.grow_drew ?_ | refine Grow.grow_alloc ?_ _)))))).mono ?_); rintro e w1 ⟨rfl, hb⟩; have R1 := Lib.hid (R0.out.below (grow_trans (by (repeat (with_reducible first | exact grow_refl _ | refine Grow.grow_drewN ?_ _ | refine Grow.grow_drew ?_ | refine Grow.grow_alloc ?_ _))) hb)); clear hb c0 c1 c2 f0 f1 f2 lg)))
  have c0 := R1.out.row.cell 0
  have c1 := R1.out.row.cell 1
  have c2 := R1.out.row.cell 2
  have f0 := R1.out.row.frozen 0
  have f1 := R1.out.row.frozen 1
  have f2 := R1.out.row.frozen 2
  have lg := R1.out.row.lt
  simp only [List.getElem?_toArray, List.getElem?_cons_zero, List.getElem?_cons_succ] at c0 c1 c2
  rw [rounds_succ]
  go_wp2
  refine wp_loop_rounds 3 ?_
  rw [rounds_succ]
  go_upto_region 4 with (fail)
  refine Grow.wp_region_plan (.quiet [0, 1, 2, 3, 4, 5, 6, 7, 9, 10, 11, 12] (.reads [8, 13] (.tail [14, 15, 16]))) (by kernel_rfl) (by kernel_rfl) (by kernel_rfl) (by kernel_rfl) ?_ ?_
  · intro c aa d v ww h
    first
      | exact Grow.bodyPost_blind h
      | (simp (config := {zetaDelta := true}) only [Exit.then, Exit.inBlock] at h ⊢; first | exact Grow.bodyPost_blind h | exact h)
  simp only [Grow.Plan.wp, Grow.pick, List.getElem?_cons_zero, List.getElem?_cons_succ, List.cons_append, List.nil_append]
  repeat (go_big_quiet_step (fail))
  refine wpQuiet_nil ?_
  repeat (go_big_quiet_step (fail))
  refine wpQuiet_nil ?_
  go_upto_region 6 with (first
    | (go_at_call 58; go_loud ((with_reducible refine (CM21.out _ (PT.out _ (R1.out.below (by (repeat (with_reducible first | exact grow_refl _ | refine Grow.grow_drewN ?_ _ | refine Grow.grow_drew ?_ | refine Grow.grow_alloc ?_ _)))))).mono ?_); rintro e w2 ⟨rfl, hb⟩; have R2 := Lib.hid (R1.out.below (grow_trans (by (repeat (with_reducible first | exact grow_refl _ | refine Grow.grow_drewN ?_ _ | refine Grow.grow_drew ?_ | refine Grow.grow_alloc ?_ _))) hb)); clear hb c0 c1 c2 f0 f1 f2 lg)))
  have c0 := R2.out.row.cell 0
  have c1 := R2.out.row.cell 1
  have c2 := R2.out.row.cell 2
  have f0 := R2.out.row.frozen 0
  have f1 := R2.out.row.frozen 1
  have f2 := R2.out.row.frozen 2
  have lg := R2.out.row.lt
  simp only [List.getElem?_toArray, List.getElem?_cons_zero, List.getElem?_cons_succ] at c0 c1 c2
  refine Grow.wp_region_plan (.quiet [0, 1, 2, 3, 4, 5, 6, 7, 8, 10, 11, 12] (.reads [9, 13] (.tail [14, 15, 16, 17]))) (by kernel_rfl) (by kernel_rfl) (by kernel_rfl) (by kernel_rfl) ?_ ?_
  · intro c aa d v ww h
    first
      | exact Grow.bodyPost_blind h
      | (simp (config := {zetaDelta := true}) only [Exit.then, Exit.inBlock] at h ⊢; first | exact Grow.bodyPost_blind h | exact h)
  simp only [Grow.Plan.wp, Grow.pick, List.getElem?_cons_zero, List.getElem?_cons_succ, List.cons_append, List.nil_append]
  repeat (go_big_quiet_step (fail))
  refine wpQuiet_nil ?_
  repeat (go_big_quiet_step (fail))
  refine wpQuiet_nil ?_
  go_upto_region 5 with (fail)
  refine seal_wp fun X2 hX => ?_
  have Q2 := Lib.hid (show Row3 w X2 g 0 2 1 from by rw [hX.out]; exact (R2.out.swap12).below (grow_drew (grow_refl _)))
  clear hX c0 c1 c2 f0 f1 f2 lg
  have c0 := Q2.out.row.cell 0
  have c1 := Q2.out.row.cell 1
  have c2 := Q2.out.row.cell 2
  have f0 := Q2.out.row.frozen 0
  have f1 := Q2.out.row.frozen 1
  have f2 := Q2.out.row.frozen 2
  have lg := Q2.out.row.lt
  simp only [List.getElem?_toArray, List.getElem?_cons_zero, List.getElem?_cons_succ] at c0 c1 c2
  go_wp2
  rw [rounds_succ]
  go_upto_region 4 with (fail)
  refine Grow.wp_region_plan (.quiet [0, 1, 2, 3, 4, 5, 6, 7, 9, 10, 11, 12] (.reads [8, 13] (.tail [14, 15, 16]))) (by kernel_rfl) (by kernel_rfl) (by kernel_rfl) (by kernel_rfl) ?_ ?_
  · intro c aa d v ww h
    first
      | exact Grow.bodyPost_blind h
      | (simp (config := {zetaDelta := true}) only [Exit.then, Exit.inBlock] at h ⊢; first | exact Grow.bodyPost_blind h | exact h)
  simp only [Grow.Plan.wp, Grow.pick, List.getElem?_cons_zero, List.getElem?_cons_succ, List.cons_append, List.nil_append]
  repeat (go_big_quiet_step (fail))
  refine wpQuiet_nil ?_
  repeat (go_big_quiet_step (fail))
  refine wpQuiet_nil ?_
  go_upto_region 6 with (first
    | (go_at_call 58; go_loud ((with_reducible refine (CM20.out _ (PT.out _ (Q2.out.below (by (repeat (with_reducible first | exact grow_refl _ | refine Grow.grow_drewN ?_ _ | refine Grow.grow_drew ?_ | refine Grow.grow_alloc ?_ _)))))).mono ?_); rintro e w3 ⟨rfl, hb⟩; have R3 := Lib.hid (Q2.out.below (grow_trans (by (repeat (with_reducible first | exact grow_refl _ | refine Grow.grow_drewN ?_ _ | refine Grow.grow_drew ?_ | refine Grow.grow_alloc ?_ _))) hb)); clear hb c0 c1 c2 f0 f1 f2 lg)))
  have c0 := R3.out.row.cell 0
  have c1 := R3.out.row.cell 1
  have c2 := R3.out.row.cell 2
  have f0 := R3.out.row.frozen 0
  have f1 := R3.out.row.frozen 1
  have f2 := R3.out.row.frozen 2
  have lg := R3.out.row.lt
  simp only [List.getElem?_toArray, List.getElem?_cons_zero, List.getElem?_cons_succ] at c0 c1 c2
  refine Grow.wp_region_plan (.quiet [0, 1, 2, 3, 4, 5, 6, 7, 8, 10, 11, 12] (.reads [9, 13] (.tail [14, 15, 16, 17]))) (by kernel_rfl) (by kernel_rfl) (by kernel_rfl) (by kernel_rfl) ?_ ?_
  · intro c aa d v ww h
    first
      | exact Grow.bodyPost_blind h
      | (simp (config := {zetaDelta := true}) only [Exit.then, Exit.inBlock] at h ⊢; first | exact Grow.bodyPost_blind h | exact h)
  simp only [Grow.Plan.wp, Grow.pick, List.getElem?_cons_zero, List.getElem?_cons_succ, List.cons_append, List.nil_append]
  repeat (go_big_quiet_step (fail))
  refine wpQuiet_nil ?_
  repeat (go_big_quiet_step (fail))
  refine wpQuiet_nil ?_
  go_upto_region 5 with (fail)
  refine seal_wp fun X3 hX => ?_
  have Q3 := Lib.hid (show Row3 w X3 g 2 0 1 from by rw [hX.out]; exact (R3.out.swap01).below (grow_drew (grow_refl _)))
  clear hX c0 c1 c2 f0 f1 f2 lg
  have c0 := Q3.out.row.cell 0
  have c1 := Q3.out.row.cell 1
  have c2 := Q3.out.row.cell 2
  have f0 := Q3.out.row.frozen 0
  have f1 := Q3.out.row.frozen 1
  have f2 := Q3.out.row.frozen 2
  have lg := Q3.out.row.lt
  simp only [List.getElem?_toArray, List.getElem?_cons_zero, List.getElem?_cons_succ] at c0 c1 c2
  go_wp2
  rw [rounds_succ]
  go_upto_region 4 with (fail)
  refine Grow.wp_region_plan (.quiet [0, 1, 2, 3, 4, 5, 6, 7, 9, 10, 11, 12] (.reads [8, 13] (.tail [14, 15, 16]))) (by kernel_rfl) (by kernel_rfl) (by kernel_rfl) (by kernel_rfl) ?_ ?_
  · intro c aa d v ww h
    first
      | exact Grow.bodyPost_blind h
      | (simp (config := {zetaDelta := true}) only [Exit.then, Exit.inBlock] at h ⊢; first | exact Grow.bodyPost_blind h | exact h)
  simp only [Grow.Plan.wp, Grow.pick, List.getElem?_cons_zero, List.getElem?_cons_succ, List.cons_append, List.nil_append]
  repeat (go_big_quiet_step (fail))
  refine wpQuiet_nil ?_
  repeat (go_big_quiet_step (fail))
  refine wpQuiet_nil ?_
  go_wp2
  rw [rounds_succ]
  go_wp2
  go_end0
  first
    | exact ⟨rfl, Q3.out⟩
    | exact ⟨rfl, Q3.out.below (by (repeat (with_reducible first | exact grow_refl _ | refine Grow.grow_drewN ?_ _ | refine Grow.grow_drew ?_ | refine Grow.grow_alloc ?_ _)))⟩
set_option maxRecDepth 100000 in
set_option maxHeartbeats 16000000 in
theorem ins3_4 (a b c : Dr) (ha : goodP a = true) (hb : goodP b = true) (hc : goodP c = true) (w : World) (bp bt g : Nat) (hp : Pts w bp bt a b c) (h1 : bp ≠ g) (h2 : bt ≠ g) (hr : Known w g #[.int .i64 0, .int .i64 1, .int .i64 2]) (h01 : ¬ acr a b c 0 < acr a b c 1) (h12 : acr a b c 1 < acr a b c 2) (h02 : ¬ acr a b c 0 < acr a b c 2) :
    Calls Tryz.prog 115 #[.slice (some ⟨g, 0, none⟩) 3 3, .int .i64 0, .int .i64 3, cmpV bt] w fun e w' => e = .returned (.tuple #[]) ∧ Row3 w w' g 0 2 1 := by
  have CM10 := Lib.hid (fun X (hX : Pts X bp bt a b c) => show Calls Tryz.prog 58 #[.int .i64 1, .int .i64 0, .pointer (some ⟨bt, 0, none⟩)] X fun e w' => e = .returned (.int .i64 (acr a b c 0 - acr a b c 1)) ∧ Below X.heap.size X w' from cmp3_walk a b c ha hb hc 1 0 (by decide) (by decide) X bp bt hX)
  have CM21 := Lib.hid (fun X (hX : Pts X bp bt a b c) => show Calls Tryz.prog 58 #[.int .i64 2, .int .i64 1, .pointer (some ⟨bt, 0, none⟩)] X fun e w' => e = .returned (.int .i64 (acr a b c 1 - acr a b c 2)) ∧ Below X.heap.size X w' from cmp3_walk a b c ha hb hc 2 1 (by decide) (by decide) X bp bt hX)
  have CM20 := Lib.hid (fun X (hX : Pts X bp bt a b c) => show Calls Tryz.prog 58 #[.int .i64 2, .int .i64 0, .pointer (some ⟨bt, 0, none⟩)] X fun e w' => e = .returned (.int .i64 (acr a b c 0 - acr a b c 2)) ∧ Below X.heap.size X w' from cmp3_walk a b c ha hb hc 2 0 (by decide) (by decide) X bp bt hX)
  have PT := Lib.hid (fun X {i j k : Nat} (hX : Row3 w X g i j k) => hp.but hX.but h1 h2)
  have R0 := Lib.hid (show Row3 w w g 0 1 2 from ⟨hr, But.refl g w⟩)
  clear hp hr h1 h2
  generalize acr a b c 0 = D0 at *
  generalize acr a b c 1 = D1 at *
  generalize acr a b c 2 = D2 at *
  have d01 : decide (D0 - D1 < 0) = false := decide_eq_false (by omega)
  have d12 : decide (D1 - D2 < 0) = true := decide_eq_true (by omega)
  have d02 : decide (D0 - D2 < 0) = false := decide_eq_false (by omega)
  unfold cmpV
  have c0 := R0.out.row.cell 0
  have c1 := R0.out.row.cell 1
  have c2 := R0.out.row.cell 2
  have f0 := R0.out.row.frozen 0
  have f1 := R0.out.row.frozen 1
  have f2 := R0.out.row.frozen 2
  have lg := R0.out.row.lt
  simp only [List.getElem?_toArray, List.getElem?_cons_zero, List.getElem?_cons_succ] at c0 c1 c2
  go_enter Tryz.func115, Tryz.ntmps115
  go_wp2
  refine wp_loop_rounds 3 ?_
  rw [rounds_succ]
  go_wp2
  refine wp_loop_rounds 2 ?_
  rw [rounds_succ]
  go_upto_region 4 with (fail)
  refine Grow.wp_region_plan (.quiet [0, 1, 2, 3, 4, 5, 6, 7, 9, 10, 11, 12] (.reads [8, 13] (.tail [14, 15, 16]))) (by kernel_rfl) (by kernel_rfl) (by kernel_rfl) (by kernel_rfl) ?_ ?_
  · intro c aa d v ww h
    first
      | exact Grow.bodyPost_blind h
      | (simp (config := {zetaDelta := true}) only [Exit.then, Exit.inBlock] at h ⊢; first | exact Grow.bodyPost_blind h | exact h)
  simp only [Grow.Plan.wp, Grow.pick, List.getElem?_cons_zero, List.getElem?_cons_succ, List.cons_append, List.nil_append]
  repeat (go_big_quiet_step (fail))
  refine wpQuiet_nil ?_
  repeat (go_big_quiet_step (fail))
  refine wpQuiet_nil ?_
  go_wp2_with (first
    | (go_at_call 58; go_loud ((with_reducible refine (CM10.out _ (PT.out _ (R0.out.below (by (repeat (with_reducible first | exact grow_refl _ | refine Grow.grow_drewN ?_ _ | refine Grow.grow_drew ?_ | refine Grow.grow_alloc ?_ _)))))).mono ?_); rintro e w1 ⟨rfl, hb⟩; have R1 := Lib.hid (R0.out.below (grow_trans (by (repeat (with_reducible first | exact grow_refl _ | refine Grow.grow_drewN ?_ _ | refine Grow.grow_drew ?_ | refine Grow.grow_alloc ?_ _))) hb)); clear hb c0 c1 c2 f0 f1 f2 lg)))
  have c0 := R1.out.row.cell 0
  have c1 := R1.out.row.cell 1
  have c2 := R1.out.row.cell 2
  have f0 := R1.out.row.frozen 0
  have f1 := R1.out.row.frozen 1
  have f2 := R1.out.row.frozen 2
  have lg := R1.out.row.lt
  simp only [List.getElem?_toArray, List.getElem?_cons_zero, List.getElem?_cons_succ] at c0 c1 c2
  rw [rounds_succ]
  go_wp2
  refine wp_loop_rounds 3 ?_
  rw [rounds_succ]
  go_upto_region 4 with (fail)
  refine Grow.wp_region_plan (.quiet [0, 1, 2, 3, 4, 5, 6, 7, 9, 10, 11, 12] (.reads [8, 13] (.tail [14, 15, 16]))) (by kernel_rfl) (by kernel_rfl) (by kernel_rfl) (by kernel_rfl) ?_ ?_
  · intro c aa d v ww h
    first
      | exact Grow.bodyPost_blind h
      | (simp (config := {zetaDelta := true}) only [Exit.then, Exit.inBlock] at h ⊢; first | exact Grow.bodyPost_blind h | exact h)
  simp only [Grow.Plan.wp, Grow.pick, List.getElem?_cons_zero, List.getElem?_cons_succ, List.cons_append, List.nil_append]
  repeat (go_big_quiet_step (fail))
  refine wpQuiet_nil ?_
  repeat (go_big_quiet_step (fail))
  refine wpQuiet_nil ?_
  go_upto_region 6 with (first
    | (go_at_call 58; go_loud ((with_reducible refine (CM21.out _ (PT.out _ (R1.out.below (by (repeat (with_reducible first | exact grow_refl _ | refine Grow.grow_drewN ?_ _ | refine Grow.grow_drew ?_ | refine Grow.grow_alloc ?_ _)))))).mono ?_); rintro e w2 ⟨rfl, hb⟩; have R2 := Lib.hid (R1.out.below (grow_trans (by (repeat (with_reducible first | exact grow_refl _ | refine Grow.grow_drewN ?_ _ | refine Grow.grow_drew ?_ | refine Grow.grow_alloc ?_ _))) hb)); clear hb c0 c1 c2 f0 f1 f2 lg)))
  have c0 := R2.out.row.cell 0
  have c1 := R2.out.row.cell 1
  have c2 := R2.out.row.cell 2
  have f0 := R2.out.row.frozen 0
  have f1 := R2.out.row.frozen 1
  have f2 := R2.out.row.frozen 2
  have lg := R2.out.row.lt
  simp only [List.getElem?_toArray, List.getElem?_cons_zero, List.getElem?_cons_succ] at c0 c1 c2
  refine Grow.wp_region_plan (.quiet [0, 1, 2, 3, 4, 5, 6, 7, 8, 10, 11, 12] (.reads [9, 13] (.tail [14, 15, 16, 17]))) (by kernel_rfl) (by kernel_rfl) (by kernel_rfl) (by kernel_rfl) ?_ ?_
  · intro c aa d v ww h
    first
      | exact Grow.bodyPost_blind h
      | (simp (config := {zetaDelta := true}) only [Exit.then, Exit.inBlock] at h ⊢; first | exact Grow.bodyPost_blind h | exact h)
  simp only [Grow.Plan.wp, Grow.pick, List.getElem?_cons_zero, List.getElem?_cons_succ, List.cons_append, List.nil_append]
  repeat (go_big_quiet_step (fail))
  refine wpQuiet_nil ?_
  repeat (go_big_quiet_step (fail))
  refine wpQuiet_nil ?_
  go_upto_region 5 with (fail)
  refine seal_wp fun X2 hX => ?_
  have Q2 := Lib.hid (show Row3 w X2 g 0 2 1 from by rw [hX.out]; exact (R2.out.swap12).below (grow_drew (grow_refl _)))
  clear hX c0 c1 c2 f0 f1 f2 lg
  have c0 := Q2.out.row.cell 0
  have c1 := Q2.out.row.cell 1
  have c2 := Q2.out.row.cell 2
  have f0 := Q2.out.row.frozen 0
  have f1 := Q2.out.row.frozen 1
  have f2 := Q2.out.row.frozen 2
  have lg := Q2.out.row.lt
  simp only [List.getElem?_toArray, List.getElem?_cons_zero, List.getElem?_cons_succ] at c0 c1 c2
  go_wp2
  rw [rounds_succ]
  go_upto_region 4 with (fail)
  refine Grow.wp_region_plan (.quiet [0, 1, 2, 3, 4, 5, 6, 7, 9, 10, 11, 12] (.reads [8, 13] (.tail [14, 15, 16]))) (by kernel_rfl) (by kernel_rfl) (by kernel_rfl) (by kernel_rfl) ?_ ?_
  · intro c aa d v ww h
    first
      | exact Grow.bodyPost_blind h
      | (simp (config := {zetaDelta := true}) only [Exit.then, Exit.inBlock] at h ⊢; first | exact Grow.bodyPost_blind h | exact h)
  simp only [Grow.Plan.wp, Grow.pick, List.getElem?_cons_zero, List.getElem?_cons_succ, List.cons_append, List.nil_append]
  repeat (go_big_quiet_step (fail))
  refine wpQuiet_nil ?_
  repeat (go_big_quiet_step (fail))
  refine wpQuiet_nil ?_
  go_wp2_with (first
    | (go_at_call 58; go_loud ((with_reducible refine (CM20.out _ (PT.out _ (Q2.out.below (by (repeat (with_reducible first | exact grow_refl _ | refine Grow.grow_drewN ?_ _ | refine Grow.grow_drew ?_ | refine Grow.grow_alloc ?_ _)))))).mono ?_); rintro e w3 ⟨rfl, hb⟩; have R3 := Lib.hid (Q2.out.below (grow_trans (by (repeat (with_reducible first | exact grow_refl _ | refine Grow.grow_drewN ?_ _ | refine Grow.grow_drew ?_ | refine Grow.grow_alloc ?_ _))) hb)); clear hb c0 c1 c2 f0 f1 f2 lg)))
  have c0 := R3.out.row.cell 0
  have c1 := R3.out.row.cell 1
  have c2 := R3.out.row.cell 2
  have f0 := R3.out.row.frozen 0
  have f1 := R3.out.row.frozen 1
  have f2 := R3.out.row.frozen 2
  have lg := R3.out.row.lt
  simp only [List.getElem?_toArray, List.getElem?_cons_zero, List.getElem?_cons_succ] at c0 c1 c2
  rw [rounds_succ]
  go_wp2
  go_end0
  first
    | exact ⟨rfl, R3.out⟩
    | exact ⟨rfl, R3.out.below (by (repeat (with_reducible first | exact grow_refl _ | refine Grow.grow_drewN ?_ _ | refine Grow.grow_drew ?_ | refine Grow.grow_alloc ?_ _)))⟩
set_option maxRecDepth 100000 in
set_option maxHeartbeats 16000000 in
theorem ins3_5 (a b c : Dr) (ha : goodP a = true) (hb : goodP b = true) (hc : goodP c = true) (w : World) (bp bt g : Nat) (hp : Pts w bp bt a b c) (h1 : bp ≠ g) (h2 : bt ≠ g) (hr : Known w g #[.int .i64 0, .int .i64 1, .int .i64 2]) (h01 : ¬ acr a b c 0 < acr a b c 1) (h12 : ¬ acr a b c 1 < acr a b c 2) :
    Calls Tryz.prog 115 #[.slice (some ⟨g, 0, none⟩) 3 3, .int .i64 0, .int .i64 3, cmpV bt] w fun e w' => e = .returned (.tuple #[]) ∧ Row3 w w' g 0 1 2 := by
  have CM10 := Lib.hid (fun X (hX : Pts X bp bt a b c) => show Calls Tryz.prog 58 #[.int .i64 1, .int .i64 0, .pointer (some ⟨bt, 0, none⟩)] X fun e w' => e = .returned (.int .i64 (acr a b c 0 - acr a b c 1)) ∧ Below X.heap.size X w' from cmp3_walk a b c ha hb hc 1 0 (by decide) (by decide) X bp bt hX)
  have CM21 := Lib.hid (fun X (hX : Pts X bp bt a b c) => show Calls Tryz.prog 58 #[.int .i64 2, .int .i64 1, .pointer (some ⟨bt, 0, none⟩)] X fun e w' => e = .returned (.int .i64 (acr a b c 1 - acr a b c 2)) ∧ Below X.heap.size X w' from cmp3_walk a b c ha hb hc 2 1 (by decide) (by decide) X bp bt hX)
  have PT := Lib.hid (fun X {i j k : Nat} (hX : Row3 w X g i j k) => hp.but hX.but h1 h2)
  have R0 := Lib.hid (show Row3 w w g 0 1 2 from ⟨hr, But.refl g w⟩)
  clear hp hr h1 h2
  generalize acr a b c 0 = D0 at *
  generalize acr a b c 1 = D1 at *
  generalize acr a b c 2 = D2 at *
  have d01 : decide (D0 - D1 < 0) = false := decide_eq_false (by omega)
  have d12 : decide (D1 - D2 < 0) = false := decide_eq_false (by omega)
  unfold cmpV
  have c0 := R0.out.row.cell 0
  have c1 := R0.out.row.cell 1
  have c2 := R0.out.row.cell 2
  have f0 := R0.out.row.frozen 0
  have f1 := R0.out.row.frozen 1
  have f2 := R0.out.row.frozen 2
  have lg := R0.out.row.lt
  simp only [List.getElem?_toArray, List.getElem?_cons_zero, List.getElem?_cons_succ] at c0 c1 c2
  go_enter Tryz.func115, Tryz.ntmps115
  go_wp2
  refine wp_loop_rounds 3 ?_
  rw [rounds_succ]
  go_wp2
  refine wp_loop_rounds 2 ?_
  rw [rounds_succ]
  go_upto_region 4 with (fail)
  refine Grow.wp_region_plan (.quiet [0, 1, 2, 3, 4, 5, 6, 7, 9, 10, 11, 12] (.reads [8, 13] (.tail [14, 15, 16]))) (by kernel_rfl) (by kernel_rfl) (by kernel_rfl) (by kernel_rfl) ?_ ?_
  · intro c aa d v ww h
    first
      | exact Grow.bodyPost_blind h
      | (simp (config := {zetaDelta := true}) only [Exit.then, Exit.inBlock] at h ⊢; first | exact Grow.bodyPost_blind h | exact h)
  simp only [Grow.Plan.wp, Grow.pick, List.getElem?_cons_zero, List.getElem?_cons_succ, List.cons_append, List.nil_append]
  repeat (go_big_quiet_step (fail))
  refine wpQuiet_nil ?_
  repeat (go_big_quiet_step (fail))
  refine wpQuiet_nil ?_
  go_wp2_with (first
    | (go_at_call 58; go_loud ((with_reducible refine (CM10.out _ (PT.out _ (R0.out.below (by (repeat (with_reducible first | exact grow_refl _ | refine Grow.grow_drewN ?_ _ | refine Grow.grow_drew ?_ | refine Grow.grow_alloc ?_ _)))))).mono ?_); rintro e w1 ⟨rfl, hb⟩; have R1 := Lib.hid (R0.out.below (grow_trans (by (repeat (with_reducible first | exact grow_refl _ | refine Grow.grow_drewN ?_ _ | refine Grow.grow_drew ?_ | refine Grow.grow_alloc ?_ _))) hb)); clear hb c0 c1 c2 f0 f1 f2 lg)))
  have c0 := R1.out.row.cell 0
  have c1 := R1.out.row.cell 1
  have c2 := R1.out.row.cell 2
  have f0 := R1.out.row.frozen 0
  have f1 := R1.out.row.frozen 1
  have f2 := R1.out.row.frozen 2
  have lg := R1.out.row.lt
  simp only [List.getElem?_toArray, List.getElem?_cons_zero, List.getElem?_cons_succ] at c0 c1 c2
  rw [rounds_succ]
  go_wp2
  refine wp_loop_rounds 3 ?_
  rw [rounds_succ]
  go_upto_region 4 with (fail)
  refine Grow.wp_region_plan (.quiet [0, 1, 2, 3, 4, 5, 6, 7, 9, 10, 11, 12] (.reads [8, 13] (.tail [14, 15, 16]))) (by kernel_rfl) (by kernel_rfl) (by kernel_rfl) (by kernel_rfl) ?_ ?_
  · intro c aa d v ww h
    first
      | exact Grow.bodyPost_blind h
      | (simp (config := {zetaDelta := true}) only [Exit.then, Exit.inBlock] at h ⊢; first | exact Grow.bodyPost_blind h | exact h)
  simp only [Grow.Plan.wp, Grow.pick, List.getElem?_cons_zero, List.getElem?_cons_succ, List.cons_append, List.nil_append]
  repeat (go_big_quiet_step (fail))
  refine wpQuiet_nil ?_
  repeat (go_big_quiet_step (fail))
  refine wpQuiet_nil ?_
  go_wp2_with (first
    | (go_at_call 58; go_loud ((with_reducible refine (CM21.out _ (PT.out _ (R1.out.below (by (repeat (with_reducible first | exact grow_refl _ | refine Grow.grow_drewN ?_ _ | refine Grow.grow_drew ?_ | refine Grow.grow_alloc ?_ _)))))).mono ?_); rintro e w2 ⟨rfl, hb⟩; have R2 := Lib.hid (R1.out.below (grow_trans (by (repeat (with_reducible first | exact grow_refl _ | refine Grow.grow_drewN ?_ _ | refine Grow.grow_drew ?_ | refine Grow.grow_alloc ?_ _))) hb)); clear hb c0 c1 c2 f0 f1 f2 lg)))
  have c0 := R2.out.row.cell 0
  have c1 := R2.out.row.cell 1
  have c2 := R2.out.row.cell 2
  have f0 := R2.out.row.frozen 0
  have f1 := R2.out.row.frozen 1
  have f2 := R2.out.row.frozen 2
  have lg := R2.out.row.lt
  simp only [List.getElem?_toArray, List.getElem?_cons_zero, List.getElem?_cons_succ] at c0 c1 c2
  rw [rounds_succ]
  go_wp2
  go_end0
  first
    | exact ⟨rfl, R2.out⟩
    | exact ⟨rfl, R2.out.below (by (repeat (with_reducible first | exact grow_refl _ | refine Grow.grow_drewN ?_ _ | refine Grow.grow_drew ?_ | refine Grow.grow_alloc ?_ _)))⟩
end Go.Proofs.YtlnbeildplafbaaGreatDoor
