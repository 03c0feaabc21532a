/- Shapes of three points: slices.SortStableFunc of three numbers. -/
import Derived.Test.YtlnbeildplafbaaGreatDoorPs3
import Derived.Deep.MidRow
set_option linter.unusedSimpArgs false
set_option linter.unusedVariables false
namespace Go.Proofs.YtlnbeildplafbaaGreatDoor
open Go.RowKit Go.Grow Go.Wd Go.Atl Go.Pl

def Sorted3 (w w' : World) (g : Nat) (o : Nat × Nat × Nat) : Prop := Row3 w w' g o.1 o.2.1 o.2.2
theorem ins3_walk (a b c : Dr) (ha : goodP a = true) (hb : goodP b = true) (hc : goodP c = true) (w : World) (bp bt g : Nat) (hp : Pts w bp bt a b c) (h1 : bp ≠ g) (h2 : bt ≠ g) (hr : Known w g #[.int .i64 0, .int .i64 1, .int .i64 2]) :
    Calls Tryz.prog 115 #[.slice (some ⟨g, 0, none⟩) 3 3, .int .i64 0, .int .i64 3, cmpV bt] w fun e w' => e = .returned (.tuple #[]) ∧ Sorted3 w w' g (ord3 (acr a b c)) := by
  unfold Sorted3
  by_cases h01 : acr a b c 0 < acr a b c 1
  · by_cases h02 : acr a b c 0 < acr a b c 2
    · by_cases h12 : acr a b c 1 < acr a b c 2
      · rw [show ord3 (acr a b c) = (2, 1, 0) by unfold ord3; rw [if_pos h01, if_pos h02, if_pos h12]]
        exact ins3_0 a b c ha hb hc w bp bt g hp h1 h2 hr h01 h02 h12
      · rw [show ord3 (acr a b c) = (1, 2, 0) by unfold ord3; rw [if_pos h01, if_pos h02, if_neg h12]]
        exact ins3_1 a b c ha hb hc w bp bt g hp h1 h2 hr h01 h02 h12
    · rw [show ord3 (acr a b c) = (1, 0, 2) by unfold ord3; rw [if_pos h01, if_neg h02]]
      exact ins3_2 a b c ha hb hc w bp bt g hp h1 h2 hr h01 h02
  · by_cases h12 : acr a b c 1 < acr a b c 2
    · by_cases h02 : acr a b c 0 < acr a b c 2
      · rw [show ord3 (acr a b c) = (2, 0, 1) by unfold ord3; rw [if_neg h01, if_pos h12, if_pos h02]]
        exact ins3_3 a b c ha hb hc w bp bt g hp h1 h2 hr h01 h12 h02
      · rw [show ord3 (acr a b c) = (0, 2, 1) by unfold ord3; rw [if_neg h01, if_pos h12, if_neg h02]]
        exact ins3_4 a b c ha hb hc w bp bt g hp h1 h2 hr h01 h12 h02
    · rw [show ord3 (acr a b c) = (0, 1, 2) by unfold ord3; rw [if_neg h01, if_neg h12]]
      exact ins3_5 a b c ha hb hc w bp bt g hp h1 h2 hr h01 h12
set_option maxRecDepth 100000 in
set_option maxHeartbeats 16000000 in
theorem stable3_walk (a b c : Dr) (ha : goodP a = true) (hb : goodP b = true) (hc : goodP c = true) (w : World) (bp bt g : Nat) (hp : Pts w bp bt a b c) (h1 : bp ≠ g) (h2 : bt ≠ g) (hr : Known w g #[.int .i64 0, .int .i64 1, .int .i64 2]) :
    Calls Tryz.prog 85 #[.slice (some ⟨g, 0, none⟩) 3 3, .int .i64 3, cmpV bt] w fun e w' => e = .returned (.tuple #[]) ∧ Sorted3 w w' g (ord3 (acr a b c)) := by
  have I3 := Lib.hid (ins3_walk a b c ha hb hc w bp bt g hp h1 h2 hr)
  clear hp hr h1 h2
  generalize ord3 (acr a b c) = o at *
  generalize cmpV bt = cv at *
  go_enter Tryz.func85, Tryz.ntmps85
  go_wp2
  refine wp_loop_rounds 1 ?_
  rw [rounds_succ]
  go_wp2_with (go_at_call 115; go_loud ((with_reducible refine (I3.out).mono ?_); rintro e w1 ⟨rfl, hs⟩; have HS := Lib.hid hs; clear hs))
  refine wp_loop_rounds 1 ?_
  rw [rounds_succ]
  go_wp2
  go_end0
  exact ⟨rfl, HS.out⟩
set_option maxRecDepth 100000 in
set_option maxHeartbeats 16000000 in
theorem sort3_walk (a b c : Dr) (ha : goodP a = true) (hb : goodP b = true) (hc : goodP c = true) (w : World) (bp bt g : Nat) (hp : Pts w bp bt a b c) (h1 : bp ≠ g) (h2 : bt ≠ g) (hr : Known w g #[.int .i64 0, .int .i64 1, .int .i64 2]) :
    Calls Tryz.prog 57 #[.slice (some ⟨g, 0, none⟩) 3 3, cmpV bt] w fun e w' => e = .returned (.tuple #[]) ∧ Sorted3 w w' g (ord3 (acr a b c)) := by
  have I3 := Lib.hid (stable3_walk a b c ha hb hc w bp bt g hp h1 h2 hr)
  clear hp hr h1 h2
  generalize ord3 (acr a b c) = o at *
  generalize cmpV bt = cv at *
  go_enter Tryz.func57, Tryz.ntmps57
  go_wp2_with (go_at_call 85; go_loud ((with_reducible refine (I3.out).mono ?_); rintro e w1 ⟨rfl, hs⟩; have HS := Lib.hid hs; clear hs))
  go_end0
  exact ⟨rfl, HS.out⟩
end Go.Proofs.YtlnbeildplafbaaGreatDoor
/- Shapes of three points: corners where there is no shape. -/
set_option linter.unusedSimpArgs false
set_option linter.unusedVariables false
namespace Go.Proofs.YtlnbeildplafbaaGreatDoor
open Go.RowKit Go.Grow Go.Wd Go.Atl Go.Pl

def arr9 (a b c : Dr) : Value := .agg (cellsP a b c)
def shV (l m s h : Int) : Value := .agg #[.int .i64 l, .int .i64 m, .int .i64 s, .int .i64 h]
def i3V (i j k : Nat) : Value := .agg #[.int .i64 (i : Nat), .int .i64 (j : Nat), .int .i64 (k : Nat)]
theorem alloc_sh (w : World) : (Instr.alloc 29 true (.tuple #[])).run Tryz.prog w = .ok (.pointer (some ⟨w.heap.size, 0, none⟩)) (w.alloc (.cells #[.int .i64 0, .int .i64 0, .int .i64 0, .int .i64 0] 29)) := by kernel_rfl
theorem alloc_i3 (w : World) : (Instr.alloc 64 true (.tuple #[])).run Tryz.prog w = .ok (.pointer (some ⟨w.heap.size, 0, none⟩)) (w.alloc (.cells #[.int .i64 0, .int .i64 0, .int .i64 0] 64)) := by kernel_rfl
theorem results_cell22 {P : Program} {fn : Func} {p q t : Tmp} {ty tz : TypeId} (h : fn.results = #[.cell p ty, .cell q tz, .tmp t]) (tmps : Array Value) (w : World) (g g2 : Nat) (cs ds : List Value) (d d2 : TypeDesc)
    (hp : tmps.getD p undef = .pointer (some ⟨g, 0, none⟩)) (hq : tmps.getD q undef = .pointer (some ⟨g2, 0, none⟩)) (hK : Known w g cs.toArray) (hK2 : Known w g2 ds.toArray) (hu : P.underlying ty = some d) (hd : d.isRow = true) (hi : (P.info? ty).map (·.size) = some cs.length)
    (hu2 : P.underlying tz = some d2) (hd2 : d2.isRow = true) (hi2 : (P.info? tz).map (·.size) = some ds.length) :
    (results fn tmps).run P w = .ok (.tuple #[.agg cs.toArray, .agg ds.toArray, tmps.getD t undef]) w := by
  have hp' : tmps[p]?.getD undef = .pointer (some ⟨g, 0, none⟩) := by simpa using hp
  have hq' : tmps[q]?.getD undef = .pointer (some ⟨g2, 0, none⟩) := by simpa using hq
  have hl := run_loadVar_mid (P := P) w g 0 ty cs d (fun j v hv => by rw [Nat.zero_add, hK.cell j]; simpa using hv) hu hd hi
  have hl2 := run_loadVar_mid (P := P) w g2 0 tz ds d2 (fun j v hv => by rw [Nat.zero_add, hK2.cell j]; simpa using hv) hu2 hd2 hi2
  simp [results, h, hp', hq', asAddr, hl, hl2]
set_option maxRecDepth 100000 in
set_option maxHeartbeats 16000000 in
theorem corners_bad1 (a b c : Dr) (ha : goodP a = false) (w : World) :
    Calls Tryz.prog 21 #[arr9 a b c] w fun e w' => e = .returned (.tuple #[shV 0 0 0 0, i3V 0 0 0, .bool false]) ∧ Below w.heap.size w w' := by
  have GA := Lib.hid (fun X => good_walk a X)
  have GB := Lib.hid (fun X => good_walk b X)
  have GC := Lib.hid (fun X => good_walk c X)
  rw [ha] at GA
  have al1 := alloc_sh
  have al2 := alloc_i3
  unfold drV at GA GB GC
  unfold arr9 cellsP
  go_enter Tryz.func21, Tryz.ntmps21
  go_upto_region 1 with (fail)
  have KP := Lib.hid (((Known.new w #[.int .i64 a.x, .int .i64 a.y, .int .i64 a.z, .int .i64 b.x, .int .i64 b.y, .int .i64 b.z, .int .i64 c.x, .int .i64 c.y, .int .i64 c.z] 67).alloc (.cells #[.int .i64 0, .int .i64 0, .int .i64 0, .int .i64 0] 29)).alloc (.cells #[.int .i64 0, .int .i64 0, .int .i64 0] 64))
  have K1 := Lib.hid ((Known.new' (w := w.alloc (.cells #[.int .i64 a.x, .int .i64 a.y, .int .i64 a.z, .int .i64 b.x, .int .i64 b.y, .int .i64 b.z, .int .i64 c.x, .int .i64 c.y, .int .i64 c.z] 67)) (c := #[.int .i64 0, .int .i64 0, .int .i64 0, .int .i64 0]) (t := 29) (b := w.heap.size + 1) (by simp)).alloc (.cells #[.int .i64 0, .int .i64 0, .int .i64 0] 64))
  have K2 := Lib.hid (Known.new' (w := (w.alloc (.cells #[.int .i64 a.x, .int .i64 a.y, .int .i64 a.z, .int .i64 b.x, .int .i64 b.y, .int .i64 b.z, .int .i64 c.x, .int .i64 c.y, .int .i64 c.z] 67)).alloc (.cells #[.int .i64 0, .int .i64 0, .int .i64 0, .int .i64 0] 29)) (c := #[.int .i64 0, .int .i64 0, .int .i64 0]) (t := 64) (b := w.heap.size + 1 + 1) (by simp))
  have B0 := Lib.hid (show Below w.heap.size w (((w.alloc (.cells #[.int .i64 a.x, .int .i64 a.y, .int .i64 a.z, .int .i64 b.x, .int .i64 b.y, .int .i64 b.z, .int .i64 c.x, .int .i64 c.y, .int .i64 c.z] 67)).alloc (.cells #[.int .i64 0, .int .i64 0, .int .i64 0, .int .i64 0] 29)).alloc (.cells #[.int .i64 0, .int .i64 0, .int .i64 0] 64)) from grow_alloc (grow_alloc (grow_alloc (grow_refl w) _) _) _)
  generalize ((w.alloc (.cells #[.int .i64 a.x, .int .i64 a.y, .int .i64 a.z, .int .i64 b.x, .int .i64 b.y, .int .i64 b.z, .int .i64 c.x, .int .i64 c.y, .int .i64 c.z] 67)).alloc (.cells #[.int .i64 0, .int .i64 0, .int .i64 0, .int .i64 0] 29)).alloc (.cells #[.int .i64 0, .int .i64 0, .int .i64 0] 64) = W0 at *
  generalize hbp : w.heap.size = bp at *
  have HBP := Lib.hid hbp
  clear hbp
  have c0 := KP.out.cell 0
  have c1 := KP.out.cell 1
  have c2 := KP.out.cell 2
  have c3 := KP.out.cell 3
  have c4 := KP.out.cell 4
  have c5 := KP.out.cell 5
  have c6 := KP.out.cell 6
  have c7 := KP.out.cell 7
  have c8 := KP.out.cell 8
  have lp := KP.out.lt
  simp only [cellsP, List.getElem?_toArray, List.getElem?_cons_zero, List.getElem?_cons_succ] at c0 c1 c2 c3 c4 c5 c6 c7 c8
  go_upto_region 2 with (first
    | (go_at_call 53; go_loud ((with_reducible refine (GA.out _).mono ?_); rintro e w1 ⟨rfl, hb⟩; have B1 := Lib.hid (hb : Below W0.heap.size W0 w1); clear hb GA c0 c1 c2 c3 c4 c5 c6 c7 c8 lp; have c0 := (KP.out.below B1.out).cell 0; have c1 := (KP.out.below B1.out).cell 1; have c2 := (KP.out.below B1.out).cell 2; have c3 := (KP.out.below B1.out).cell 3; have c4 := (KP.out.below B1.out).cell 4; have c5 := (KP.out.below B1.out).cell 5; have c6 := (KP.out.below B1.out).cell 6; have c7 := (KP.out.below B1.out).cell 7; have c8 := (KP.out.below B1.out).cell 8; have lp := (KP.out.below B1.out).lt; simp only [cellsP, List.getElem?_toArray, List.getElem?_cons_zero, List.getElem?_cons_succ] at c0 c1 c2 c3 c4 c5 c6 c7 c8)))
  clear c0 c1 c2 c3 c4 c5 c6 c7 c8 lp
  have BX := Lib.hid (B0.out.trans (B1.out.mono (Nat.le_of_lt KP.out.lt)) : Below bp w w1)
  have L1 := Lib.hid (K1.out.below B1.out)
  have L2 := Lib.hid (K2.out.below B1.out)
  generalize w1 = X at *
  clear K1 K2 KP B0
  have d0 := L1.out.cell 0
  have d1 := L1.out.cell 1
  have d2 := L1.out.cell 2
  have d3 := L1.out.cell 3
  have g0 := L1.out.frozen 0
  have g1 := L1.out.frozen 1
  have g2 := L1.out.frozen 2
  have g3 := L1.out.frozen 3
  have l1 := L1.out.lt
  have e0 := L2.out.cell 0
  have e1 := L2.out.cell 1
  have e2 := L2.out.cell 2
  have h0 := L2.out.frozen 0
  have h1 := L2.out.frozen 1
  have h2 := L2.out.frozen 2
  have l2 := L2.out.lt
  simp only [List.getElem?_toArray, List.getElem?_cons_zero, List.getElem?_cons_succ] at d0 d1 d2 d3 e0 e1 e2
  have n12 : bp + 1 ≠ bp + 1 + 1 := by omega
  have n21 : bp + 1 + 1 ≠ bp + 1 := by omega
  have KF1 := Lib.hid (((((((L1.out.same 0 (.int .i64 0)).same 1 (.int .i64 0)).same 2 (.int .i64 0)).same 3 (.int .i64 0)).other n21 0 (.int .i64 0)).other n21 1 (.int .i64 0)).other n21 2 (.int .i64 0))
  have KF2 := Lib.hid (((((((L2.out.other n12 0 (.int .i64 0)).other n12 1 (.int .i64 0)).other n12 2 (.int .i64 0)).other n12 3 (.int .i64 0)).same 0 (.int .i64 0)).same 1 (.int .i64 0)).same 2 (.int .i64 0))
  clear n12 n21 L1 L2
  go_wp2
  (try simp only [Exit.inBlock, Exit.then])
  refine bodyPost_ret (results_cell22 rfl _ _ (bp + 1) (bp + 1 + 1) [.int .i64 0, .int .i64 0, .int .i64 0, .int .i64 0] [.int .i64 0, .int .i64 0, .int .i64 0] _ _ rfl rfl KF1.out KF2.out Tryz.underlying29 rfl (by kernel_rfl) Tryz.underlying64 rfl (by kernel_rfl)) rfl ?_
  exact ⟨rfl, (by rw [HBP.out]; (repeat (with_reducible first | exact BX.out | refine Grow.grow_drewN ?_ _ | refine Grow.grow_drew ?_ | refine Below.setCell ?_ ?_ _ | refine Grow.grow_alloc ?_ _)) <;> (show bp ≤ _; dsimp only; omega))⟩
set_option maxRecDepth 100000 in
set_option maxHeartbeats 16000000 in
theorem corners_bad2 (a b c : Dr) (ha : goodP a = true) (hb : goodP b = false) (w : World) :
    Calls Tryz.prog 21 #[arr9 a b c] w fun e w' => e = .returned (.tuple #[shV 0 0 0 0, i3V 0 0 0, .bool false]) ∧ Below w.heap.size w w' := by
  have GA := Lib.hid (fun X => good_walk a X)
  have GB := Lib.hid (fun X => good_walk b X)
  have GC := Lib.hid (fun X => good_walk c X)
  rw [ha] at GA
  rw [hb] at GB
  have al1 := alloc_sh
  have al2 := alloc_i3
  unfold drV at GA GB GC
  unfold arr9 cellsP
  go_enter Tryz.func21, Tryz.ntmps21
  go_upto_region 1 with (fail)
  have KP := Lib.hid (((Known.new w #[.int .i64 a.x, .int .i64 a.y, .int .i64 a.z, .int .i64 b.x, .int .i64 b.y, .int .i64 b.z, .int .i64 c.x, .int .i64 c.y, .int .i64 c.z] 67).alloc (.cells #[.int .i64 0, .int .i64 0, .int .i64 0, .int .i64 0] 29)).alloc (.cells #[.int .i64 0, .int .i64 0, .int .i64 0] 64))
  have K1 := Lib.hid ((Known.new' (w := w.alloc (.cells #[.int .i64 a.x, .int .i64 a.y, .int .i64 a.z, .int .i64 b.x, .int .i64 b.y, .int .i64 b.z, .int .i64 c.x, .int .i64 c.y, .int .i64 c.z] 67)) (c := #[.int .i64 0, .int .i64 0, .int .i64 0, .int .i64 0]) (t := 29) (b := w.heap.size + 1) (by simp)).alloc (.cells #[.int .i64 0, .int .i64 0, .int .i64 0] 64))
  have K2 := Lib.hid (Known.new' (w := (w.alloc (.cells #[.int .i64 a.x, .int .i64 a.y, .int .i64 a.z, .int .i64 b.x, .int .i64 b.y, .int .i64 b.z, .int .i64 c.x, .int .i64 c.y, .int .i64 c.z] 67)).alloc (.cells #[.int .i64 0, .int .i64 0, .int .i64 0, .int .i64 0] 29)) (c := #[.int .i64 0, .int .i64 0, .int .i64 0]) (t := 64) (b := w.heap.size + 1 + 1) (by simp))
  have B0 := Lib.hid (show Below w.heap.size w (((w.alloc (.cells #[.int .i64 a.x, .int .i64 a.y, .int .i64 a.z, .int .i64 b.x, .int .i64 b.y, .int .i64 b.z, .int .i64 c.x, .int .i64 c.y, .int .i64 c.z] 67)).alloc (.cells #[.int .i64 0, .int .i64 0, .int .i64 0, .int .i64 0] 29)).alloc (.cells #[.int .i64 0, .int .i64 0, .int .i64 0] 64)) from grow_alloc (grow_alloc (grow_alloc (grow_refl w) _) _) _)
  generalize ((w.alloc (.cells #[.int .i64 a.x, .int .i64 a.y, .int .i64 a.z, .int .i64 b.x, .int .i64 b.y, .int .i64 b.z, .int .i64 c.x, .int .i64 c.y, .int .i64 c.z] 67)).alloc (.cells #[.int .i64 0, .int .i64 0, .int .i64 0, .int .i64 0] 29)).alloc (.cells #[.int .i64 0, .int .i64 0, .int .i64 0] 64) = W0 at *
  generalize hbp : w.heap.size = bp at *
  have HBP := Lib.hid hbp
  clear hbp
  have c0 := KP.out.cell 0
  have c1 := KP.out.cell 1
  have c2 := KP.out.cell 2
  have c3 := KP.out.cell 3
  have c4 := KP.out.cell 4
  have c5 := KP.out.cell 5
  have c6 := KP.out.cell 6
  have c7 := KP.out.cell 7
  have c8 := KP.out.cell 8
  have lp := KP.out.lt
  simp only [cellsP, List.getElem?_toArray, List.getElem?_cons_zero, List.getElem?_cons_succ] at c0 c1 c2 c3 c4 c5 c6 c7 c8
  go_upto_region 2 with (first
    | (go_at_call 53; go_loud ((with_reducible refine (GA.out _).mono ?_); rintro e w1 ⟨rfl, hb⟩; have B1 := Lib.hid (hb : Below W0.heap.size W0 w1); clear hb GA c0 c1 c2 c3 c4 c5 c6 c7 c8 lp; have c0 := (KP.out.below B1.out).cell 0; have c1 := (KP.out.below B1.out).cell 1; have c2 := (KP.out.below B1.out).cell 2; have c3 := (KP.out.below B1.out).cell 3; have c4 := (KP.out.below B1.out).cell 4; have c5 := (KP.out.below B1.out).cell 5; have c6 := (KP.out.below B1.out).cell 6; have c7 := (KP.out.below B1.out).cell 7; have c8 := (KP.out.below B1.out).cell 8; have lp := (KP.out.below B1.out).lt; simp only [cellsP, List.getElem?_toArray, List.getElem?_cons_zero, List.getElem?_cons_succ] at c0 c1 c2 c3 c4 c5 c6 c7 c8))
    | (go_at_call 53; go_loud ((with_reducible refine (GB.out _).mono ?_); rintro e w2 ⟨rfl, hb⟩; have B2 := Lib.hid (grow_trans B1.out hb : Below W0.heap.size W0 w2); clear hb GB c0 c1 c2 c3 c4 c5 c6 c7 c8 lp; have c0 := (KP.out.below B2.out).cell 0; have c1 := (KP.out.below B2.out).cell 1; have c2 := (KP.out.below B2.out).cell 2; have c3 := (KP.out.below B2.out).cell 3; have c4 := (KP.out.below B2.out).cell 4; have c5 := (KP.out.below B2.out).cell 5; have c6 := (KP.out.below B2.out).cell 6; have c7 := (KP.out.below B2.out).cell 7; have c8 := (KP.out.below B2.out).cell 8; have lp := (KP.out.below B2.out).lt; simp only [cellsP, List.getElem?_toArray, List.getElem?_cons_zero, List.getElem?_cons_succ] at c0 c1 c2 c3 c4 c5 c6 c7 c8)))
  clear c0 c1 c2 c3 c4 c5 c6 c7 c8 lp
  have BX := Lib.hid (B0.out.trans (B2.out.mono (Nat.le_of_lt KP.out.lt)) : Below bp w w2)
  have L1 := Lib.hid (K1.out.below B2.out)
  have L2 := Lib.hid (K2.out.below B2.out)
  generalize w2 = X at *
  clear K1 K2 KP B0
  have d0 := L1.out.cell 0
  have d1 := L1.out.cell 1
  have d2 := L1.out.cell 2
  have d3 := L1.out.cell 3
  have g0 := L1.out.frozen 0
  have g1 := L1.out.frozen 1
  have g2 := L1.out.frozen 2
  have g3 := L1.out.frozen 3
  have l1 := L1.out.lt
  have e0 := L2.out.cell 0
  have e1 := L2.out.cell 1
  have e2 := L2.out.cell 2
  have h0 := L2.out.frozen 0
  have h1 := L2.out.frozen 1
  have h2 := L2.out.frozen 2
  have l2 := L2.out.lt
  simp only [List.getElem?_toArray, List.getElem?_cons_zero, List.getElem?_cons_succ] at d0 d1 d2 d3 e0 e1 e2
  have n12 : bp + 1 ≠ bp + 1 + 1 := by omega
  have n21 : bp + 1 + 1 ≠ bp + 1 := by omega
  have KF1 := Lib.hid (((((((L1.out.same 0 (.int .i64 0)).same 1 (.int .i64 0)).same 2 (.int .i64 0)).same 3 (.int .i64 0)).other n21 0 (.int .i64 0)).other n21 1 (.int .i64 0)).other n21 2 (.int .i64 0))
  have KF2 := Lib.hid (((((((L2.out.other n12 0 (.int .i64 0)).other n12 1 (.int .i64 0)).other n12 2 (.int .i64 0)).other n12 3 (.int .i64 0)).same 0 (.int .i64 0)).same 1 (.int .i64 0)).same 2 (.int .i64 0))
  clear n12 n21 L1 L2
  go_wp2
  (try simp only [Exit.inBlock, Exit.then])
  refine bodyPost_ret (results_cell22 rfl _ _ (bp + 1) (bp + 1 + 1) [.int .i64 0, .int .i64 0, .int .i64 0, .int .i64 0] [.int .i64 0, .int .i64 0, .int .i64 0] _ _ rfl rfl KF1.out KF2.out Tryz.underlying29 rfl (by kernel_rfl) Tryz.underlying64 rfl (by kernel_rfl)) rfl ?_
  exact ⟨rfl, (by rw [HBP.out]; (repeat (with_reducible first | exact BX.out | refine Grow.grow_drewN ?_ _ | refine Grow.grow_drew ?_ | refine Below.setCell ?_ ?_ _ | refine Grow.grow_alloc ?_ _)) <;> (show bp ≤ _; dsimp only; omega))⟩
set_option maxRecDepth 100000 in
set_option maxHeartbeats 16000000 in
theorem corners_bad3 (a b c : Dr) (ha : goodP a = true) (hb : goodP b = true) (hc : goodP c = false) (w : World) :
    Calls Tryz.prog 21 #[arr9 a b c] w fun e w' => e = .returned (.tuple #[shV 0 0 0 0, i3V 0 0 0, .bool false]) ∧ Below w.heap.size w w' := by
  have GA := Lib.hid (fun X => good_walk a X)
  have GB := Lib.hid (fun X => good_walk b X)
  have GC := Lib.hid (fun X => good_walk c X)
  rw [ha] at GA
  rw [hb] at GB
  rw [hc] at GC
  have al1 := alloc_sh
  have al2 := alloc_i3
  unfold drV at GA GB GC
  unfold arr9 cellsP
  go_enter Tryz.func21, Tryz.ntmps21
  go_upto_region 1 with (fail)
  have KP := Lib.hid (((Known.new w #[.int .i64 a.x, .int .i64 a.y, .int .i64 a.z, .int .i64 b.x, .int .i64 b.y, .int .i64 b.z, .int .i64 c.x, .int .i64 c.y, .int .i64 c.z] 67).alloc (.cells #[.int .i64 0, .int .i64 0, .int .i64 0, .int .i64 0] 29)).alloc (.cells #[.int .i64 0, .int .i64 0, .int .i64 0] 64))
  have K1 := Lib.hid ((Known.new' (w := w.alloc (.cells #[.int .i64 a.x, .int .i64 a.y, .int .i64 a.z, .int .i64 b.x, .int .i64 b.y, .int .i64 b.z, .int .i64 c.x, .int .i64 c.y, .int .i64 c.z] 67)) (c := #[.int .i64 0, .int .i64 0, .int .i64 0, .int .i64 0]) (t := 29) (b := w.heap.size + 1) (by simp)).alloc (.cells #[.int .i64 0, .int .i64 0, .int .i64 0] 64))
  have K2 := Lib.hid (Known.new' (w := (w.alloc (.cells #[.int .i64 a.x, .int .i64 a.y, .int .i64 a.z, .int .i64 b.x, .int .i64 b.y, .int .i64 b.z, .int .i64 c.x, .int .i64 c.y, .int .i64 c.z] 67)).alloc (.cells #[.int .i64 0, .int .i64 0, .int .i64 0, .int .i64 0] 29)) (c := #[.int .i64 0, .int .i64 0, .int .i64 0]) (t := 64) (b := w.heap.size + 1 + 1) (by simp))
  have B0 := Lib.hid (show Below w.heap.size w (((w.alloc (.cells #[.int .i64 a.x, .int .i64 a.y, .int .i64 a.z, .int .i64 b.x, .int .i64 b.y, .int .i64 b.z, .int .i64 c.x, .int .i64 c.y, .int .i64 c.z] 67)).alloc (.cells #[.int .i64 0, .int .i64 0, .int .i64 0, .int .i64 0] 29)).alloc (.cells #[.int .i64 0, .int .i64 0, .int .i64 0] 64)) from grow_alloc (grow_alloc (grow_alloc (grow_refl w) _) _) _)
  generalize ((w.alloc (.cells #[.int .i64 a.x, .int .i64 a.y, .int .i64 a.z, .int .i64 b.x, .int .i64 b.y, .int .i64 b.z, .int .i64 c.x, .int .i64 c.y, .int .i64 c.z] 67)).alloc (.cells #[.int .i64 0, .int .i64 0, .int .i64 0, .int .i64 0] 29)).alloc (.cells #[.int .i64 0, .int .i64 0, .int .i64 0] 64) = W0 at *
  generalize hbp : w.heap.size = bp at *
  have HBP := Lib.hid hbp
  clear hbp
  have c0 := KP.out.cell 0
  have c1 := KP.out.cell 1
  have c2 := KP.out.cell 2
  have c3 := KP.out.cell 3
  have c4 := KP.out.cell 4
  have c5 := KP.out.cell 5
  have c6 := KP.out.cell 6
  have c7 := KP.out.cell 7
  have c8 := KP.out.cell 8
  have lp := KP.out.lt
  simp only [cellsP, List.getElem?_toArray, List.getElem?_cons_zero, List.getElem?_cons_succ] at c0 c1 c2 c3 c4 c5 c6 c7 c8
  go_upto_region 2 with (first
    | (go_at_call 53; go_loud ((with_reducible refine (GA.out _).mono ?_); rintro e w1 ⟨rfl, hb⟩; have B1 := Lib.hid (hb : Below W0.heap.size W0 w1); clear hb GA c0 c1 c2 c3 c4 c5 c6 c7 c8 lp; have c0 := (KP.out.below B1.out).cell 0; have c1 := (KP.out.below B1.out).cell 1; have c2 := (KP.out.below B1.out).cell 2; have c3 := (KP.out.below B1.out).cell 3; have c4 := (KP.out.below B1.out).cell 4; have c5 := (KP.out.below B1.out).cell 5; have c6 := (KP.out.below B1.out).cell 6; have c7 := (KP.out.below B1.out).cell 7; have c8 := (KP.out.below B1.out).cell 8; have lp := (KP.out.below B1.out).lt; simp only [cellsP, List.getElem?_toArray, List.getElem?_cons_zero, List.getElem?_cons_succ] at c0 c1 c2 c3 c4 c5 c6 c7 c8))
    | (go_at_call 53; go_loud ((with_reducible refine (GB.out _).mono ?_); rintro e w2 ⟨rfl, hb⟩; have B2 := Lib.hid (grow_trans B1.out hb : Below W0.heap.size W0 w2); clear hb GB c0 c1 c2 c3 c4 c5 c6 c7 c8 lp; have c0 := (KP.out.below B2.out).cell 0; have c1 := (KP.out.below B2.out).cell 1; have c2 := (KP.out.below B2.out).cell 2; have c3 := (KP.out.below B2.out).cell 3; have c4 := (KP.out.below B2.out).cell 4; have c5 := (KP.out.below B2.out).cell 5; have c6 := (KP.out.below B2.out).cell 6; have c7 := (KP.out.below B2.out).cell 7; have c8 := (KP.out.below B2.out).cell 8; have lp := (KP.out.below B2.out).lt; simp only [cellsP, List.getElem?_toArray, List.getElem?_cons_zero, List.getElem?_cons_succ] at c0 c1 c2 c3 c4 c5 c6 c7 c8))
    | (go_at_call 53; go_loud ((with_reducible refine (GC.out _).mono ?_); rintro e w3 ⟨rfl, hb⟩; have B3 := Lib.hid (grow_trans B2.out hb : Below W0.heap.size W0 w3); clear hb GC c0 c1 c2 c3 c4 c5 c6 c7 c8 lp; have c0 := (KP.out.below B3.out).cell 0; have c1 := (KP.out.below B3.out).cell 1; have c2 := (KP.out.below B3.out).cell 2; have c3 := (KP.out.below B3.out).cell 3; have c4 := (KP.out.below B3.out).cell 4; have c5 := (KP.out.below B3.out).cell 5; have c6 := (KP.out.below B3.out).cell 6; have c7 := (KP.out.below B3.out).cell 7; have c8 := (KP.out.below B3.out).cell 8; have lp := (KP.out.below B3.out).lt; simp only [cellsP, List.getElem?_toArray, List.getElem?_cons_zero, List.getElem?_cons_succ] at c0 c1 c2 c3 c4 c5 c6 c7 c8)))
  clear c0 c1 c2 c3 c4 c5 c6 c7 c8 lp
  have BX := Lib.hid (B0.out.trans (B3.out.mono (Nat.le_of_lt KP.out.lt)) : Below bp w w3)
  have L1 := Lib.hid (K1.out.below B3.out)
  have L2 := Lib.hid (K2.out.below B3.out)
  generalize w3 = X at *
  clear K1 K2 KP B0
  have d0 := L1.out.cell 0
  have d1 := L1.out.cell 1
  have d2 := L1.out.cell 2
  have d3 := L1.out.cell 3
  have g0 := L1.out.frozen 0
  have g1 := L1.out.frozen 1
  have g2 := L1.out.frozen 2
  have g3 := L1.out.frozen 3
  have l1 := L1.out.lt
  have e0 := L2.out.cell 0
  have e1 := L2.out.cell 1
  have e2 := L2.out.cell 2
  have h0 := L2.out.frozen 0
  have h1 := L2.out.frozen 1
  have h2 := L2.out.frozen 2
  have l2 := L2.out.lt
  simp only [List.getElem?_toArray, List.getElem?_cons_zero, List.getElem?_cons_succ] at d0 d1 d2 d3 e0 e1 e2
  have n12 : bp + 1 ≠ bp + 1 + 1 := by omega
  have n21 : bp + 1 + 1 ≠ bp + 1 := by omega
  have KF1 := Lib.hid (((((((L1.out.same 0 (.int .i64 0)).same 1 (.int .i64 0)).same 2 (.int .i64 0)).same 3 (.int .i64 0)).other n21 0 (.int .i64 0)).other n21 1 (.int .i64 0)).other n21 2 (.int .i64 0))
  have KF2 := Lib.hid (((((((L2.out.other n12 0 (.int .i64 0)).other n12 1 (.int .i64 0)).other n12 2 (.int .i64 0)).other n12 3 (.int .i64 0)).same 0 (.int .i64 0)).same 1 (.int .i64 0)).same 2 (.int .i64 0))
  clear n12 n21 L1 L2
  go_wp2
  (try simp only [Exit.inBlock, Exit.then])
  refine bodyPost_ret (results_cell22 rfl _ _ (bp + 1) (bp + 1 + 1) [.int .i64 0, .int .i64 0, .int .i64 0, .int .i64 0] [.int .i64 0, .int .i64 0, .int .i64 0] _ _ rfl rfl KF1.out KF2.out Tryz.underlying29 rfl (by kernel_rfl) Tryz.underlying64 rfl (by kernel_rfl)) rfl ?_
  exact ⟨rfl, (by rw [HBP.out]; (repeat (with_reducible first | exact BX.out | refine Grow.grow_drewN ?_ _ | refine Grow.grow_drew ?_ | refine Below.setCell ?_ ?_ _ | refine Grow.grow_alloc ?_ _)) <;> (show bp ≤ _; dsimp only; omega))⟩
set_option maxRecDepth 100000 in
set_option maxHeartbeats 16000000 in
theorem corners_bad4 (a b c : Dr) (ha : goodP a = true) (hb : goodP b = true) (hc : goodP c = true) (hr : arZ a b c = 0) (w : World) :
    Calls Tryz.prog 21 #[arr9 a b c] w fun e w' => e = .returned (.tuple #[shV 0 0 0 0, i3V 0 0 0, .bool false]) ∧ Below w.heap.size w w' := by
  have GA := Lib.hid (fun X => good_walk a X)
  have GB := Lib.hid (fun X => good_walk b X)
  have GC := Lib.hid (fun X => good_walk c X)
  have AR := Lib.hid (fun X => area_walk a b c ha hb hc X)
  rw [hr] at AR
  unfold drV at AR
  rw [ha] at GA
  rw [hb] at GB
  rw [hc] at GC
  have al1 := alloc_sh
  have al2 := alloc_i3
  unfold drV at GA GB GC
  unfold arr9 cellsP
  go_enter Tryz.func21, Tryz.ntmps21
  go_upto_region 1 with (fail)
  have KP := Lib.hid (((Known.new w #[.int .i64 a.x, .int .i64 a.y, .int .i64 a.z, .int .i64 b.x, .int .i64 b.y, .int .i64 b.z, .int .i64 c.x, .int .i64 c.y, .int .i64 c.z] 67).alloc (.cells #[.int .i64 0, .int .i64 0, .int .i64 0, .int .i64 0] 29)).alloc (.cells #[.int .i64 0, .int .i64 0, .int .i64 0] 64))
  have K1 := Lib.hid ((Known.new' (w := w.alloc (.cells #[.int .i64 a.x, .int .i64 a.y, .int .i64 a.z, .int .i64 b.x, .int .i64 b.y, .int .i64 b.z, .int .i64 c.x, .int .i64 c.y, .int .i64 c.z] 67)) (c := #[.int .i64 0, .int .i64 0, .int .i64 0, .int .i64 0]) (t := 29) (b := w.heap.size + 1) (by simp)).alloc (.cells #[.int .i64 0, .int .i64 0, .int .i64 0] 64))
  have K2 := Lib.hid (Known.new' (w := (w.alloc (.cells #[.int .i64 a.x, .int .i64 a.y, .int .i64 a.z, .int .i64 b.x, .int .i64 b.y, .int .i64 b.z, .int .i64 c.x, .int .i64 c.y, .int .i64 c.z] 67)).alloc (.cells #[.int .i64 0, .int .i64 0, .int .i64 0, .int .i64 0] 29)) (c := #[.int .i64 0, .int .i64 0, .int .i64 0]) (t := 64) (b := w.heap.size + 1 + 1) (by simp))
  have B0 := Lib.hid (show Below w.heap.size w (((w.alloc (.cells #[.int .i64 a.x, .int .i64 a.y, .int .i64 a.z, .int .i64 b.x, .int .i64 b.y, .int .i64 b.z, .int .i64 c.x, .int .i64 c.y, .int .i64 c.z] 67)).alloc (.cells #[.int .i64 0, .int .i64 0, .int .i64 0, .int .i64 0] 29)).alloc (.cells #[.int .i64 0, .int .i64 0, .int .i64 0] 64)) from grow_alloc (grow_alloc (grow_alloc (grow_refl w) _) _) _)
  generalize ((w.alloc (.cells #[.int .i64 a.x, .int .i64 a.y, .int .i64 a.z, .int .i64 b.x, .int .i64 b.y, .int .i64 b.z, .int .i64 c.x, .int .i64 c.y, .int .i64 c.z] 67)).alloc (.cells #[.int .i64 0, .int .i64 0, .int .i64 0, .int .i64 0] 29)).alloc (.cells #[.int .i64 0, .int .i64 0, .int .i64 0] 64) = W0 at *
  generalize hbp : w.heap.size = bp at *
  have HBP := Lib.hid hbp
  clear hbp
  have c0 := KP.out.cell 0
  have c1 := KP.out.cell 1
  have c2 := KP.out.cell 2
  have c3 := KP.out.cell 3
  have c4 := KP.out.cell 4
  have c5 := KP.out.cell 5
  have c6 := KP.out.cell 6
  have c7 := KP.out.cell 7
  have c8 := KP.out.cell 8
  have lp := KP.out.lt
  simp only [cellsP, List.getElem?_toArray, List.getElem?_cons_zero, List.getElem?_cons_succ] at c0 c1 c2 c3 c4 c5 c6 c7 c8
  go_upto_region 2 with (first
    | (go_at_call 53; go_loud ((with_reducible refine (GA.out _).mono ?_); rintro e w1 ⟨rfl, hb⟩; have B1 := Lib.hid (hb : Below W0.heap.size W0 w1); clear hb GA c0 c1 c2 c3 c4 c5 c6 c7 c8 lp; have c0 := (KP.out.below B1.out).cell 0; have c1 := (KP.out.below B1.out).cell 1; have c2 := (KP.out.below B1.out).cell 2; have c3 := (KP.out.below B1.out).cell 3; have c4 := (KP.out.below B1.out).cell 4; have c5 := (KP.out.below B1.out).cell 5; have c6 := (KP.out.below B1.out).cell 6; have c7 := (KP.out.below B1.out).cell 7; have c8 := (KP.out.below B1.out).cell 8; have lp := (KP.out.below B1.out).lt; simp only [cellsP, List.getElem?_toArray, List.getElem?_cons_zero, List.getElem?_cons_succ] at c0 c1 c2 c3 c4 c5 c6 c7 c8))
    | (go_at_call 53; go_loud ((with_reducible refine (GB.out _).mono ?_); rintro e w2 ⟨rfl, hb⟩; have B2 := Lib.hid (grow_trans B1.out hb : Below W0.heap.size W0 w2); clear hb GB c0 c1 c2 c3 c4 c5 c6 c7 c8 lp; have c0 := (KP.out.below B2.out).cell 0; have c1 := (KP.out.below B2.out).cell 1; have c2 := (KP.out.below B2.out).cell 2; have c3 := (KP.out.below B2.out).cell 3; have c4 := (KP.out.below B2.out).cell 4; have c5 := (KP.out.below B2.out).cell 5; have c6 := (KP.out.below B2.out).cell 6; have c7 := (KP.out.below B2.out).cell 7; have c8 := (KP.out.below B2.out).cell 8; have lp := (KP.out.below B2.out).lt; simp only [cellsP, List.getElem?_toArray, List.getElem?_cons_zero, List.getElem?_cons_succ] at c0 c1 c2 c3 c4 c5 c6 c7 c8))
    | (go_at_call 53; go_loud ((with_reducible refine (GC.out _).mono ?_); rintro e w3 ⟨rfl, hb⟩; have B3 := Lib.hid (grow_trans B2.out hb : Below W0.heap.size W0 w3); clear hb GC c0 c1 c2 c3 c4 c5 c6 c7 c8 lp; have c0 := (KP.out.below B3.out).cell 0; have c1 := (KP.out.below B3.out).cell 1; have c2 := (KP.out.below B3.out).cell 2; have c3 := (KP.out.below B3.out).cell 3; have c4 := (KP.out.below B3.out).cell 4; have c5 := (KP.out.below B3.out).cell 5; have c6 := (KP.out.below B3.out).cell 6; have c7 := (KP.out.below B3.out).cell 7; have c8 := (KP.out.below B3.out).cell 8; have lp := (KP.out.below B3.out).lt; simp only [cellsP, List.getElem?_toArray, List.getElem?_cons_zero, List.getElem?_cons_succ] at c0 c1 c2 c3 c4 c5 c6 c7 c8))
    | (go_at_call 54; go_loud ((with_reducible refine (AR.out _).mono ?_); rintro e w4 ⟨rfl, hb⟩; have B4 := Lib.hid (grow_trans B3.out hb : Below W0.heap.size W0 w4); clear hb AR c0 c1 c2 c3 c4 c5 c6 c7 c8 lp; have c0 := (KP.out.below B4.out).cell 0; have c1 := (KP.out.below B4.out).cell 1; have c2 := (KP.out.below B4.out).cell 2; have c3 := (KP.out.below B4.out).cell 3; have c4 := (KP.out.below B4.out).cell 4; have c5 := (KP.out.below B4.out).cell 5; have c6 := (KP.out.below B4.out).cell 6; have c7 := (KP.out.below B4.out).cell 7; have c8 := (KP.out.below B4.out).cell 8; have lp := (KP.out.below B4.out).lt; simp only [cellsP, List.getElem?_toArray, List.getElem?_cons_zero, List.getElem?_cons_succ] at c0 c1 c2 c3 c4 c5 c6 c7 c8)))
  clear c0 c1 c2 c3 c4 c5 c6 c7 c8 lp
  have BX := Lib.hid (B0.out.trans (B4.out.mono (Nat.le_of_lt KP.out.lt)) : Below bp w w4)
  have L1 := Lib.hid (K1.out.below B4.out)
  have L2 := Lib.hid (K2.out.below B4.out)
  generalize w4 = X at *
  clear K1 K2 KP B0
  have d0 := L1.out.cell 0
  have d1 := L1.out.cell 1
  have d2 := L1.out.cell 2
  have d3 := L1.out.cell 3
  have g0 := L1.out.frozen 0
  have g1 := L1.out.frozen 1
  have g2 := L1.out.frozen 2
  have g3 := L1.out.frozen 3
  have l1 := L1.out.lt
  have e0 := L2.out.cell 0
  have e1 := L2.out.cell 1
  have e2 := L2.out.cell 2
  have h0 := L2.out.frozen 0
  have h1 := L2.out.frozen 1
  have h2 := L2.out.frozen 2
  have l2 := L2.out.lt
  simp only [List.getElem?_toArray, List.getElem?_cons_zero, List.getElem?_cons_succ] at d0 d1 d2 d3 e0 e1 e2
  have n12 : bp + 1 ≠ bp + 1 + 1 := by omega
  have n21 : bp + 1 + 1 ≠ bp + 1 := by omega
  have KF1 := Lib.hid (((((((L1.out.same 0 (.int .i64 0)).same 1 (.int .i64 0)).same 2 (.int .i64 0)).same 3 (.int .i64 0)).other n21 0 (.int .i64 0)).other n21 1 (.int .i64 0)).other n21 2 (.int .i64 0))
  have KF2 := Lib.hid (((((((L2.out.other n12 0 (.int .i64 0)).other n12 1 (.int .i64 0)).other n12 2 (.int .i64 0)).other n12 3 (.int .i64 0)).same 0 (.int .i64 0)).same 1 (.int .i64 0)).same 2 (.int .i64 0))
  clear n12 n21 L1 L2
  go_wp2
  (try simp only [Exit.inBlock, Exit.then])
  refine bodyPost_ret (results_cell22 rfl _ _ (bp + 1) (bp + 1 + 1) [.int .i64 0, .int .i64 0, .int .i64 0, .int .i64 0] [.int .i64 0, .int .i64 0, .int .i64 0] _ _ rfl rfl KF1.out KF2.out Tryz.underlying29 rfl (by kernel_rfl) Tryz.underlying64 rfl (by kernel_rfl)) rfl ?_
  exact ⟨rfl, (by rw [HBP.out]; (repeat (with_reducible first | exact BX.out | refine Grow.grow_drewN ?_ _ | refine Grow.grow_drew ?_ | refine Below.setCell ?_ ?_ _ | refine Grow.grow_alloc ?_ _)) <;> (show bp ≤ _; dsimp only; omega))⟩
end Go.Proofs.YtlnbeildplafbaaGreatDoor
