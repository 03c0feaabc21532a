/- Shapes of three points: the document's rank, where there is no shape. -/
import Derived.Test.YtlnbeildplafbaaGreatDoorPs11
set_option linter.unusedSimpArgs false
set_option linter.unusedVariables false
namespace Go.Proofs.YtlnbeildplafbaaGreatDoor
open Go.RowKit Go.Grow Go.Wd Go.Atl Go.Pl

def rkV (l m s h : Int) (p q t : Nat) : Value := .agg #[.int .i64 l, .int .i64 m, .int .i64 s, .int .i64 h, .int .i64 (p : Nat), .int .i64 (q : Nat), .int .i64 (t : Nat)]
theorem alloc_rk (w : World) : (Instr.alloc 33 true (.tuple #[])).run Tryz.prog w = .ok (.pointer (some ⟨w.heap.size, 0, none⟩)) (w.alloc (.cells #[.int .i64 0, .int .i64 0, .int .i64 0, .int .i64 0, .int .i64 0, .int .i64 0, .int .i64 0] 33)) := by kernel_rfl
theorem known_seven {w : World} {b : Nat} {z0 z1 z2 z3 z4 z5 z6 : Value} (h : Known w b #[z0, z1, z2, z3, z4, z5, z6]) (a0 a1 a2 a3 a4 a5 a6 : Value) : Known (((((((w.setCell ⟨b, 0, none⟩ a0).setCell ⟨b, 1, none⟩ a1).setCell ⟨b, 2, none⟩ a2).setCell ⟨b, 3, none⟩ a3).setCell ⟨b, 4, none⟩ a4).setCell ⟨b, 5, none⟩ a5).setCell ⟨b, 6, none⟩ a6) b [a0, a1, a2, a3, a4, a5, a6].toArray := by
  have := ((((((h.same 0 a0).same 1 a1).same 2 a2).same 3 a3).same 4 a4).same 5 a5).same 6 a6
  simpa using this
/-- Three points in a row. -/
structure Row9 (w : World) (b o : Nat) (p q t : Dr) : Prop where
  c0 : w.cell? ⟨b, o, none⟩ = some (.int .i64 p.x)
  c1 : w.cell? ⟨b, o + 1, none⟩ = some (.int .i64 p.y)
  c2 : w.cell? ⟨b, o + 2, none⟩ = some (.int .i64 p.z)
  c3 : w.cell? ⟨b, o + 3, none⟩ = some (.int .i64 q.x)
  c4 : w.cell? ⟨b, o + 4, none⟩ = some (.int .i64 q.y)
  c5 : w.cell? ⟨b, o + 5, none⟩ = some (.int .i64 q.z)
  c6 : w.cell? ⟨b, o + 6, none⟩ = some (.int .i64 t.x)
  c7 : w.cell? ⟨b, o + 7, none⟩ = some (.int .i64 t.y)
  c8 : w.cell? ⟨b, o + 8, none⟩ = some (.int .i64 t.z)
theorem Row9.lt {w : World} {b o : Nat} {p q t : Dr} (h : Row9 w b o p q t) : b < w.heap.size := World.block_lt_of_cell? w _ h.c0
theorem Row9.below {w w' : World} {b o : Nat} {p q t : Dr} (h : Row9 w b o p q t) (hb : Below w.heap.size w w') : Row9 w' b o p q t := by
  have hl := h.lt
  exact ⟨(hb.cell (p := ⟨b, o, none⟩) hl).trans h.c0, (hb.cell (p := ⟨b, o + 1, none⟩) hl).trans h.c1, (hb.cell (p := ⟨b, o + 2, none⟩) hl).trans h.c2, (hb.cell (p := ⟨b, o + 3, none⟩) hl).trans h.c3, (hb.cell (p := ⟨b, o + 4, none⟩) hl).trans h.c4, (hb.cell (p := ⟨b, o + 5, none⟩) hl).trans h.c5, (hb.cell (p := ⟨b, o + 6, none⟩) hl).trans h.c6, (hb.cell (p := ⟨b, o + 7, none⟩) hl).trans h.c7, (hb.cell (p := ⟨b, o + 8, none⟩) hl).trans h.c8⟩
set_option maxRecDepth 100000 in
set_option maxHeartbeats 16000000 in
theorem rank_no1 (p q t : Dr) (b o len cap : Nat) (hlen : 3 ≤ len) (ha : goodP p = false) (w : World) (hr : Row9 w b o p q t) :
    Calls Tryz.prog 8 #[.slice (some ⟨b, o, none⟩) len cap, .int .i64 0, .int .i64 1, .int .i64 2] w fun e w' => e = .returned (.tuple #[rkV 0 0 0 0 0 0 0, .bool false]) ∧ Below w.heap.size w w' := by
  have IA := Lib.hid (fun X => isPoint_walk p X)
  have IB := Lib.hid (fun X => isPoint_walk q X)
  have IC := Lib.hid (fun X => isPoint_walk t X)
  rw [ha] at IA
  unfold drV at IA IB IC
  have al := alloc_rk
  have x0 : (0 : Int) < (len : Int) := by omega
  have x1 : (1 : Int) < (len : Int) := by omega
  have x2 : (2 : Int) < (len : Int) := by omega
  have HR := Lib.hid hr
  clear hr
  go_enter Tryz.func8, Tryz.ntmps8
  go_upto_region 1 with (fail)
  refine seal_wp fun X hX => ?_
  have ZK := Lib.hid (show Known X w.heap.size #[.int .i64 0, .int .i64 0, .int .i64 0, .int .i64 0, .int .i64 0, .int .i64 0, .int .i64 0] by rw [hX.out]; exact Known.new w _ _)
  have BX := Lib.hid (show Below w.heap.size w X by rw [hX.out]; exact grow_alloc (grow_refl w) _)
  have ZR := Lib.hid (HR.out.below BX.out)
  clear hX
  generalize hbp : w.heap.size = bp at *
  have HBP := Lib.hid hbp
  clear hbp
  have c0 := ZR.out.c0
  have c1 := ZR.out.c1
  have c2 := ZR.out.c2
  have c3 := ZR.out.c3
  have c4 := ZR.out.c4
  have c5 := ZR.out.c5
  have c6 := ZR.out.c6
  have c7 := ZR.out.c7
  have c8 := ZR.out.c8
  have lb := ZR.out.lt
  go_upto_region 4 with (first
    | (go_at_call 22; go_loud ((with_reducible refine (IA.out _).mono ?_); rintro e w1 ⟨rfl, hb⟩; have B1 := Lib.hid (grow_trans (grow_refl X) hb : Below X.heap.size X w1); clear hb IA c0 c1 c2 c3 c4 c5 c6 c7 c8 lb; have c0 := (ZR.out.below B1.out).c0; have c1 := (ZR.out.below B1.out).c1; have c2 := (ZR.out.below B1.out).c2; have c3 := (ZR.out.below B1.out).c3; have c4 := (ZR.out.below B1.out).c4; have c5 := (ZR.out.below B1.out).c5; have c6 := (ZR.out.below B1.out).c6; have c7 := (ZR.out.below B1.out).c7; have c8 := (ZR.out.below B1.out).c8; have lb := (ZR.out.below B1.out).lt))
    | (go_at_call 22; go_loud ((with_reducible refine (IB.out _).mono ?_); rintro e w2 ⟨rfl, hb⟩; have B2 := Lib.hid (grow_trans (B1.out) hb : Below X.heap.size X w2); clear hb IB c0 c1 c2 c3 c4 c5 c6 c7 c8 lb; have c0 := (ZR.out.below B2.out).c0; have c1 := (ZR.out.below B2.out).c1; have c2 := (ZR.out.below B2.out).c2; have c3 := (ZR.out.below B2.out).c3; have c4 := (ZR.out.below B2.out).c4; have c5 := (ZR.out.below B2.out).c5; have c6 := (ZR.out.below B2.out).c6; have c7 := (ZR.out.below B2.out).c7; have c8 := (ZR.out.below B2.out).c8; have lb := (ZR.out.below B2.out).lt))
    | (go_at_call 22; go_loud ((with_reducible refine (IC.out _).mono ?_); rintro e w3 ⟨rfl, hb⟩; have B3 := Lib.hid (grow_trans (B2.out) hb : Below X.heap.size X w3); clear hb IC c0 c1 c2 c3 c4 c5 c6 c7 c8 lb; have c0 := (ZR.out.below B3.out).c0; have c1 := (ZR.out.below B3.out).c1; have c2 := (ZR.out.below B3.out).c2; have c3 := (ZR.out.below B3.out).c3; have c4 := (ZR.out.below B3.out).c4; have c5 := (ZR.out.below B3.out).c5; have c6 := (ZR.out.below B3.out).c6; have c7 := (ZR.out.below B3.out).c7; have c8 := (ZR.out.below B3.out).c8; have lb := (ZR.out.below B3.out).lt)))
  go_quiet (fail)
  have ZY := Lib.hid (show Below X.heap.size X (w3.drewN nq) from grow_drewN B3.out nq)
  have BY := Lib.hid ZY.out
  clear c0 c1 c2 c3 c4 c5 c6 c7 c8 lb
  generalize (w3.drewN nq) = Y at *
  have BW := Lib.hid (show Below w.heap.size w Y by rw [HBP.out]; exact BX.out.trans (BY.out.mono (Nat.le_of_lt ZK.out.lt)))
  have Z5 := Lib.hid (ZK.out.below BY.out)
  have d0 := Z5.out.cell 0
  have d1 := Z5.out.cell 1
  have d2 := Z5.out.cell 2
  have d3 := Z5.out.cell 3
  have d4 := Z5.out.cell 4
  have d5 := Z5.out.cell 5
  have d6 := Z5.out.cell 6
  have g0 := Z5.out.frozen 0
  have g1 := Z5.out.frozen 1
  have g2 := Z5.out.frozen 2
  have g3 := Z5.out.frozen 3
  have g4 := Z5.out.frozen 4
  have g5 := Z5.out.frozen 5
  have g6 := Z5.out.frozen 6
  have lz := Z5.out.lt
  simp only [List.getElem?_toArray, List.getElem?_cons_zero, List.getElem?_cons_succ] at d0 d1 d2 d3 d4 d5 d6
  have KF := Lib.hid (known_seven Z5.out (.int .i64 0) (.int .i64 0) (.int .i64 0) (.int .i64 0) (.int .i64 0) (.int .i64 0) (.int .i64 0))
  go_wp2
  (try simp only [Exit.inBlock, Exit.then])
  refine bodyPost_ret (res_c2 rfl _ _ bp [.int .i64 0, .int .i64 0, .int .i64 0, .int .i64 0, .int .i64 0, .int .i64 0, .int .i64 0] _ rfl KF.out Tryz.underlying33 rfl (by kernel_rfl)) rfl ?_
  have hbp : w.heap.size ≤ bp := Nat.le_of_eq HBP.out
  exact ⟨rfl, (by (repeat (with_reducible first | exact BW.out | refine Below.drew ?_ | refine Below.setCell ?_ ?_ _)) <;> (show w.heap.size ≤ _; dsimp only; omega))⟩
set_option maxRecDepth 100000 in
set_option maxHeartbeats 16000000 in
theorem rank_no2 (p q t : Dr) (b o len cap : Nat) (hlen : 3 ≤ len) (ha : goodP p = true) (hb : goodP q = false) (w : World) (hr : Row9 w b o p q t) :
    Calls Tryz.prog 8 #[.slice (some ⟨b, o, none⟩) len cap, .int .i64 0, .int .i64 1, .int .i64 2] w fun e w' => e = .returned (.tuple #[rkV 0 0 0 0 0 0 0, .bool false]) ∧ Below w.heap.size w w' := by
  have IA := Lib.hid (fun X => isPoint_walk p X)
  have IB := Lib.hid (fun X => isPoint_walk q X)
  have IC := Lib.hid (fun X => isPoint_walk t X)
  rw [ha] at IA
  rw [hb] at IB
  unfold drV at IA IB IC
  have al := alloc_rk
  have x0 : (0 : Int) < (len : Int) := by omega
  have x1 : (1 : Int) < (len : Int) := by omega
  have x2 : (2 : Int) < (len : Int) := by omega
  have HR := Lib.hid hr
  clear hr
  go_enter Tryz.func8, Tryz.ntmps8
  go_upto_region 1 with (fail)
  refine seal_wp fun X hX => ?_
  have ZK := Lib.hid (show Known X w.heap.size #[.int .i64 0, .int .i64 0, .int .i64 0, .int .i64 0, .int .i64 0, .int .i64 0, .int .i64 0] by rw [hX.out]; exact Known.new w _ _)
  have BX := Lib.hid (show Below w.heap.size w X by rw [hX.out]; exact grow_alloc (grow_refl w) _)
  have ZR := Lib.hid (HR.out.below BX.out)
  clear hX
  generalize hbp : w.heap.size = bp at *
  have HBP := Lib.hid hbp
  clear hbp
  have c0 := ZR.out.c0
  have c1 := ZR.out.c1
  have c2 := ZR.out.c2
  have c3 := ZR.out.c3
  have c4 := ZR.out.c4
  have c5 := ZR.out.c5
  have c6 := ZR.out.c6
  have c7 := ZR.out.c7
  have c8 := ZR.out.c8
  have lb := ZR.out.lt
  go_upto_region 4 with (first
    | (go_at_call 22; go_loud ((with_reducible refine (IA.out _).mono ?_); rintro e w1 ⟨rfl, hb⟩; have B1 := Lib.hid (grow_trans (grow_refl X) hb : Below X.heap.size X w1); clear hb IA c0 c1 c2 c3 c4 c5 c6 c7 c8 lb; have c0 := (ZR.out.below B1.out).c0; have c1 := (ZR.out.below B1.out).c1; have c2 := (ZR.out.below B1.out).c2; have c3 := (ZR.out.below B1.out).c3; have c4 := (ZR.out.below B1.out).c4; have c5 := (ZR.out.below B1.out).c5; have c6 := (ZR.out.below B1.out).c6; have c7 := (ZR.out.below B1.out).c7; have c8 := (ZR.out.below B1.out).c8; have lb := (ZR.out.below B1.out).lt))
    | (go_at_call 22; go_loud ((with_reducible refine (IB.out _).mono ?_); rintro e w2 ⟨rfl, hb⟩; have B2 := Lib.hid (grow_trans (B1.out) hb : Below X.heap.size X w2); clear hb IB c0 c1 c2 c3 c4 c5 c6 c7 c8 lb; have c0 := (ZR.out.below B2.out).c0; have c1 := (ZR.out.below B2.out).c1; have c2 := (ZR.out.below B2.out).c2; have c3 := (ZR.out.below B2.out).c3; have c4 := (ZR.out.below B2.out).c4; have c5 := (ZR.out.below B2.out).c5; have c6 := (ZR.out.below B2.out).c6; have c7 := (ZR.out.below B2.out).c7; have c8 := (ZR.out.below B2.out).c8; have lb := (ZR.out.below B2.out).lt))
    | (go_at_call 22; go_loud ((with_reducible refine (IC.out _).mono ?_); rintro e w3 ⟨rfl, hb⟩; have B3 := Lib.hid (grow_trans (B2.out) hb : Below X.heap.size X w3); clear hb IC c0 c1 c2 c3 c4 c5 c6 c7 c8 lb; have c0 := (ZR.out.below B3.out).c0; have c1 := (ZR.out.below B3.out).c1; have c2 := (ZR.out.below B3.out).c2; have c3 := (ZR.out.below B3.out).c3; have c4 := (ZR.out.below B3.out).c4; have c5 := (ZR.out.below B3.out).c5; have c6 := (ZR.out.below B3.out).c6; have c7 := (ZR.out.below B3.out).c7; have c8 := (ZR.out.below B3.out).c8; have lb := (ZR.out.below B3.out).lt)))
  go_quiet (fail)
  have ZY := Lib.hid (show Below X.heap.size X (w3.drewN nq) from grow_drewN B3.out nq)
  have BY := Lib.hid ZY.out
  clear c0 c1 c2 c3 c4 c5 c6 c7 c8 lb
  generalize (w3.drewN nq) = Y at *
  have BW := Lib.hid (show Below w.heap.size w Y by rw [HBP.out]; exact BX.out.trans (BY.out.mono (Nat.le_of_lt ZK.out.lt)))
  have Z5 := Lib.hid (ZK.out.below BY.out)
  have d0 := Z5.out.cell 0
  have d1 := Z5.out.cell 1
  have d2 := Z5.out.cell 2
  have d3 := Z5.out.cell 3
  have d4 := Z5.out.cell 4
  have d5 := Z5.out.cell 5
  have d6 := Z5.out.cell 6
  have g0 := Z5.out.frozen 0
  have g1 := Z5.out.frozen 1
  have g2 := Z5.out.frozen 2
  have g3 := Z5.out.frozen 3
  have g4 := Z5.out.frozen 4
  have g5 := Z5.out.frozen 5
  have g6 := Z5.out.frozen 6
  have lz := Z5.out.lt
  simp only [List.getElem?_toArray, List.getElem?_cons_zero, List.getElem?_cons_succ] at d0 d1 d2 d3 d4 d5 d6
  have KF := Lib.hid (known_seven Z5.out (.int .i64 0) (.int .i64 0) (.int .i64 0) (.int .i64 0) (.int .i64 0) (.int .i64 0) (.int .i64 0))
  go_wp2
  (try simp only [Exit.inBlock, Exit.then])
  refine bodyPost_ret (res_c2 rfl _ _ bp [.int .i64 0, .int .i64 0, .int .i64 0, .int .i64 0, .int .i64 0, .int .i64 0, .int .i64 0] _ rfl KF.out Tryz.underlying33 rfl (by kernel_rfl)) rfl ?_
  have hbp : w.heap.size ≤ bp := Nat.le_of_eq HBP.out
  exact ⟨rfl, (by (repeat (with_reducible first | exact BW.out | refine Below.drew ?_ | refine Below.setCell ?_ ?_ _)) <;> (show w.heap.size ≤ _; dsimp only; omega))⟩
set_option maxRecDepth 100000 in
set_option maxHeartbeats 16000000 in
theorem rank_no3 (p q t : Dr) (b o len cap : Nat) (hlen : 3 ≤ len) (ha : goodP p = true) (hb : goodP q = true) (hc : goodP t = false) (w : World) (hr : Row9 w b o p q t) :
    Calls Tryz.prog 8 #[.slice (some ⟨b, o, none⟩) len cap, .int .i64 0, .int .i64 1, .int .i64 2] w fun e w' => e = .returned (.tuple #[rkV 0 0 0 0 0 0 0, .bool false]) ∧ Below w.heap.size w w' := by
  have IA := Lib.hid (fun X => isPoint_walk p X)
  have IB := Lib.hid (fun X => isPoint_walk q X)
  have IC := Lib.hid (fun X => isPoint_walk t X)
  rw [ha] at IA
  rw [hb] at IB
  rw [hc] at IC
  unfold drV at IA IB IC
  have al := alloc_rk
  have x0 : (0 : Int) < (len : Int) := by omega
  have x1 : (1 : Int) < (len : Int) := by omega
  have x2 : (2 : Int) < (len : Int) := by omega
  have HR := Lib.hid hr
  clear hr
  go_enter Tryz.func8, Tryz.ntmps8
  go_upto_region 1 with (fail)
  refine seal_wp fun X hX => ?_
  have ZK := Lib.hid (show Known X w.heap.size #[.int .i64 0, .int .i64 0, .int .i64 0, .int .i64 0, .int .i64 0, .int .i64 0, .int .i64 0] by rw [hX.out]; exact Known.new w _ _)
  have BX := Lib.hid (show Below w.heap.size w X by rw [hX.out]; exact grow_alloc (grow_refl w) _)
  have ZR := Lib.hid (HR.out.below BX.out)
  clear hX
  generalize hbp : w.heap.size = bp at *
  have HBP := Lib.hid hbp
  clear hbp
  have c0 := ZR.out.c0
  have c1 := ZR.out.c1
  have c2 := ZR.out.c2
  have c3 := ZR.out.c3
  have c4 := ZR.out.c4
  have c5 := ZR.out.c5
  have c6 := ZR.out.c6
  have c7 := ZR.out.c7
  have c8 := ZR.out.c8
  have lb := ZR.out.lt
  go_upto_region 4 with (first
    | (go_at_call 22; go_loud ((with_reducible refine (IA.out _).mono ?_); rintro e w1 ⟨rfl, hb⟩; have B1 := Lib.hid (grow_trans (grow_refl X) hb : Below X.heap.size X w1); clear hb IA c0 c1 c2 c3 c4 c5 c6 c7 c8 lb; have c0 := (ZR.out.below B1.out).c0; have c1 := (ZR.out.below B1.out).c1; have c2 := (ZR.out.below B1.out).c2; have c3 := (ZR.out.below B1.out).c3; have c4 := (ZR.out.below B1.out).c4; have c5 := (ZR.out.below B1.out).c5; have c6 := (ZR.out.below B1.out).c6; have c7 := (ZR.out.below B1.out).c7; have c8 := (ZR.out.below B1.out).c8; have lb := (ZR.out.below B1.out).lt))
    | (go_at_call 22; go_loud ((with_reducible refine (IB.out _).mono ?_); rintro e w2 ⟨rfl, hb⟩; have B2 := Lib.hid (grow_trans (B1.out) hb : Below X.heap.size X w2); clear hb IB c0 c1 c2 c3 c4 c5 c6 c7 c8 lb; have c0 := (ZR.out.below B2.out).c0; have c1 := (ZR.out.below B2.out).c1; have c2 := (ZR.out.below B2.out).c2; have c3 := (ZR.out.below B2.out).c3; have c4 := (ZR.out.below B2.out).c4; have c5 := (ZR.out.below B2.out).c5; have c6 := (ZR.out.below B2.out).c6; have c7 := (ZR.out.below B2.out).c7; have c8 := (ZR.out.below B2.out).c8; have lb := (ZR.out.below B2.out).lt))
    | (go_at_call 22; go_loud ((with_reducible refine (IC.out _).mono ?_); rintro e w3 ⟨rfl, hb⟩; have B3 := Lib.hid (grow_trans (B2.out) hb : Below X.heap.size X w3); clear hb IC c0 c1 c2 c3 c4 c5 c6 c7 c8 lb; have c0 := (ZR.out.below B3.out).c0; have c1 := (ZR.out.below B3.out).c1; have c2 := (ZR.out.below B3.out).c2; have c3 := (ZR.out.below B3.out).c3; have c4 := (ZR.out.below B3.out).c4; have c5 := (ZR.out.below B3.out).c5; have c6 := (ZR.out.below B3.out).c6; have c7 := (ZR.out.below B3.out).c7; have c8 := (ZR.out.below B3.out).c8; have lb := (ZR.out.below B3.out).lt)))
  go_quiet (fail)
  have ZY := Lib.hid (show Below X.heap.size X (w3.drewN nq) from grow_drewN B3.out nq)
  have BY := Lib.hid ZY.out
  clear c0 c1 c2 c3 c4 c5 c6 c7 c8 lb
  generalize (w3.drewN nq) = Y at *
  have BW := Lib.hid (show Below w.heap.size w Y by rw [HBP.out]; exact BX.out.trans (BY.out.mono (Nat.le_of_lt ZK.out.lt)))
  have Z5 := Lib.hid (ZK.out.below BY.out)
  have d0 := Z5.out.cell 0
  have d1 := Z5.out.cell 1
  have d2 := Z5.out.cell 2
  have d3 := Z5.out.cell 3
  have d4 := Z5.out.cell 4
  have d5 := Z5.out.cell 5
  have d6 := Z5.out.cell 6
  have g0 := Z5.out.frozen 0
  have g1 := Z5.out.frozen 1
  have g2 := Z5.out.frozen 2
  have g3 := Z5.out.frozen 3
  have g4 := Z5.out.frozen 4
  have g5 := Z5.out.frozen 5
  have g6 := Z5.out.frozen 6
  have lz := Z5.out.lt
  simp only [List.getElem?_toArray, List.getElem?_cons_zero, List.getElem?_cons_succ] at d0 d1 d2 d3 d4 d5 d6
  have KF := Lib.hid (known_seven Z5.out (.int .i64 0) (.int .i64 0) (.int .i64 0) (.int .i64 0) (.int .i64 0) (.int .i64 0) (.int .i64 0))
  go_wp2
  (try simp only [Exit.inBlock, Exit.then])
  refine bodyPost_ret (res_c2 rfl _ _ bp [.int .i64 0, .int .i64 0, .int .i64 0, .int .i64 0, .int .i64 0, .int .i64 0, .int .i64 0] _ rfl KF.out Tryz.underlying33 rfl (by kernel_rfl)) rfl ?_
  have hbp : w.heap.size ≤ bp := Nat.le_of_eq HBP.out
  exact ⟨rfl, (by (repeat (with_reducible first | exact BW.out | refine Below.drew ?_ | refine Below.setCell ?_ ?_ _)) <;> (show w.heap.size ≤ _; dsimp only; omega))⟩
set_option maxRecDepth 100000 in
set_option maxHeartbeats 16000000 in
theorem rank_no4 (p q t : Dr) (b o len cap : Nat) (hlen : 3 ≤ len) (ha : goodP p = true) (hb : goodP q = true) (hc : goodP t = true) (hz : arZ p q t = 0) (w : World) (hr : Row9 w b o p q t) :
    Calls Tryz.prog 8 #[.slice (some ⟨b, o, none⟩) len cap, .int .i64 0, .int .i64 1, .int .i64 2] w fun e w' => e = .returned (.tuple #[rkV 0 0 0 0 0 0 0, .bool false]) ∧ Below w.heap.size w w' := by
  have IA := Lib.hid (fun X => isPoint_walk p X)
  have IB := Lib.hid (fun X => isPoint_walk q X)
  have IC := Lib.hid (fun X => isPoint_walk t X)
  have TW := Lib.hid (fun X => twice_walk p q t ha hb hc X)
  unfold drV at TW
  rw [ha] at IA
  rw [hb] at IB
  rw [hc] at IC
  rw [hz] at TW
  unfold drV at IA IB IC
  have al := alloc_rk
  have x0 : (0 : Int) < (len : Int) := by omega
  have x1 : (1 : Int) < (len : Int) := by omega
  have x2 : (2 : Int) < (len : Int) := by omega
  have HR := Lib.hid hr
  clear hr
  go_enter Tryz.func8, Tryz.ntmps8
  go_upto_region 1 with (fail)
  refine seal_wp fun X hX => ?_
  have ZK := Lib.hid (show Known X w.heap.size #[.int .i64 0, .int .i64 0, .int .i64 0, .int .i64 0, .int .i64 0, .int .i64 0, .int .i64 0] by rw [hX.out]; exact Known.new w _ _)
  have BX := Lib.hid (show Below w.heap.size w X by rw [hX.out]; exact grow_alloc (grow_refl w) _)
  have ZR := Lib.hid (HR.out.below BX.out)
  clear hX
  generalize hbp : w.heap.size = bp at *
  have HBP := Lib.hid hbp
  clear hbp
  have c0 := ZR.out.c0
  have c1 := ZR.out.c1
  have c2 := ZR.out.c2
  have c3 := ZR.out.c3
  have c4 := ZR.out.c4
  have c5 := ZR.out.c5
  have c6 := ZR.out.c6
  have c7 := ZR.out.c7
  have c8 := ZR.out.c8
  have lb := ZR.out.lt
  go_upto_region 4 with (first
    | (go_at_call 22; go_loud ((with_reducible refine (IA.out _).mono ?_); rintro e w1 ⟨rfl, hb⟩; have B1 := Lib.hid (grow_trans (grow_refl X) hb : Below X.heap.size X w1); clear hb IA c0 c1 c2 c3 c4 c5 c6 c7 c8 lb; have c0 := (ZR.out.below B1.out).c0; have c1 := (ZR.out.below B1.out).c1; have c2 := (ZR.out.below B1.out).c2; have c3 := (ZR.out.below B1.out).c3; have c4 := (ZR.out.below B1.out).c4; have c5 := (ZR.out.below B1.out).c5; have c6 := (ZR.out.below B1.out).c6; have c7 := (ZR.out.below B1.out).c7; have c8 := (ZR.out.below B1.out).c8; have lb := (ZR.out.below B1.out).lt))
    | (go_at_call 22; go_loud ((with_reducible refine (IB.out _).mono ?_); rintro e w2 ⟨rfl, hb⟩; have B2 := Lib.hid (grow_trans (B1.out) hb : Below X.heap.size X w2); clear hb IB c0 c1 c2 c3 c4 c5 c6 c7 c8 lb; have c0 := (ZR.out.below B2.out).c0; have c1 := (ZR.out.below B2.out).c1; have c2 := (ZR.out.below B2.out).c2; have c3 := (ZR.out.below B2.out).c3; have c4 := (ZR.out.below B2.out).c4; have c5 := (ZR.out.below B2.out).c5; have c6 := (ZR.out.below B2.out).c6; have c7 := (ZR.out.below B2.out).c7; have c8 := (ZR.out.below B2.out).c8; have lb := (ZR.out.below B2.out).lt))
    | (go_at_call 22; go_loud ((with_reducible refine (IC.out _).mono ?_); rintro e w3 ⟨rfl, hb⟩; have B3 := Lib.hid (grow_trans (B2.out) hb : Below X.heap.size X w3); clear hb IC c0 c1 c2 c3 c4 c5 c6 c7 c8 lb; have c0 := (ZR.out.below B3.out).c0; have c1 := (ZR.out.below B3.out).c1; have c2 := (ZR.out.below B3.out).c2; have c3 := (ZR.out.below B3.out).c3; have c4 := (ZR.out.below B3.out).c4; have c5 := (ZR.out.below B3.out).c5; have c6 := (ZR.out.below B3.out).c6; have c7 := (ZR.out.below B3.out).c7; have c8 := (ZR.out.below B3.out).c8; have lb := (ZR.out.below B3.out).lt)))
  refine Grow.wp_region_plan (.quiet [0, 1, 2, 3, 4, 5, 6, 7, 8, 9, 10, 11, 12, 13, 15, 16, 17, 19, 20, 21] (.reads [14, 18, 22] (.tail [23, 24, 25]))) (by kernel_rfl) (by kernel_rfl) (by kernel_rfl) (by kernel_rfl) ?_ ?_
  · intro c aa d v ww h
    first
      | exact Grow.bodyPost_blind h
      | (simp (config := {zetaDelta := true}) only [Exit.then, Exit.inBlock] at h ⊢; first | exact Grow.bodyPost_blind h | exact h)
  simp only [Grow.Plan.wp, Grow.pick, List.getElem?_cons_zero, List.getElem?_cons_succ, List.cons_append, List.nil_append]
  repeat (go_big_quiet_step (fail))
  refine wpQuiet_nil ?_
  repeat (go_big_quiet_step (fail))
  refine wpQuiet_nil ?_
  go_upto_region 5 with (go_at_call 23; go_loud ((with_reducible refine (TW.out _).mono ?_); rintro e w4 ⟨rfl, hb⟩; have B4 := Lib.hid (grow_trans (grow_drew B3.out) hb : Below X.heap.size X w4); clear hb))
  have ZY := Lib.hid (show Below X.heap.size X w4 from B4.out)
  have BY := Lib.hid ZY.out
  clear c0 c1 c2 c3 c4 c5 c6 c7 c8 lb
  generalize w4 = Y at *
  have BW := Lib.hid (show Below w.heap.size w Y by rw [HBP.out]; exact BX.out.trans (BY.out.mono (Nat.le_of_lt ZK.out.lt)))
  have Z5 := Lib.hid (ZK.out.below BY.out)
  have d0 := Z5.out.cell 0
  have d1 := Z5.out.cell 1
  have d2 := Z5.out.cell 2
  have d3 := Z5.out.cell 3
  have d4 := Z5.out.cell 4
  have d5 := Z5.out.cell 5
  have d6 := Z5.out.cell 6
  have g0 := Z5.out.frozen 0
  have g1 := Z5.out.frozen 1
  have g2 := Z5.out.frozen 2
  have g3 := Z5.out.frozen 3
  have g4 := Z5.out.frozen 4
  have g5 := Z5.out.frozen 5
  have g6 := Z5.out.frozen 6
  have lz := Z5.out.lt
  simp only [List.getElem?_toArray, List.getElem?_cons_zero, List.getElem?_cons_succ] at d0 d1 d2 d3 d4 d5 d6
  have KF := Lib.hid (known_seven Z5.out (.int .i64 0) (.int .i64 0) (.int .i64 0) (.int .i64 0) (.int .i64 0) (.int .i64 0) (.int .i64 0))
  go_wp2
  (try simp only [Exit.inBlock, Exit.then])
  refine bodyPost_ret (res_c2 rfl _ _ bp [.int .i64 0, .int .i64 0, .int .i64 0, .int .i64 0, .int .i64 0, .int .i64 0, .int .i64 0] _ rfl KF.out Tryz.underlying33 rfl (by kernel_rfl)) rfl ?_
  have hbp : w.heap.size ≤ bp := Nat.le_of_eq HBP.out
  exact ⟨rfl, (by (repeat (with_reducible first | exact BW.out | refine Below.drew ?_ | refine Below.setCell ?_ ?_ _)) <;> (show w.heap.size ≤ _; dsimp only; omega))⟩
theorem rank_no (p q t : Dr) (b o len cap : Nat) (hlen : 3 ≤ len) (h : hasZ p q t = false) (w : World) (hr : Row9 w b o p q t) :
    Calls Tryz.prog 8 #[.slice (some ⟨b, o, none⟩) len cap, .int .i64 0, .int .i64 1, .int .i64 2] w fun e w' => e = .returned (.tuple #[rkV 0 0 0 0 0 0 0, .bool false]) ∧ Below w.heap.size w w' := by
  cases ha : goodP p
  · exact rank_no1 p q t b o len cap hlen ha w hr
  · cases hb : goodP q
    · exact rank_no2 p q t b o len cap hlen ha hb w hr
    · cases hc : goodP t
      · exact rank_no3 p q t b o len cap hlen ha hb hc w hr
      · refine rank_no4 p q t b o len cap hlen ha hb hc ?_ w hr
        unfold hasZ at h
        rw [ha, hb, hc] at h
        simpa using h
end Go.Proofs.YtlnbeildplafbaaGreatDoor
