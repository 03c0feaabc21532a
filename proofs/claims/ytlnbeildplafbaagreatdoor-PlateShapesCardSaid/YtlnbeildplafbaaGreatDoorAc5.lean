/- Cells of directions: the program's cell. -/
import Derived.Test.YtlnbeildplafbaaGreatDoorAc4
import Derived.Test.YtlnbeildplafbaaGreatDoorRdc
import Derived.Deep.MidRow
import Derived.RegionTactic
set_option linter.unusedSimpArgs false
set_option linter.unusedVariables false
namespace Go.Proofs.YtlnbeildplafbaaGreatDoor
open Go.RowKit Go.Grow Go.Atl

theorem results_cell2 {P : Program} {fn : Func} {p t : Tmp} {ty : TypeId} (h : fn.results = #[.cell p ty, .tmp t]) (tmps : Array Value) (w : World) (g : Nat) (cs : List Value) (d : TypeDesc)
    (hp : tmps.getD p undef = .pointer (some ⟨g, 0, none⟩)) (hK : Known w g cs.toArray) (hu : P.underlying ty = some d) (hd : d.isRow = true) (hi : (P.info? ty).map (·.size) = some cs.length) :
    (results fn tmps).run P w = .ok (.tuple #[.agg cs.toArray, tmps.getD t undef]) w := by
  have hp' : tmps[p]?.getD undef = .pointer (some ⟨g, 0, none⟩) := by simpa using hp
  have hl := run_loadVar_mid (P := P) w g 0 ty cs d (fun j v hv => by rw [Nat.zero_add, hK.cell j]; simpa using hv) hu hd hi
  simp [results, h, hp', asAddr, hl]
theorem alloc_sp (w : World) : (Instr.alloc 87 true (.tuple #[])).run Tryz.prog w = .ok (.pointer (some ⟨w.heap.size, 0, none⟩)) (w.alloc (.cells #[.int .i64 0, .int .i64 0, .int .i64 0, .int .i64 0] 87)) := by kernel_rfl
theorem shl_12 : ∀ n : Nat, n < 13 → wrap64 (2 ^ n) = ((2 ^ n : Nat) : Int) := by decide +kernel
def cellE (d : Dr) (lev : Int) : Nat := if isDir d = false then 5 else if lev < 0 ∨ 12 < lev then 2 else 0
def cellR (d : Dr) (lev : Int) : Sp := if cellE d lev = 0 then cellAt d lev.toNat else ⟨0, 0, 0, 0⟩
set_option maxRecDepth 100000 in
set_option maxHeartbeats 16000000 in
theorem cellOf_dir (a : Nat → Addr) (d : Dr) (lev : Int) (w : World) (hs : Sen a [2, 5] w) (hd : isDir d = false) :
    Calls Tryz.prog 35 #[drV d, .int .i64 lev] w fun e w' => e = .returned (.tuple #[spV ⟨0, 0, 0, 0⟩, errV a 5]) ∧ Below w.heap.size w w' := by
  have HE5 := Lib.hid (errV_pos a (show 5 ≠ 0 by decide))
  have HS := Lib.hid hs
  have DW := Lib.hid (fun X => direction_walk d X)
  rw [hd] at DW
  have hal := alloc_sp
  clear hs hd
  obtain ⟨x, y, z⟩ := d
  unfold drV at DW ⊢
  simp only at DW ⊢
  go_enter Tryz.func35, Tryz.ntmps35
  go_upto_region 2 with (go_at_call 73; (with_reducible refine (DW.out _).mono ?_); rintro e w1 ⟨rfl, hb⟩; have HB := Lib.hid hb; clear hb)
  have GW := Lib.hid (show Below w.heap.size w w1 from grow_trans (grow_alloc (grow_alloc (grow_refl w) _) _) HB.out)
  have K4 := Lib.hid (((Known.new' (w := w.alloc (.cells #[.int .i64 x, .int .i64 y, .int .i64 z] 28)) (c := #[.int .i64 0, .int .i64 0, .int .i64 0, .int .i64 0]) (t := 87) (b := w.heap.size + 1) (by simp)).below HB.out).drew)
  have g5 := (HS.out 5 (by decide)).1
  simp only [gOf] at g5
  have l5 := lt_of_cell g5
  simp only at l5
  refine Grow.wp_region_calls GW.out [0] [1] [2, 3] (by kernel_rfl) (by kernel_rfl) (by kernel_rfl) (by kernel_rfl) (by kernel_rfl) (by kernel_rfl) ?_ ?_
  · intro c aa d v ww h
    simp (config := {zetaDelta := true}) only [Exit.then, Exit.inBlock] at h ⊢
    first | exact h | exact Grow.bodyPost_blind h
  simp only [Grow.pick, List.getElem?_cons_zero, List.getElem?_cons_succ, List.cons_append, List.nil_append]
  repeat (go_big_quiet_step (fail))
  refine wpQuiet_nil ?_
  repeat (go_big_quiet_step (fail))
  refine wpQuiet_nil ?_
  have GX := Lib.hid (Below.drew GW.out)
  clear GW HB DW
  generalize w1.drew = w4 at K4 GX ⊢
  have hz := GX.out.size
  have c0 := K4.out.cell 0
  have c1 := K4.out.cell 1
  have c2 := K4.out.cell 2
  have c3 := K4.out.cell 3
  have f0 := K4.out.frozen 0
  have f1 := K4.out.frozen 1
  have f2 := K4.out.frozen 2
  have f3 := K4.out.frozen 3
  have l4 := K4.out.lt
  simp only [List.getElem?_toArray, List.getElem?_cons_zero, List.getElem?_cons_succ] at c0 c1 c2 c3
  unfold seqC
  go_wp2
  have KF := Lib.hid ((((K4.out.same 0 (.int .i64 0)).same 1 (.int .i64 0)).same 2 (.int .i64 0)).same 3 (.int .i64 0))
  refine ⟨(by (repeat (with_reducible first | exact GX.out | refine Grow.grow_drewN ?_ _ | refine Grow.grow_drew ?_ | refine Grow.grow_setCell ?_ ?_ _ | refine Grow.grow_alloc ?_ _)) <;> omega), ?_⟩
  unfold seqC
  go_wp2
  refine ⟨(by (repeat (with_reducible first | exact GX.out | refine Grow.grow_drewN ?_ _ | refine Grow.grow_drew ?_ | refine Grow.grow_setCell ?_ ?_ _ | refine Grow.grow_alloc ?_ _)) <;> omega), ?_⟩
  unfold seqC
  go_wp2
  (try simp only [Exit.inBlock, Exit.then])
  refine bodyPost_ret (results_cell2 rfl _ _ (w.heap.size + 1) [.int .i64 0, .int .i64 0, .int .i64 0, .int .i64 0] _ rfl KF.out Tryz.underlying87 rfl (by kernel_rfl)) rfl ?_
  exact ⟨by rw [HE5.out]; rfl, (by (repeat (with_reducible first | exact GX.out | refine Grow.grow_drewN ?_ _ | refine Grow.grow_drew ?_ | refine Grow.grow_setCell ?_ ?_ _ | refine Grow.grow_alloc ?_ _)) <;> omega)⟩
set_option maxRecDepth 100000 in
set_option maxHeartbeats 16000000 in
theorem cellOf_lev (a : Nat → Addr) (d : Dr) (lev : Int) (w : World) (hs : Sen a [2, 5] w) (hd : isDir d = true) (hl : lev < 0 ∨ 12 < lev) :
    Calls Tryz.prog 35 #[drV d, .int .i64 lev] w fun e w' => e = .returned (.tuple #[spV ⟨0, 0, 0, 0⟩, errV a 2]) ∧ Below w.heap.size w w' := by
  have HE2 := Lib.hid (errV_pos a (show 2 ≠ 0 by decide))
  have HS := Lib.hid hs
  have DW := Lib.hid (fun X => direction_walk d X)
  rw [hd] at DW
  have hal := alloc_sp
  clear hs hd
  obtain ⟨x, y, z⟩ := d
  unfold drV at DW ⊢
  simp only at DW ⊢
  by_cases h0 : lev < 0
  · have u0 : decide (lev < 0) = true := decide_eq_true h0
    clear hl
    go_enter Tryz.func35, Tryz.ntmps35
    go_upto_region 4 with (go_at_call 73; (with_reducible refine (DW.out _).mono ?_); rintro e w1 ⟨rfl, hb⟩; have HB := Lib.hid hb; clear hb)
    have GW := Lib.hid (show Below w.heap.size w w1 from grow_trans (grow_alloc (grow_alloc (grow_refl w) _) _) HB.out)
    have K4 := Lib.hid (((Known.new' (w := w.alloc (.cells #[.int .i64 x, .int .i64 y, .int .i64 z] 28)) (c := #[.int .i64 0, .int .i64 0, .int .i64 0, .int .i64 0]) (t := 87) (b := w.heap.size + 1) (by simp)).below HB.out).drew)
    have g5 := (HS.out 2 (by decide)).1
    simp only [gOf] at g5
    have l5 := lt_of_cell g5
    simp only at l5
    refine Grow.wp_region_calls GW.out [0] [1] [2, 3] (by kernel_rfl) (by kernel_rfl) (by kernel_rfl) (by kernel_rfl) (by kernel_rfl) (by kernel_rfl) ?_ ?_
    · intro c aa d v ww h
      simp (config := {zetaDelta := true}) only [Exit.then, Exit.inBlock] at h ⊢
      first | exact h | exact Grow.bodyPost_blind h
    simp only [Grow.pick, List.getElem?_cons_zero, List.getElem?_cons_succ, List.cons_append, List.nil_append]
    repeat (go_big_quiet_step (fail))
    refine wpQuiet_nil ?_
    repeat (go_big_quiet_step (fail))
    refine wpQuiet_nil ?_
    have GX := Lib.hid (Below.drew GW.out)
    clear GW HB DW
    generalize w1.drew = w4 at K4 GX ⊢
    have hz := GX.out.size
    have c0 := K4.out.cell 0
    have c1 := K4.out.cell 1
    have c2 := K4.out.cell 2
    have c3 := K4.out.cell 3
    have f0 := K4.out.frozen 0
    have f1 := K4.out.frozen 1
    have f2 := K4.out.frozen 2
    have f3 := K4.out.frozen 3
    have l4 := K4.out.lt
    simp only [List.getElem?_toArray, List.getElem?_cons_zero, List.getElem?_cons_succ] at c0 c1 c2 c3
    unfold seqC
    go_wp2
    have KF := Lib.hid ((((K4.out.same 0 (.int .i64 0)).same 1 (.int .i64 0)).same 2 (.int .i64 0)).same 3 (.int .i64 0))
    refine ⟨(by (repeat (with_reducible first | exact GX.out | refine Grow.grow_drewN ?_ _ | refine Grow.grow_drew ?_ | refine Grow.grow_setCell ?_ ?_ _ | refine Grow.grow_alloc ?_ _)) <;> omega), ?_⟩
    unfold seqC
    go_wp2
    refine ⟨(by (repeat (with_reducible first | exact GX.out | refine Grow.grow_drewN ?_ _ | refine Grow.grow_drew ?_ | refine Grow.grow_setCell ?_ ?_ _ | refine Grow.grow_alloc ?_ _)) <;> omega), ?_⟩
    unfold seqC
    go_wp2
    (try simp only [Exit.inBlock, Exit.then])
    refine bodyPost_ret (results_cell2 rfl _ _ (w.heap.size + 1) [.int .i64 0, .int .i64 0, .int .i64 0, .int .i64 0] _ rfl KF.out Tryz.underlying87 rfl (by kernel_rfl)) rfl ?_
    exact ⟨by rw [HE2.out]; rfl, (by (repeat (with_reducible first | exact GX.out | refine Grow.grow_drewN ?_ _ | refine Grow.grow_drew ?_ | refine Grow.grow_setCell ?_ ?_ _ | refine Grow.grow_alloc ?_ _)) <;> omega)⟩
  · have u0 : decide (lev < 0) = false := decide_eq_false h0
    have u1 : decide (12 < lev) = true := decide_eq_true (by omega)
    clear hl
    go_enter Tryz.func35, Tryz.ntmps35
    go_upto_region 4 with (go_at_call 73; (with_reducible refine (DW.out _).mono ?_); rintro e w1 ⟨rfl, hb⟩; have HB := Lib.hid hb; clear hb)
    have GW := Lib.hid (show Below w.heap.size w w1 from grow_trans (grow_alloc (grow_alloc (grow_refl w) _) _) HB.out)
    have K4 := Lib.hid (((Known.new' (w := w.alloc (.cells #[.int .i64 x, .int .i64 y, .int .i64 z] 28)) (c := #[.int .i64 0, .int .i64 0, .int .i64 0, .int .i64 0]) (t := 87) (b := w.heap.size + 1) (by simp)).below HB.out).drew)
    have g5 := (HS.out 2 (by decide)).1
    simp only [gOf] at g5
    have l5 := lt_of_cell g5
    simp only at l5
    refine Grow.wp_region_calls GW.out [0] [1] [2, 3] (by kernel_rfl) (by kernel_rfl) (by kernel_rfl) (by kernel_rfl) (by kernel_rfl) (by kernel_rfl) ?_ ?_
    · intro c aa d v ww h
      simp (config := {zetaDelta := true}) only [Exit.then, Exit.inBlock] at h ⊢
      first | exact h | exact Grow.bodyPost_blind h
    simp only [Grow.pick, List.getElem?_cons_zero, List.getElem?_cons_succ, List.cons_append, List.nil_append]
    repeat (go_big_quiet_step (fail))
    refine wpQuiet_nil ?_
    repeat (go_big_quiet_step (fail))
    refine wpQuiet_nil ?_
    have GX := Lib.hid (Below.drew GW.out)
    clear GW HB DW
    generalize w1.drew = w4 at K4 GX ⊢
    have hz := GX.out.size
    have c0 := K4.out.cell 0
    have c1 := K4.out.cell 1
    have c2 := K4.out.cell 2
    have c3 := K4.out.cell 3
    have f0 := K4.out.frozen 0
    have f1 := K4.out.frozen 1
    have f2 := K4.out.frozen 2
    have f3 := K4.out.frozen 3
    have l4 := K4.out.lt
    simp only [List.getElem?_toArray, List.getElem?_cons_zero, List.getElem?_cons_succ] at c0 c1 c2 c3
    unfold seqC
    go_wp2
    have KF := Lib.hid ((((K4.out.same 0 (.int .i64 0)).same 1 (.int .i64 0)).same 2 (.int .i64 0)).same 3 (.int .i64 0))
    refine ⟨(by (repeat (with_reducible first | exact GX.out | refine Grow.grow_drewN ?_ _ | refine Grow.grow_drew ?_ | refine Grow.grow_setCell ?_ ?_ _ | refine Grow.grow_alloc ?_ _)) <;> omega), ?_⟩
    unfold seqC
    go_wp2
    refine ⟨(by (repeat (with_reducible first | exact GX.out | refine Grow.grow_drewN ?_ _ | refine Grow.grow_drew ?_ | refine Grow.grow_setCell ?_ ?_ _ | refine Grow.grow_alloc ?_ _)) <;> omega), ?_⟩
    unfold seqC
    go_wp2
    (try simp only [Exit.inBlock, Exit.then])
    refine bodyPost_ret (results_cell2 rfl _ _ (w.heap.size + 1) [.int .i64 0, .int .i64 0, .int .i64 0, .int .i64 0] _ rfl KF.out Tryz.underlying87 rfl (by kernel_rfl)) rfl ?_
    exact ⟨by rw [HE2.out]; rfl, (by (repeat (with_reducible first | exact GX.out | refine Grow.grow_drewN ?_ _ | refine Grow.grow_drew ?_ | refine Grow.grow_setCell ?_ ?_ _ | refine Grow.grow_alloc ?_ _)) <;> omega)⟩
set_option maxRecDepth 100000 in
set_option maxHeartbeats 16000000 in
theorem cellOf_good (d : Dr) (L : Nat) (w : World) (hd : isDir d = true) (hl : L ≤ 12) :
    Calls Tryz.prog 35 #[drV d, .int .i64 L] w fun e w' => e = .returned (.tuple #[spV (cellAt d L), .nilIface]) ∧ Below w.heap.size w w' := by
  obtain ⟨m0, m1, m2, m3, m4, m5⟩ := face_spec hd
  have DW := Lib.hid (fun X => direction_walk d X)
  have FW := Lib.hid (fun X => face_walk d X hd)
  rw [hd] at DW
  have hal := alloc_sp
  have hsh := shl_12 L (by omega)
  have HN := Lib.hid (show ((2 ^ L : Nat) : Int) = (2 : Int) ^ L by push_cast; rfl)
  have hn1 := pow_ge1 L hl
  have hn2 := pow_le12 L hl
  have HC := Lib.hid (show spV (cellAt d L) = .agg #[.int .i64 (faceOf d), .int .i64 L, .int .i64 (place (fU d) (sz (fM d)) (2 ^ L)), .int .i64 (place (fV d) (sz (fM d)) (2 ^ L))] by
    unfold spV cellAt
    simp only
    rw [strip_place _ _ m0 m2 m3, strip_place _ _ m0 m4 m5])
  rw [HC.out]
  have hfc : 0 ≤ faceOf d ∧ faceOf d ≤ 5 := by have := axis_lt d; unfold faceOf; split <;> omega
  unfold faceV at FW
  rw [← HN.out] at hn1 hn2
  rw [← HN.out]
  generalize ((2 ^ L : Nat) : Int) = n at hsh hn1 hn2 ⊢
  clear HC HN hd
  generalize faceOf d = fc at *
  generalize sz (fM d) = m at *
  generalize fU d = u at *
  generalize fV d = v at *
  have P1 := Lib.hid (fun X (bm bn : Nat) (c1 : X.cell? ⟨bm, 0, none⟩ = some (.int .i64 m)) (c2 : X.cell? ⟨bn, 0, none⟩ = some (.int .i64 n)) => place_walk u m n bm bn X ⟨m0, m1⟩ ⟨m2, m3⟩ ⟨hn1, hn2⟩ c1 c2)
  have P2 := Lib.hid (fun X (bm bn : Nat) (c1 : X.cell? ⟨bm, 0, none⟩ = some (.int .i64 m)) (c2 : X.cell? ⟨bn, 0, none⟩ = some (.int .i64 n)) => place_walk v m n bm bn X ⟨m0, m1⟩ ⟨m4, m5⟩ ⟨hn1, hn2⟩ c1 c2)
  obtain ⟨x, y, z⟩ := d
  unfold drV at DW FW ⊢
  simp only at DW FW ⊢
  have u0 : decide ((L : Int) < 0) = false := decide_eq_false (by omega)
  have u1 : decide (12 < (L : Int)) = false := decide_eq_false (by omega)
  go_enter Tryz.func35, Tryz.ntmps35
  have s0 := trivial
  go_wp2_with (first
    | (clear s0; go_at_call 73; (with_reducible refine (DW.out _).mono ?_); rintro e w1 ⟨rfl, hb⟩; have HB := Lib.hid hb; clear hb; have K2 := Lib.hid (((Known.new w #[.int .i64 x, .int .i64 y, .int .i64 z] 28).alloc (.cells #[.int .i64 0, .int .i64 0, .int .i64 0, .int .i64 0] 87)).below HB.out); have K4 := Lib.hid ((Known.new' (w := w.alloc (.cells #[.int .i64 x, .int .i64 y, .int .i64 z] 28)) (c := #[.int .i64 0, .int .i64 0, .int .i64 0, .int .i64 0]) (t := 87) (b := w.heap.size + 1) (by simp)).below HB.out); have q0 := K2.out.cell 0; have q1 := K2.out.cell 1; have q2 := K2.out.cell 2; simp only [List.getElem?_toArray, List.getElem?_cons_zero, List.getElem?_cons_succ] at q0 q1 q2; have s1 := trivial)
    | (clear s1; go_at_call 74; (with_reducible refine (FW.out _).mono ?_); rintro e w2 ⟨rfl, hb⟩; have HB2 := Lib.hid hb; clear hb; have K6 := Lib.hid (K4.out.below HB2.out); clear q0 q1 q2; have s2 := trivial)
    | (clear s2; go_at_call 75; (with_reducible refine (P1.out _ _ _ (by simp [cell?_cells]) (by simp [cell?_cells])).mono ?_); rintro e w3 ⟨rfl, hb⟩; have HB3 := Lib.hid hb; clear hb; have KM := Lib.hid (((Known.new w2 #[.int .i64 m] 3).alloc (.cells #[.int .i64 n] 3)).below HB3.out); have KN := Lib.hid ((Known.new' (w := w2.alloc (.cells #[.int .i64 m] 3)) (c := #[.int .i64 n]) (t := 3) (b := w2.heap.size + 1) (by simp)).below HB3.out); have K7 := Lib.hid (((K6.out.alloc (.cells #[.int .i64 m] 3)).alloc (.cells #[.int .i64 n] 3)).below HB3.out); have s3 := trivial)
    | (clear s3; go_at_call 75; (with_reducible refine (P2.out _ _ _ (KM.out.cell 0) (KN.out.cell 0)).mono ?_); rintro e w4 ⟨rfl, hb⟩; have HB4 := Lib.hid hb; clear hb; have K8 := Lib.hid (K7.out.below HB4.out); have c0 := K8.out.cell 0; have c1 := K8.out.cell 1; have c2 := K8.out.cell 2; have c3 := K8.out.cell 3; have f0 := K8.out.frozen 0; have f1 := K8.out.frozen 1; have f2 := K8.out.frozen 2; have f3 := K8.out.frozen 3; have l4 := K8.out.lt; simp only [List.getElem?_toArray, List.getElem?_cons_zero, List.getElem?_cons_succ] at c0 c1 c2 c3))
  have KF := Lib.hid ((((K8.out.same 0 (.int .i64 fc)).same 1 (.int .i64 L)).same 2 (.int .i64 (place u m n))).same 3 (.int .i64 (place v m n)))
  have GX := Lib.hid (show Below w.heap.size w w4 from grow_trans (grow_trans (grow_trans (grow_trans (grow_alloc (grow_alloc (grow_refl w) _) _) HB.out) HB2.out) (grow_trans (grow_alloc (grow_alloc (grow_refl w2) _) _) HB3.out)) HB4.out)
  (try simp only [Exit.inBlock, Exit.then])
  refine bodyPost_ret (results_cell2 rfl _ _ (w.heap.size + 1) [.int .i64 fc, .int .i64 L, .int .i64 (place u m n), .int .i64 (place v m n)] _ rfl KF.out Tryz.underlying87 rfl (by kernel_rfl)) rfl ?_
  exact ⟨rfl, (by (repeat (with_reducible first | exact GX.out | refine Grow.grow_drewN ?_ _ | refine Grow.grow_drew ?_ | refine Grow.grow_setCell ?_ ?_ _ | refine Grow.grow_alloc ?_ _)) <;> omega)⟩
end Go.Proofs.YtlnbeildplafbaaGreatDoor
