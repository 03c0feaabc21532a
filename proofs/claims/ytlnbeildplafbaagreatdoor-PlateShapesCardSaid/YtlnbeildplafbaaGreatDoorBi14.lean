/- Whole numbers of any size in memory: Add and Sub where two words hold each. -/
import Derived.Test.YtlnbeildplafbaaGreatDoorBi13
import Derived.Test.YtlnbeildplafbaaGreatDoorBi9
set_option linter.unusedSimpArgs false
set_option linter.unusedVariables false
namespace Go.Proofs.YtlnbeildplafbaaGreatDoor
open Go.RowKit Go.Grow Go.Wd

theorem dig_two {a : Nat} (h : a < 340282366920938463463374607431768211456) : (a = 0 ∧ (dig a).length = 0) ∨ (0 < a ∧ (dig a).length = 1) ∨ (0 < a ∧ (dig a).length = 2) := by
  have h1 := dig_length_le a 2 (by rw [show (18446744073709551616 : Nat) ^ 2 = 340282366920938463463374607431768211456 from rfl]; exact h)
  rcases Nat.eq_zero_or_pos a with rfl | h0
  · exact .inl ⟨rfl, by rw [dig_zero]; rfl⟩
  · have h2 : (dig a).length ≠ 0 := fun e => by
      have := dig_eq_nil.1 (List.length_eq_zero_iff.1 e)
      omega
    omega
theorem dig_len_mono {a b : Nat} (h : (dig a).length < (dig b).length) : a < b := by
  have := canon_lt (canon_dig a) (canon_dig b) h
  rwa [val_dig, val_dig] at this
set_option maxRecDepth 100000 in
set_option maxHeartbeats 16000000 in
theorem addN_zero (w : World) (v : Value) (hz : Rz w v) (rx ry : Option Addr) (cx cy : Nat) :
    Calls Tryz.prog 65 #[v, .slice rx 0 cx, .slice ry 0 cy] w fun e w' => NatPost v [] w e w' := by
  rcases hz with rfl | ⟨g, n, cap, cur, rfl, hc, hb, hs⟩
  · go_enter Tryz.func65, Tryz.ntmps65
    go_wp2
    go_ret
    exact ⟨_, rfl, .inl ⟨rfl, rfl⟩, grown_refl _ _, fun k hk => by cases hk⟩
  · have d0 : (0 : Int) ≤ (cap : Int) := by omega
    go_enter Tryz.func65, Tryz.ntmps65
    go_wp2
    go_ret
    exact ⟨_, rfl, .inr ⟨g, cap, cur, rfl, Nat.zero_le _, hc, hb, hs, fun j hj => absurd hj (by simp)⟩, grown_refl _ _, fun k hk => .inl hk⟩
set_option maxRecDepth 100000 in
set_option maxHeartbeats 16000000 in
theorem addN_copy (w : World) (v vx : Value) (a : Nat) (ha : 0 < a) (hA : (dig a).length ≤ 100000) (hz : Rz w v) (hx : Wds w vx (dig a)) (ry : Option Addr) (cy : Nat) :
    Calls Tryz.prog 65 #[v, vx, .slice ry 0 cy] w fun e w' => NatPost v (dig a) w e w' := by
  have SN := Lib.hid (setN_walk w v vx a ha hA hz hx)
  obtain ⟨r, c, rfl⟩ := hx.slice
  have hl : 0 < (dig a).length := by rw [dig_pos ha]; simp
  have d0 : ¬ ((dig a).length : Int) < 0 := by omega
  have d1 : (((dig a).length : Int) == 0) = false := by rw [beq_eq_false_iff_ne]; omega
  clear hx hz
  generalize dig a = l at *
  go_enter Tryz.func65, Tryz.ntmps65
  go_wp2_with (go_at_call 86; go_loud ((with_reducible refine (SN.out).mono ?_); rintro e w1 ⟨v1, rfl, h1, h2, h3⟩; have P := Lib.hid (show NatPost v l w (.returned v1) w1 from ⟨v1, rfl, h1, h2, h3⟩); clear h1 h2 h3))
  go_ret
  exact P.out
set_option maxRecDepth 100000 in
set_option maxHeartbeats 16000000 in
theorem subN_zero (w : World) (v : Value) (hz : Rz w v) (rx ry : Option Addr) (cx cy : Nat) :
    Calls Tryz.prog 67 #[v, .slice rx 0 cx, .slice ry 0 cy] w fun e w' => NatPost v [] w e w' := by
  rcases hz with rfl | ⟨g, n, cap, cur, rfl, hc, hb, hs⟩
  · go_enter Tryz.func67, Tryz.ntmps67
    go_wp2
    go_ret
    exact ⟨_, rfl, .inl ⟨rfl, rfl⟩, grown_refl _ _, fun k hk => by cases hk⟩
  · have d0 : (0 : Int) ≤ (cap : Int) := by omega
    go_enter Tryz.func67, Tryz.ntmps67
    go_wp2
    go_ret
    exact ⟨_, rfl, .inr ⟨g, cap, cur, rfl, Nat.zero_le _, hc, hb, hs, fun j hj => absurd hj (by simp)⟩, grown_refl _ _, fun k hk => .inl hk⟩
set_option maxRecDepth 100000 in
set_option maxHeartbeats 16000000 in
theorem subN_copy (w : World) (v vx : Value) (a : Nat) (ha : 0 < a) (hA : (dig a).length ≤ 100000) (hz : Rz w v) (hx : Wds w vx (dig a)) (ry : Option Addr) (cy : Nat) :
    Calls Tryz.prog 67 #[v, vx, .slice ry 0 cy] w fun e w' => NatPost v (dig a) w e w' := by
  have SN := Lib.hid (setN_walk w v vx a ha hA hz hx)
  obtain ⟨r, c, rfl⟩ := hx.slice
  have hl : 0 < (dig a).length := by rw [dig_pos ha]; simp
  have d0 : ¬ ((dig a).length : Int) < 0 := by omega
  have d1 : (((dig a).length : Int) == 0) = false := by rw [beq_eq_false_iff_ne]; omega
  clear hx hz
  generalize dig a = l at *
  go_enter Tryz.func67, Tryz.ntmps67
  go_wp2_with (go_at_call 86; go_loud ((with_reducible refine (SN.out).mono ?_); rintro e w1 ⟨v1, rfl, h1, h2, h3⟩; have P := Lib.hid (show NatPost v l w (.returned v1) w1 from ⟨v1, rfl, h1, h2, h3⟩); clear h1 h2 h3))
  go_ret
  exact P.out
set_option maxRecDepth 100000 in
set_option maxHeartbeats 16000000 in
theorem addN_swap (w : World) (v : Value) (rx ry : Option Addr) (m n cx cy : Nat) (h : m < n) (l : List Nat) (H : Calls Tryz.prog 65 #[v, .slice ry n cy, .slice rx m cx] w fun e w' => NatPost v l w e w') :
    Calls Tryz.prog 65 #[v, .slice rx m cx, .slice ry n cy] w fun e w' => NatPost v l w e w' := by
  have HH := Lib.hid H
  have d0 : (m : Int) < (n : Int) := by omega
  clear H
  go_enter Tryz.func65, Tryz.ntmps65
  go_wp2_with (go_at_call 65; go_loud ((with_reducible refine (HH.out).mono ?_); rintro e w1 ⟨v1, rfl, h1, h2, h3⟩; have P := Lib.hid (show NatPost v l w (.returned v1) w1 from ⟨v1, rfl, h1, h2, h3⟩); clear h1 h2 h3))
  go_ret
  exact P.out
theorem addN_ge (w : World) (v vx vy : Value) (a b : Nat) (hz : Rz w v) (hx : Wds w vx (dig a)) (hy : Wds w vy (dig b)) (ha : a < 340282366920938463463374607431768211456) (hb : b < 340282366920938463463374607431768211456) (hle : (dig b).length ≤ (dig a).length) :
    Calls Tryz.prog 65 #[v, vx, vy] w fun e w' => NatPost v (dig (a + b)) w e w' := by
  rcases dig_two hb with ⟨rfl, lb⟩ | hb2
  · obtain ⟨ry, cy, rfl⟩ := hy.slice
    rw [lb]
    rcases dig_two ha with ⟨rfl, la⟩ | ha2
    · obtain ⟨rx, cx, rfl⟩ := hx.slice
      rw [la, show dig (0 + 0) = [] from dig_zero]
      exact addN_zero w v hz rx ry cx cy
    · exact addN_copy w v vx a (by omega) (by omega) hz hx ry cy
  · have key := fun (gx cx : Nat) (curx : Array Value) (gy cy : Nat) (hbx : Blk w gx curx) (h4 : ∀ j, j < (dig a).length → w.cell? ⟨gx, j, none⟩ = some (.int .u64 ((dig a).getD j 0 : Nat))) (h5 : ∀ j, j < (dig b).length → w.cell? ⟨gy, j, none⟩ = some (.int .u64 ((dig b).getD j 0 : Nat))) =>
      (⟨hbx, h4, h5⟩ : Blk w gx curx ∧ _ ∧ _)
    obtain ⟨gx, cx, curx, rfl, hx1, hx2, hx3, hx4⟩ := hx.cells2 (by omega)
    obtain ⟨gy, cy, cury, rfl, hy1, hy2, hy3, hy4⟩ := hy.cells2 (by omega)
    have e : dig (a + b) = dig (val (dig a) + val (dig b)) := by rw [val_dig, val_dig]
    rw [e]
    rcases hb2 with ⟨h0, lb⟩ | ⟨h0, lb⟩ <;> rcases dig_two ha with ⟨_, la⟩ | ⟨h0', la⟩ | ⟨h0', la⟩
    all_goals try (exfalso; omega)
    · have := addN_11 w v gx gy cx cy curx (dig a) (dig b) hz la lb (small_dig a) (small_dig b) hx3 hx4 (fun j hj => hy4 j (by omega)) (by omega) (by omega)
      rw [la, lb]; exact this
    · have := addN_21 w v gx gy cx cy curx (dig a) (dig b) hz la lb (small_dig a) (small_dig b) hx3 hx4 (fun j hj => hy4 j (by omega)) (by omega) (by omega)
      rw [la, lb]; exact this
    · have := addN_22 w v gx gy cx cy curx (dig a) (dig b) hz la lb (small_dig a) (small_dig b) hx3 hx4 (fun j hj => hy4 j (by omega)) (by omega) (by omega)
      rw [la, lb]; exact this
theorem addN_walk (w : World) (v vx vy : Value) (a b : Nat) (hz : Rz w v) (hx : Wds w vx (dig a)) (hy : Wds w vy (dig b)) (ha : a < 340282366920938463463374607431768211456) (hb : b < 340282366920938463463374607431768211456) :
    Calls Tryz.prog 65 #[v, vx, vy] w fun e w' => NatPost v (dig (a + b)) w e w' := by
  by_cases hle : (dig b).length ≤ (dig a).length
  · exact addN_ge w v vx vy a b hz hx hy ha hb hle
  · have H := addN_ge w v vy vx b a hz hy hx hb ha (by omega)
    obtain ⟨rx, cx, rfl⟩ := hx.slice
    obtain ⟨ry, cy, rfl⟩ := hy.slice
    rw [Nat.add_comm]
    exact addN_swap w v rx ry _ _ cx cy (by omega) _ H
theorem subN_walk (w : World) (v vx vy : Value) (a b : Nat) (hz : Rz w v) (hx : Wds w vx (dig a)) (hy : Wds w vy (dig b)) (ha : a < 340282366920938463463374607431768211456) (hle : b ≤ a) :
    Calls Tryz.prog 67 #[v, vx, vy] w fun e w' => NatPost v (dig (a - b)) w e w' := by
  have hl : (dig b).length ≤ (dig a).length := by
    rcases Nat.lt_or_ge (dig a).length (dig b).length with h | h
    · have := dig_len_mono h; omega
    · exact h
  rcases dig_two (show b < 340282366920938463463374607431768211456 by omega) with ⟨rfl, lb⟩ | hb2
  · obtain ⟨ry, cy, rfl⟩ := hy.slice
    rw [lb]
    rcases dig_two ha with ⟨rfl, la⟩ | ha2
    · obtain ⟨rx, cx, rfl⟩ := hx.slice
      rw [la, show dig (0 - 0) = [] from dig_zero]
      exact subN_zero w v hz rx ry cx cy
    · exact subN_copy w v vx a (by omega) (by omega) hz hx ry cy
  · obtain ⟨gx, cx, curx, rfl, hx1, hx2, hx3, hx4⟩ := hx.cells2 (by omega)
    obtain ⟨gy, cy, cury, rfl, hy1, hy2, hy3, hy4⟩ := hy.cells2 (by omega)
    have e : dig (a - b) = dig (val (dig a) - val (dig b)) := by rw [val_dig, val_dig]
    rw [e]
    have hv : val (dig b) ≤ val (dig a) := by rw [val_dig, val_dig]; exact hle
    rcases hb2 with ⟨h0, lb⟩ | ⟨h0, lb⟩ <;> rcases dig_two ha with ⟨_, la⟩ | ⟨h0', la⟩ | ⟨h0', la⟩
    all_goals try (exfalso; omega)
    · have := subN_11 w v gx gy cx cy curx (dig a) (dig b) hz la lb (small_dig a) (small_dig b) hv hx3 hx4 (fun j hj => hy4 j (by omega)) (by omega) (by omega)
      rw [la, lb]; exact this
    · have := subN_21 w v gx gy cx cy curx (dig a) (dig b) hz la lb (small_dig a) (small_dig b) hv hx3 hx4 (fun j hj => hy4 j (by omega)) (by omega) (by omega)
      rw [la, lb]; exact this
    · have := subN_22 w v gx gy cx cy curx (dig a) (dig b) hz la lb (small_dig a) (small_dig b) hv hx3 hx4 (fun j hj => hy4 j (by omega)) (by omega) (by omega)
      rw [la, lb]; exact this
/-- Where a number may be laid. -/
def Zat (B : Nat) (w : World) (p : Nat) (b : Bool) (v : Value) : Prop := B ≤ p ∧ Bx w p #[.bool b, v] ∧ Rz w v ∧ ∀ k, v.ownBlock = some k → B ≤ k ∧ k ≠ p
/-- A number that is read. -/
def Rd (w : World) (p : Nat) (n : Int) (v : Value) : Prop := Bx w p #[.bool (decide (n < 0)), v] ∧ Wds w v (dig n.natAbs)
theorem IntAt.z {B : Nat} {w : World} {p : Nat} {n : Int} (h : IntAt B w p n) : ∃ v, Zat B w p (decide (n < 0)) v ∧ Rd w p n v := by
  obtain ⟨h0, v, h1, h2, h3⟩ := h
  exact ⟨v, ⟨h0, h1, h2.rz, h3⟩, h1, h2⟩
theorem IntAt.rd {B : Nat} {w : World} {p : Nat} {n : Int} (h : IntAt B w p n) : ∃ v, Rd w p n v := by
  obtain ⟨h0, v, h1, h2, h3⟩ := h
  exact ⟨v, h1, h2⟩
theorem op_end {B : Nat} {w w1 w2 : World} {p : Nat} {N : Int} {v v1 : Value} {b bz : Bool} (hz : Zat B w p bz v) (hB : B ≤ w.heap.size) (hw : Below w.heap.size w w1) (hg1 : w1.grownBy w2 v.ownBlock) (hw1 : Wds w2 v1 (dig N.natAbs)) (ho1 : ∀ k, v1.ownBlock = some k → v.ownBlock = some k ∨ w1.heap.size ≤ k) (hbb : b = decide (N < 0)) :
    IntAt B ((w2.setCell ⟨p, 1, none⟩ v1).setCell ⟨p, 0, none⟩ (.bool b)) p N ∧ Below B w ((w2.setCell ⟨p, 1, none⟩ v1).setCell ⟨p, 0, none⟩ (.bool b)) := by
  obtain ⟨h0, hx, hr, ho⟩ := hz
  have hp := hx.lt
  have hsz := hw.size
  have hk : ∀ k, v1.ownBlock = some k → B ≤ k ∧ k ≠ p := fun k hk => by
    rcases ho1 k hk with h | h
    · exact ho k h
    · omega
  have hne : ∀ k, v1.ownBlock = some k → k ≠ p := fun k h => (hk k h).2
  have kp : Bx w2 p #[.bool bz, v] := (hx.below hw).grown hg1 (fun e => (ho p e.symm).2 rfl)
  subst hbb
  refine ⟨⟨h0, v1, (kp.set 1 v1).set 0 _, (hw1.other hne 1 v1).other hne 0 _, hk⟩, ?_⟩
  have h1 : Below B w w2 := Below.grown (hw.mono hB) hg1 (by omega) (fun k h => (ho k h).1)
  exact (h1.setCell h0 _).setCell h0 _
set_option maxRecDepth 100000 in
set_option maxHeartbeats 16000000 in
theorem Sub_cmpmmg (B : Nat) (w : World) (pz px py : Nat) (bz : Bool) (vz vx vy : Value) (X Y : Int) (hz : Zat B w pz bz vz) (hx : Rd w px X vx) (hy : Rd w py Y vy) (hB : B ≤ w.heap.size) (hX : X.natAbs < 340282366920938463463374607431768211456) (hY : Y.natAbs < 340282366920938463463374607431768211456) (nx : X < 0) (ny : Y < 0) (hle : Y.natAbs ≤ X.natAbs) :
    Calls Tryz.prog 27 #[.pointer (some ⟨pz, 0, none⟩), .pointer (some ⟨px, 0, none⟩), .pointer (some ⟨py, 0, none⟩)] w fun e w' => e = .returned (.pointer (some ⟨pz, 0, none⟩)) ∧ IntAt B w' pz (X - Y) ∧ Below B w w' := by
  have HZ := Lib.hid hz
  have KX := Lib.hid hx.1
  have KY := Lib.hid hy.1
  have NT := Lib.hid (fun W (hW : Below w.heap.size w W) => subN_walk W vz vx vy X.natAbs Y.natAbs (hz.2.2.1.below hW) (hx.2.below hW) (hy.2.below hW) hX hle)
  have CM := Lib.hid (fun W (hW : Below w.heap.size w W) => cmp_walk W vx vy X.natAbs Y.natAbs (by have := dig_two hX; omega) (hx.2.below hW) (hy.2.below hW))
  have c0 : (0 : Int) ≤ cmpN X.natAbs Y.natAbs := by
    unfold cmpN
    rw [if_neg (by omega)]
    split <;> decide
  have z1 := hz.2.1.cell 1
  have zl := hz.2.1.lt
  have x0 := KX.out.cell 0
  have x1 := KX.out.cell 1
  have xl := KX.out.lt
  have y0 := KY.out.cell 0
  have y1 := KY.out.cell 1
  have yl := KY.out.lt
  simp only [List.getElem?_toArray, List.getElem?_cons_zero, List.getElem?_cons_succ] at z1 x0 x1 y0 y1
  clear hz hx hy
  rw [decide_eq_true nx] at x0
  rw [decide_eq_true ny] at y0
  have HN := Lib.hid (show X.natAbs - Y.natAbs = (X - Y).natAbs by omega)
  rw [HN.out] at NT
  generalize cmpN X.natAbs Y.natAbs = c at *
  go_enter Tryz.func27, Tryz.ntmps27
  go_wp2
  go_quiet (fail)
  go_upto_region 4 with (fail)
  refine Grow.wp_region_plan (.quiet [0, 1, 2, 4, 5, 6] (.reads [3, 7] (.tail [8, 9]))) (by kernel_rfl) (by kernel_rfl) (by kernel_rfl) (by kernel_rfl) ?_ ?_
  · intro c aa d v ww h
    first
      | exact Grow.bodyPost_blind h
      | (simp (config := {zetaDelta := true}) only [Exit.then, Exit.inBlock] at h ⊢; first | exact Grow.bodyPost_blind h | exact h)
  simp only [Grow.Plan.wp, Grow.pick, List.getElem?_cons_zero, List.getElem?_cons_succ, List.cons_append, List.nil_append]
  repeat (go_big_quiet_step (fail))
  refine wpQuiet_nil ?_
  repeat (go_big_quiet_step (fail))
  refine wpQuiet_nil ?_
  go_upto_region 5 with (go_at_call 66; go_loud ((with_reducible refine (CM.out _ (by (repeat (with_reducible first | exact grow_refl _ | refine Grow.grow_drewN ?_ _ | refine Grow.grow_drew ?_)))).mono ?_); rintro e w5 ⟨rfl, hb⟩; have BW := Lib.hid (grow_trans (by (repeat (with_reducible first | exact grow_refl _ | refine Grow.grow_drewN ?_ _ | refine Grow.grow_drew ?_))) hb : Below w.heap.size w w5); clear hb z1 zl x0 x1 xl y0 y1 yl; have KZ5 := HZ.out.2.1.below BW.out; have z1 := KZ5.cell 1; have zl := KZ5.lt; have KX5 := KX.out.below BW.out; have x1 := KX5.cell 1; have xl := KX5.lt; have KY5 := KY.out.below BW.out; have y1 := KY5.cell 1; have yl := KY5.lt; simp only [List.getElem?_toArray, List.getElem?_cons_zero, List.getElem?_cons_succ] at z1 x1 y1; clear KZ5 KX5 KY5))
  refine Grow.wp_region_plan (.quiet [0, 1, 2, 3, 5, 6, 7, 9, 10, 11] (.reads [4, 8, 12] (.tail [13, 14, 15, 16]))) (by kernel_rfl) (by kernel_rfl) (by kernel_rfl) (by kernel_rfl) ?_ ?_
  · intro c aa d v ww h
    first
      | exact Grow.bodyPost_blind h
      | (simp (config := {zetaDelta := true}) only [Exit.then, Exit.inBlock] at h ⊢; first | exact Grow.bodyPost_blind h | exact h)
  simp only [Grow.Plan.wp, Grow.pick, List.getElem?_cons_zero, List.getElem?_cons_succ, List.cons_append, List.nil_append]
  repeat (go_big_quiet_step (fail))
  refine wpQuiet_nil ?_
  repeat (go_big_quiet_step (fail))
  refine wpQuiet_nil ?_
  go_upto_region 8 with (go_at_call 67; go_loud ((with_reducible refine (NT.out _ (by (repeat (with_reducible first | exact grow_refl _ | exact BW.out | refine Grow.grow_drewN ?_ _ | refine Grow.grow_drew ?_)))).mono ?_); rintro e w1 ⟨v1, rfl, hw1, hg1, ho1⟩; obtain ⟨r1, c1, rfl⟩ := hw1.slice; have HW1 := Lib.hid hw1; have HO1 := Lib.hid ho1; have HG1 := Lib.hid hg1; have KZ1 := Lib.hid ((HZ.out.2.1.below (by (repeat (with_reducible first | exact grow_refl _ | exact BW.out | refine Grow.grow_drewN ?_ _ | refine Grow.grow_drew ?_)))).grown hg1 (fun e => (HZ.out.2.2.2 pz e.symm).2 rfl)); clear hw1 hg1 ho1 z1 zl x1 xl y1 yl; have p1 := KZ1.out.cell 1; have pl := KZ1.out.lt; have pf := KZ1.out.frozen 1; simp only [List.getElem?_toArray, List.getElem?_cons_zero, List.getElem?_cons_succ] at p1))
  refine seal_wp fun W2 hW2 => ?_
  have KP2 : Bx W2 pz #[.bool bz, .slice r1 (dig (X - Y).natAbs).length c1] := by rw [hW2.out]; exact KZ1.out.set 1 _
  have HW2 := Lib.hid hW2.out
  clear hW2 p1 pl pf
  have p0 := KP2.cell 0
  have p1 := KP2.cell 1
  have pl := KP2.lt
  have pf := KP2.frozen 0
  simp only [List.getElem?_toArray, List.getElem?_cons_zero, List.getElem?_cons_succ] at p0 p1
  clear KP2
  by_cases hn : (X - Y).natAbs = 0
  · have hl : (dig (X - Y).natAbs).length = 0 := by rw [hn, dig_zero]; rfl
    have e := op_end HZ.out hB (by (repeat (with_reducible first | exact grow_refl _ | exact BW.out | refine Grow.grow_drewN ?_ _ | refine Grow.grow_drew ?_))) HG1.out HW1.out HO1.out (show false = decide (X - Y < 0) by rw [decide_eq_false (by omega)])
    rw [← HW2.out] at e
    rw [hl] at p1
    clear hl hn HN
    clear HW1 HO1 HG1 KZ1 NT
    go_wp2
    go_ret
    exact ⟨rfl, e⟩
  · have hl : decide (0 < (dig (X - Y).natAbs).length) = true := decide_eq_true (by rw [dig_pos (by omega)]; simp)
    have e := op_end HZ.out hB (by (repeat (with_reducible first | exact grow_refl _ | exact BW.out | refine Grow.grow_drewN ?_ _ | refine Grow.grow_drew ?_))) HG1.out HW1.out HO1.out (show true = decide (X - Y < 0) by first | rw [decide_eq_false (by omega)] | rw [decide_eq_true (by omega)])
    rw [← HW2.out] at e
    clear HW1 HO1 HG1 KZ1 NT
    go_wp2
    go_ret
    exact ⟨rfl, e⟩
set_option maxRecDepth 100000 in
set_option maxHeartbeats 16000000 in
theorem Sub_cmpmml (B : Nat) (w : World) (pz px py : Nat) (bz : Bool) (vz vx vy : Value) (X Y : Int) (hz : Zat B w pz bz vz) (hx : Rd w px X vx) (hy : Rd w py Y vy) (hB : B ≤ w.heap.size) (hX : X.natAbs < 340282366920938463463374607431768211456) (hY : Y.natAbs < 340282366920938463463374607431768211456) (nx : X < 0) (ny : Y < 0) (hle : X.natAbs < Y.natAbs) :
    Calls Tryz.prog 27 #[.pointer (some ⟨pz, 0, none⟩), .pointer (some ⟨px, 0, none⟩), .pointer (some ⟨py, 0, none⟩)] w fun e w' => e = .returned (.pointer (some ⟨pz, 0, none⟩)) ∧ IntAt B w' pz (X - Y) ∧ Below B w w' := by
  have HZ := Lib.hid hz
  have KX := Lib.hid hx.1
  have KY := Lib.hid hy.1
  have NT := Lib.hid (fun W (hW : Below w.heap.size w W) => subN_walk W vz vy vx Y.natAbs X.natAbs (hz.2.2.1.below hW) (hy.2.below hW) (hx.2.below hW) hY (by omega))
  have CM := Lib.hid (fun W (hW : Below w.heap.size w W) => cmp_walk W vx vy X.natAbs Y.natAbs (by have := dig_two hX; omega) (hx.2.below hW) (hy.2.below hW))
  rw [cmpN_lt hle] at CM
  have z1 := hz.2.1.cell 1
  have zl := hz.2.1.lt
  have x0 := KX.out.cell 0
  have x1 := KX.out.cell 1
  have xl := KX.out.lt
  have y0 := KY.out.cell 0
  have y1 := KY.out.cell 1
  have yl := KY.out.lt
  simp only [List.getElem?_toArray, List.getElem?_cons_zero, List.getElem?_cons_succ] at z1 x0 x1 y0 y1
  clear hz hx hy
  rw [decide_eq_true nx] at x0
  rw [decide_eq_true ny] at y0
  have HN := Lib.hid (show Y.natAbs - X.natAbs = (X - Y).natAbs by omega)
  rw [HN.out] at NT
  go_enter Tryz.func27, Tryz.ntmps27
  go_wp2
  go_quiet (fail)
  go_upto_region 4 with (fail)
  refine Grow.wp_region_plan (.quiet [0, 1, 2, 4, 5, 6] (.reads [3, 7] (.tail [8, 9]))) (by kernel_rfl) (by kernel_rfl) (by kernel_rfl) (by kernel_rfl) ?_ ?_
  · intro c aa d v ww h
    first
      | exact Grow.bodyPost_blind h
      | (simp (config := {zetaDelta := true}) only [Exit.then, Exit.inBlock] at h ⊢; first | exact Grow.bodyPost_blind h | exact h)
  simp only [Grow.Plan.wp, Grow.pick, List.getElem?_cons_zero, List.getElem?_cons_succ, List.cons_append, List.nil_append]
  repeat (go_big_quiet_step (fail))
  refine wpQuiet_nil ?_
  repeat (go_big_quiet_step (fail))
  refine wpQuiet_nil ?_
  go_upto_region 7 with (go_at_call 66; go_loud ((with_reducible refine (CM.out _ (by (repeat (with_reducible first | exact grow_refl _ | refine Grow.grow_drewN ?_ _ | refine Grow.grow_drew ?_)))).mono ?_); rintro e w5 ⟨rfl, hb⟩; have BW := Lib.hid (grow_trans (by (repeat (with_reducible first | exact grow_refl _ | refine Grow.grow_drewN ?_ _ | refine Grow.grow_drew ?_))) hb : Below w.heap.size w w5); clear hb z1 zl x0 x1 xl y0 y1 yl; have KZ5 := HZ.out.2.1.below BW.out; have z1 := KZ5.cell 1; have zl := KZ5.lt; have KX5 := KX.out.below BW.out; have x1 := KX5.cell 1; have xl := KX5.lt; have KY5 := KY.out.below BW.out; have y1 := KY5.cell 1; have yl := KY5.lt; simp only [List.getElem?_toArray, List.getElem?_cons_zero, List.getElem?_cons_succ] at z1 x1 y1; clear KZ5 KX5 KY5))
  refine Grow.wp_region_plan (.quiet [0, 1, 2, 3, 5, 6, 7, 9, 10, 11] (.reads [4, 8, 12] (.tail [13, 14, 15, 16]))) (by kernel_rfl) (by kernel_rfl) (by kernel_rfl) (by kernel_rfl) ?_ ?_
  · intro c aa d v ww h
    first
      | exact Grow.bodyPost_blind h
      | (simp (config := {zetaDelta := true}) only [Exit.then, Exit.inBlock] at h ⊢; first | exact Grow.bodyPost_blind h | exact h)
  simp only [Grow.Plan.wp, Grow.pick, List.getElem?_cons_zero, List.getElem?_cons_succ, List.cons_append, List.nil_append]
  repeat (go_big_quiet_step (fail))
  refine wpQuiet_nil ?_
  repeat (go_big_quiet_step (fail))
  refine wpQuiet_nil ?_
  go_upto_region 8 with (go_at_call 67; go_loud ((with_reducible refine (NT.out _ (by (repeat (with_reducible first | exact grow_refl _ | exact BW.out | refine Grow.grow_drewN ?_ _ | refine Grow.grow_drew ?_)))).mono ?_); rintro e w1 ⟨v1, rfl, hw1, hg1, ho1⟩; obtain ⟨r1, c1, rfl⟩ := hw1.slice; have HW1 := Lib.hid hw1; have HO1 := Lib.hid ho1; have HG1 := Lib.hid hg1; have KZ1 := Lib.hid ((HZ.out.2.1.below (by (repeat (with_reducible first | exact grow_refl _ | exact BW.out | refine Grow.grow_drewN ?_ _ | refine Grow.grow_drew ?_)))).grown hg1 (fun e => (HZ.out.2.2.2 pz e.symm).2 rfl)); clear hw1 hg1 ho1 z1 zl x1 xl y1 yl; have p1 := KZ1.out.cell 1; have pl := KZ1.out.lt; have pf := KZ1.out.frozen 1; simp only [List.getElem?_toArray, List.getElem?_cons_zero, List.getElem?_cons_succ] at p1))
  refine seal_wp fun W2 hW2 => ?_
  have KP2 : Bx W2 pz #[.bool bz, .slice r1 (dig (X - Y).natAbs).length c1] := by rw [hW2.out]; exact KZ1.out.set 1 _
  have HW2 := Lib.hid hW2.out
  clear hW2 p1 pl pf
  have p0 := KP2.cell 0
  have p1 := KP2.cell 1
  have pl := KP2.lt
  have pf := KP2.frozen 0
  simp only [List.getElem?_toArray, List.getElem?_cons_zero, List.getElem?_cons_succ] at p0 p1
  clear KP2
  by_cases hn : (X - Y).natAbs = 0
  · have hl : (dig (X - Y).natAbs).length = 0 := by rw [hn, dig_zero]; rfl
    have e := op_end HZ.out hB (by (repeat (with_reducible first | exact grow_refl _ | exact BW.out | refine Grow.grow_drewN ?_ _ | refine Grow.grow_drew ?_))) HG1.out HW1.out HO1.out (show false = decide (X - Y < 0) by rw [decide_eq_false (by omega)])
    rw [← HW2.out] at e
    rw [hl] at p1
    clear hl hn HN
    clear HW1 HO1 HG1 KZ1 NT
    go_wp2
    go_ret
    exact ⟨rfl, e⟩
  · have hl : decide (0 < (dig (X - Y).natAbs).length) = true := decide_eq_true (by rw [dig_pos (by omega)]; simp)
    have e := op_end HZ.out hB (by (repeat (with_reducible first | exact grow_refl _ | exact BW.out | refine Grow.grow_drewN ?_ _ | refine Grow.grow_drew ?_))) HG1.out HW1.out HO1.out (show false = decide (X - Y < 0) by first | rw [decide_eq_false (by omega)] | rw [decide_eq_true (by omega)])
    rw [← HW2.out] at e
    clear HW1 HO1 HG1 KZ1 NT
    go_wp2
    go_ret
    exact ⟨rfl, e⟩
set_option maxRecDepth 100000 in
set_option maxHeartbeats 16000000 in
theorem Sub_samemp (B : Nat) (w : World) (pz px py : Nat) (bz : Bool) (vz vx vy : Value) (X Y : Int) (hz : Zat B w pz bz vz) (hx : Rd w px X vx) (hy : Rd w py Y vy) (hB : B ≤ w.heap.size) (hX : X.natAbs < 340282366920938463463374607431768211456) (hY : Y.natAbs < 340282366920938463463374607431768211456) (nx : X < 0) (ny : ¬ Y < 0) :
    Calls Tryz.prog 27 #[.pointer (some ⟨pz, 0, none⟩), .pointer (some ⟨px, 0, none⟩), .pointer (some ⟨py, 0, none⟩)] w fun e w' => e = .returned (.pointer (some ⟨pz, 0, none⟩)) ∧ IntAt B w' pz (X - Y) ∧ Below B w w' := by
  have HZ := Lib.hid hz
  have KX := Lib.hid hx.1
  have KY := Lib.hid hy.1
  have NT := Lib.hid (fun W (hW : Below w.heap.size w W) => addN_walk W vz vx vy X.natAbs Y.natAbs (hz.2.2.1.below hW) (hx.2.below hW) (hy.2.below hW) hX hY)
  have z1 := hz.2.1.cell 1
  have zl := hz.2.1.lt
  have x0 := KX.out.cell 0
  have x1 := KX.out.cell 1
  have xl := KX.out.lt
  have y0 := KY.out.cell 0
  have y1 := KY.out.cell 1
  have yl := KY.out.lt
  simp only [List.getElem?_toArray, List.getElem?_cons_zero, List.getElem?_cons_succ] at z1 x0 x1 y0 y1
  clear hz hx hy
  rw [decide_eq_true nx] at x0
  rw [decide_eq_false ny] at y0
  have HN := Lib.hid (show X.natAbs + Y.natAbs = (X - Y).natAbs by omega)
  rw [HN.out] at NT
  go_enter Tryz.func27, Tryz.ntmps27
  go_wp2
  go_quiet (fail)
  go_upto_region 3 with (fail)
  refine Grow.wp_region_plan (.quiet [0, 1, 2, 3, 5, 6, 7, 9, 10, 11] (.reads [4, 8, 12] (.tail [13, 14, 15, 16]))) (by kernel_rfl) (by kernel_rfl) (by kernel_rfl) (by kernel_rfl) ?_ ?_
  · intro c aa d v ww h
    first
      | exact Grow.bodyPost_blind h
      | (simp (config := {zetaDelta := true}) only [Exit.then, Exit.inBlock] at h ⊢; first | exact Grow.bodyPost_blind h | exact h)
  simp only [Grow.Plan.wp, Grow.pick, List.getElem?_cons_zero, List.getElem?_cons_succ, List.cons_append, List.nil_append]
  repeat (go_big_quiet_step (fail))
  refine wpQuiet_nil ?_
  repeat (go_big_quiet_step (fail))
  refine wpQuiet_nil ?_
  go_upto_region 8 with (go_at_call 65; go_loud ((with_reducible refine (NT.out _ (by (repeat (with_reducible first | exact grow_refl _ | exact BW.out | refine Grow.grow_drewN ?_ _ | refine Grow.grow_drew ?_)))).mono ?_); rintro e w1 ⟨v1, rfl, hw1, hg1, ho1⟩; obtain ⟨r1, c1, rfl⟩ := hw1.slice; have HW1 := Lib.hid hw1; have HO1 := Lib.hid ho1; have HG1 := Lib.hid hg1; have KZ1 := Lib.hid ((HZ.out.2.1.below (by (repeat (with_reducible first | exact grow_refl _ | exact BW.out | refine Grow.grow_drewN ?_ _ | refine Grow.grow_drew ?_)))).grown hg1 (fun e => (HZ.out.2.2.2 pz e.symm).2 rfl)); clear hw1 hg1 ho1 z1 zl x0 x1 xl y0 y1 yl; have p1 := KZ1.out.cell 1; have pl := KZ1.out.lt; have pf := KZ1.out.frozen 1; simp only [List.getElem?_toArray, List.getElem?_cons_zero, List.getElem?_cons_succ] at p1))
  refine seal_wp fun W2 hW2 => ?_
  have KP2 : Bx W2 pz #[.bool bz, .slice r1 (dig (X - Y).natAbs).length c1] := by rw [hW2.out]; exact KZ1.out.set 1 _
  have HW2 := Lib.hid hW2.out
  clear hW2 p1 pl pf
  have p0 := KP2.cell 0
  have p1 := KP2.cell 1
  have pl := KP2.lt
  have pf := KP2.frozen 0
  simp only [List.getElem?_toArray, List.getElem?_cons_zero, List.getElem?_cons_succ] at p0 p1
  clear KP2
  by_cases hn : (X - Y).natAbs = 0
  · have hl : (dig (X - Y).natAbs).length = 0 := by rw [hn, dig_zero]; rfl
    have e := op_end HZ.out hB (by (repeat (with_reducible first | exact grow_refl _ | exact BW.out | refine Grow.grow_drewN ?_ _ | refine Grow.grow_drew ?_))) HG1.out HW1.out HO1.out (show false = decide (X - Y < 0) by rw [decide_eq_false (by omega)])
    rw [← HW2.out] at e
    rw [hl] at p1
    clear hl hn HN
    clear HW1 HO1 HG1 KZ1 NT
    go_wp2
    go_ret
    exact ⟨rfl, e⟩
  · have hl : decide (0 < (dig (X - Y).natAbs).length) = true := decide_eq_true (by rw [dig_pos (by omega)]; simp)
    have e := op_end HZ.out hB (by (repeat (with_reducible first | exact grow_refl _ | exact BW.out | refine Grow.grow_drewN ?_ _ | refine Grow.grow_drew ?_))) HG1.out HW1.out HO1.out (show true = decide (X - Y < 0) by first | rw [decide_eq_false (by omega)] | rw [decide_eq_true (by omega)])
    rw [← HW2.out] at e
    clear HW1 HO1 HG1 KZ1 NT
    go_wp2
    go_ret
    exact ⟨rfl, e⟩
set_option maxRecDepth 100000 in
set_option maxHeartbeats 16000000 in
theorem Sub_samepm (B : Nat) (w : World) (pz px py : Nat) (bz : Bool) (vz vx vy : Value) (X Y : Int) (hz : Zat B w pz bz vz) (hx : Rd w px X vx) (hy : Rd w py Y vy) (hB : B ≤ w.heap.size) (hX : X.natAbs < 340282366920938463463374607431768211456) (hY : Y.natAbs < 340282366920938463463374607431768211456) (nx : ¬ X < 0) (ny : Y < 0) :
    Calls Tryz.prog 27 #[.pointer (some ⟨pz, 0, none⟩), .pointer (some ⟨px, 0, none⟩), .pointer (some ⟨py, 0, none⟩)] w fun e w' => e = .returned (.pointer (some ⟨pz, 0, none⟩)) ∧ IntAt B w' pz (X - Y) ∧ Below B w w' := by
  have HZ := Lib.hid hz
  have KX := Lib.hid hx.1
  have KY := Lib.hid hy.1
  have NT := Lib.hid (fun W (hW : Below w.heap.size w W) => addN_walk W vz vx vy X.natAbs Y.natAbs (hz.2.2.1.below hW) (hx.2.below hW) (hy.2.below hW) hX hY)
  have z1 := hz.2.1.cell 1
  have zl := hz.2.1.lt
  have x0 := KX.out.cell 0
  have x1 := KX.out.cell 1
  have xl := KX.out.lt
  have y0 := KY.out.cell 0
  have y1 := KY.out.cell 1
  have yl := KY.out.lt
  simp only [List.getElem?_toArray, List.getElem?_cons_zero, List.getElem?_cons_succ] at z1 x0 x1 y0 y1
  clear hz hx hy
  rw [decide_eq_false nx] at x0
  rw [decide_eq_true ny] at y0
  have HN := Lib.hid (show X.natAbs + Y.natAbs = (X - Y).natAbs by omega)
  rw [HN.out] at NT
  go_enter Tryz.func27, Tryz.ntmps27
  go_wp2
  go_quiet (fail)
  go_upto_region 3 with (fail)
  refine Grow.wp_region_plan (.quiet [0, 1, 2, 3, 5, 6, 7, 9, 10, 11] (.reads [4, 8, 12] (.tail [13, 14, 15, 16]))) (by kernel_rfl) (by kernel_rfl) (by kernel_rfl) (by kernel_rfl) ?_ ?_
  · intro c aa d v ww h
    first
      | exact Grow.bodyPost_blind h
      | (simp (config := {zetaDelta := true}) only [Exit.then, Exit.inBlock] at h ⊢; first | exact Grow.bodyPost_blind h | exact h)
  simp only [Grow.Plan.wp, Grow.pick, List.getElem?_cons_zero, List.getElem?_cons_succ, List.cons_append, List.nil_append]
  repeat (go_big_quiet_step (fail))
  refine wpQuiet_nil ?_
  repeat (go_big_quiet_step (fail))
  refine wpQuiet_nil ?_
  go_upto_region 8 with (go_at_call 65; go_loud ((with_reducible refine (NT.out _ (by (repeat (with_reducible first | exact grow_refl _ | exact BW.out | refine Grow.grow_drewN ?_ _ | refine Grow.grow_drew ?_)))).mono ?_); rintro e w1 ⟨v1, rfl, hw1, hg1, ho1⟩; obtain ⟨r1, c1, rfl⟩ := hw1.slice; have HW1 := Lib.hid hw1; have HO1 := Lib.hid ho1; have HG1 := Lib.hid hg1; have KZ1 := Lib.hid ((HZ.out.2.1.below (by (repeat (with_reducible first | exact grow_refl _ | exact BW.out | refine Grow.grow_drewN ?_ _ | refine Grow.grow_drew ?_)))).grown hg1 (fun e => (HZ.out.2.2.2 pz e.symm).2 rfl)); clear hw1 hg1 ho1 z1 zl x0 x1 xl y0 y1 yl; have p1 := KZ1.out.cell 1; have pl := KZ1.out.lt; have pf := KZ1.out.frozen 1; simp only [List.getElem?_toArray, List.getElem?_cons_zero, List.getElem?_cons_succ] at p1))
  refine seal_wp fun W2 hW2 => ?_
  have KP2 : Bx W2 pz #[.bool bz, .slice r1 (dig (X - Y).natAbs).length c1] := by rw [hW2.out]; exact KZ1.out.set 1 _
  have HW2 := Lib.hid hW2.out
  clear hW2 p1 pl pf
  have p0 := KP2.cell 0
  have p1 := KP2.cell 1
  have pl := KP2.lt
  have pf := KP2.frozen 0
  simp only [List.getElem?_toArray, List.getElem?_cons_zero, List.getElem?_cons_succ] at p0 p1
  clear KP2
  by_cases hn : (X - Y).natAbs = 0
  · have hl : (dig (X - Y).natAbs).length = 0 := by rw [hn, dig_zero]; rfl
    have e := op_end HZ.out hB (by (repeat (with_reducible first | exact grow_refl _ | exact BW.out | refine Grow.grow_drewN ?_ _ | refine Grow.grow_drew ?_))) HG1.out HW1.out HO1.out (show false = decide (X - Y < 0) by rw [decide_eq_false (by omega)])
    rw [← HW2.out] at e
    rw [hl] at p1
    clear hl hn HN
    clear HW1 HO1 HG1 KZ1 NT
    go_wp2
    go_ret
    exact ⟨rfl, e⟩
  · have hl : decide (0 < (dig (X - Y).natAbs).length) = true := decide_eq_true (by rw [dig_pos (by omega)]; simp)
    have e := op_end HZ.out hB (by (repeat (with_reducible first | exact grow_refl _ | exact BW.out | refine Grow.grow_drewN ?_ _ | refine Grow.grow_drew ?_))) HG1.out HW1.out HO1.out (show false = decide (X - Y < 0) by first | rw [decide_eq_false (by omega)] | rw [decide_eq_true (by omega)])
    rw [← HW2.out] at e
    clear HW1 HO1 HG1 KZ1 NT
    go_wp2
    go_ret
    exact ⟨rfl, e⟩
set_option maxRecDepth 100000 in
set_option maxHeartbeats 16000000 in
theorem Sub_cmpppg (B : Nat) (w : World) (pz px py : Nat) (bz : Bool) (vz vx vy : Value) (X Y : Int) (hz : Zat B w pz bz vz) (hx : Rd w px X vx) (hy : Rd w py Y vy) (hB : B ≤ w.heap.size) (hX : X.natAbs < 340282366920938463463374607431768211456) (hY : Y.natAbs < 340282366920938463463374607431768211456) (nx : ¬ X < 0) (ny : ¬ Y < 0) (hle : Y.natAbs ≤ X.natAbs) :
    Calls Tryz.prog 27 #[.pointer (some ⟨pz, 0, none⟩), .pointer (some ⟨px, 0, none⟩), .pointer (some ⟨py, 0, none⟩)] w fun e w' => e = .returned (.pointer (some ⟨pz, 0, none⟩)) ∧ IntAt B w' pz (X - Y) ∧ Below B w w' := by
  have HZ := Lib.hid hz
  have KX := Lib.hid hx.1
  have KY := Lib.hid hy.1
  have NT := Lib.hid (fun W (hW : Below w.heap.size w W) => subN_walk W vz vx vy X.natAbs Y.natAbs (hz.2.2.1.below hW) (hx.2.below hW) (hy.2.below hW) hX hle)
  have CM := Lib.hid (fun W (hW : Below w.heap.size w W) => cmp_walk W vx vy X.natAbs Y.natAbs (by have := dig_two hX; omega) (hx.2.below hW) (hy.2.below hW))
  have c0 : (0 : Int) ≤ cmpN X.natAbs Y.natAbs := by
    unfold cmpN
    rw [if_neg (by omega)]
    split <;> decide
  have z1 := hz.2.1.cell 1
  have zl := hz.2.1.lt
  have x0 := KX.out.cell 0
  have x1 := KX.out.cell 1
  have xl := KX.out.lt
  have y0 := KY.out.cell 0
  have y1 := KY.out.cell 1
  have yl := KY.out.lt
  simp only [List.getElem?_toArray, List.getElem?_cons_zero, List.getElem?_cons_succ] at z1 x0 x1 y0 y1
  clear hz hx hy
  rw [decide_eq_false nx] at x0
  rw [decide_eq_false ny] at y0
  have HN := Lib.hid (show X.natAbs - Y.natAbs = (X - Y).natAbs by omega)
  rw [HN.out] at NT
  generalize cmpN X.natAbs Y.natAbs = c at *
  go_enter Tryz.func27, Tryz.ntmps27
  go_wp2
  go_quiet (fail)
  go_upto_region 4 with (fail)
  refine Grow.wp_region_plan (.quiet [0, 1, 2, 4, 5, 6] (.reads [3, 7] (.tail [8, 9]))) (by kernel_rfl) (by kernel_rfl) (by kernel_rfl) (by kernel_rfl) ?_ ?_
  · intro c aa d v ww h
    first
      | exact Grow.bodyPost_blind h
      | (simp (config := {zetaDelta := true}) only [Exit.then, Exit.inBlock] at h ⊢; first | exact Grow.bodyPost_blind h | exact h)
  simp only [Grow.Plan.wp, Grow.pick, List.getElem?_cons_zero, List.getElem?_cons_succ, List.cons_append, List.nil_append]
  repeat (go_big_quiet_step (fail))
  refine wpQuiet_nil ?_
  repeat (go_big_quiet_step (fail))
  refine wpQuiet_nil ?_
  go_upto_region 5 with (go_at_call 66; go_loud ((with_reducible refine (CM.out _ (by (repeat (with_reducible first | exact grow_refl _ | refine Grow.grow_drewN ?_ _ | refine Grow.grow_drew ?_)))).mono ?_); rintro e w5 ⟨rfl, hb⟩; have BW := Lib.hid (grow_trans (by (repeat (with_reducible first | exact grow_refl _ | refine Grow.grow_drewN ?_ _ | refine Grow.grow_drew ?_))) hb : Below w.heap.size w w5); clear hb z1 zl x0 x1 xl y0 y1 yl; have KZ5 := HZ.out.2.1.below BW.out; have z1 := KZ5.cell 1; have zl := KZ5.lt; have KX5 := KX.out.below BW.out; have x1 := KX5.cell 1; have xl := KX5.lt; have KY5 := KY.out.below BW.out; have y1 := KY5.cell 1; have yl := KY5.lt; simp only [List.getElem?_toArray, List.getElem?_cons_zero, List.getElem?_cons_succ] at z1 x1 y1; clear KZ5 KX5 KY5))
  refine Grow.wp_region_plan (.quiet [0, 1, 2, 3, 5, 6, 7, 9, 10, 11] (.reads [4, 8, 12] (.tail [13, 14, 15, 16]))) (by kernel_rfl) (by kernel_rfl) (by kernel_rfl) (by kernel_rfl) ?_ ?_
  · intro c aa d v ww h
    first
      | exact Grow.bodyPost_blind h
      | (simp (config := {zetaDelta := true}) only [Exit.then, Exit.inBlock] at h ⊢; first | exact Grow.bodyPost_blind h | exact h)
  simp only [Grow.Plan.wp, Grow.pick, List.getElem?_cons_zero, List.getElem?_cons_succ, List.cons_append, List.nil_append]
  repeat (go_big_quiet_step (fail))
  refine wpQuiet_nil ?_
  repeat (go_big_quiet_step (fail))
  refine wpQuiet_nil ?_
  go_upto_region 8 with (go_at_call 67; go_loud ((with_reducible refine (NT.out _ (by (repeat (with_reducible first | exact grow_refl _ | exact BW.out | refine Grow.grow_drewN ?_ _ | refine Grow.grow_drew ?_)))).mono ?_); rintro e w1 ⟨v1, rfl, hw1, hg1, ho1⟩; obtain ⟨r1, c1, rfl⟩ := hw1.slice; have HW1 := Lib.hid hw1; have HO1 := Lib.hid ho1; have HG1 := Lib.hid hg1; have KZ1 := Lib.hid ((HZ.out.2.1.below (by (repeat (with_reducible first | exact grow_refl _ | exact BW.out | refine Grow.grow_drewN ?_ _ | refine Grow.grow_drew ?_)))).grown hg1 (fun e => (HZ.out.2.2.2 pz e.symm).2 rfl)); clear hw1 hg1 ho1 z1 zl x1 xl y1 yl; have p1 := KZ1.out.cell 1; have pl := KZ1.out.lt; have pf := KZ1.out.frozen 1; simp only [List.getElem?_toArray, List.getElem?_cons_zero, List.getElem?_cons_succ] at p1))
  refine seal_wp fun W2 hW2 => ?_
  have KP2 : Bx W2 pz #[.bool bz, .slice r1 (dig (X - Y).natAbs).length c1] := by rw [hW2.out]; exact KZ1.out.set 1 _
  have HW2 := Lib.hid hW2.out
  clear hW2 p1 pl pf
  have p0 := KP2.cell 0
  have p1 := KP2.cell 1
  have pl := KP2.lt
  have pf := KP2.frozen 0
  simp only [List.getElem?_toArray, List.getElem?_cons_zero, List.getElem?_cons_succ] at p0 p1
  clear KP2
  by_cases hn : (X - Y).natAbs = 0
  · have hl : (dig (X - Y).natAbs).length = 0 := by rw [hn, dig_zero]; rfl
    have e := op_end HZ.out hB (by (repeat (with_reducible first | exact grow_refl _ | exact BW.out | refine Grow.grow_drewN ?_ _ | refine Grow.grow_drew ?_))) HG1.out HW1.out HO1.out (show false = decide (X - Y < 0) by rw [decide_eq_false (by omega)])
    rw [← HW2.out] at e
    rw [hl] at p1
    clear hl hn HN
    clear HW1 HO1 HG1 KZ1 NT
    go_wp2
    go_ret
    exact ⟨rfl, e⟩
  · have hl : decide (0 < (dig (X - Y).natAbs).length) = true := decide_eq_true (by rw [dig_pos (by omega)]; simp)
    have e := op_end HZ.out hB (by (repeat (with_reducible first | exact grow_refl _ | exact BW.out | refine Grow.grow_drewN ?_ _ | refine Grow.grow_drew ?_))) HG1.out HW1.out HO1.out (show false = decide (X - Y < 0) by first | rw [decide_eq_false (by omega)] | rw [decide_eq_true (by omega)])
    rw [← HW2.out] at e
    clear HW1 HO1 HG1 KZ1 NT
    go_wp2
    go_ret
    exact ⟨rfl, e⟩
set_option maxRecDepth 100000 in
set_option maxHeartbeats 16000000 in
theorem Sub_cmpppl (B : Nat) (w : World) (pz px py : Nat) (bz : Bool) (vz vx vy : Value) (X Y : Int) (hz : Zat B w pz bz vz) (hx : Rd w px X vx) (hy : Rd w py Y vy) (hB : B ≤ w.heap.size) (hX : X.natAbs < 340282366920938463463374607431768211456) (hY : Y.natAbs < 340282366920938463463374607431768211456) (nx : ¬ X < 0) (ny : ¬ Y < 0) (hle : X.natAbs < Y.natAbs) :
    Calls Tryz.prog 27 #[.pointer (some ⟨pz, 0, none⟩), .pointer (some ⟨px, 0, none⟩), .pointer (some ⟨py, 0, none⟩)] w fun e w' => e = .returned (.pointer (some ⟨pz, 0, none⟩)) ∧ IntAt B w' pz (X - Y) ∧ Below B w w' := by
  have HZ := Lib.hid hz
  have KX := Lib.hid hx.1
  have KY := Lib.hid hy.1
  have NT := Lib.hid (fun W (hW : Below w.heap.size w W) => subN_walk W vz vy vx Y.natAbs X.natAbs (hz.2.2.1.below hW) (hy.2.below hW) (hx.2.below hW) hY (by omega))
  have CM := Lib.hid (fun W (hW : Below w.heap.size w W) => cmp_walk W vx vy X.natAbs Y.natAbs (by have := dig_two hX; omega) (hx.2.below hW) (hy.2.below hW))
  rw [cmpN_lt hle] at CM
  have z1 := hz.2.1.cell 1
  have zl := hz.2.1.lt
  have x0 := KX.out.cell 0
  have x1 := KX.out.cell 1
  have xl := KX.out.lt
  have y0 := KY.out.cell 0
  have y1 := KY.out.cell 1
  have yl := KY.out.lt
  simp only [List.getElem?_toArray, List.getElem?_cons_zero, List.getElem?_cons_succ] at z1 x0 x1 y0 y1
  clear hz hx hy
  rw [decide_eq_false nx] at x0
  rw [decide_eq_false ny] at y0
  have HN := Lib.hid (show Y.natAbs - X.natAbs = (X - Y).natAbs by omega)
  rw [HN.out] at NT
  go_enter Tryz.func27, Tryz.ntmps27
  go_wp2
  go_quiet (fail)
  go_upto_region 4 with (fail)
  refine Grow.wp_region_plan (.quiet [0, 1, 2, 4, 5, 6] (.reads [3, 7] (.tail [8, 9]))) (by kernel_rfl) (by kernel_rfl) (by kernel_rfl) (by kernel_rfl) ?_ ?_
  · intro c aa d v ww h
    first
      | exact Grow.bodyPost_blind h
      | (simp (config := {zetaDelta := true}) only [Exit.then, Exit.inBlock] at h ⊢; first | exact Grow.bodyPost_blind h | exact h)
  simp only [Grow.Plan.wp, Grow.pick, List.getElem?_cons_zero, List.getElem?_cons_succ, List.cons_append, List.nil_append]
  repeat (go_big_quiet_step (fail))
  refine wpQuiet_nil ?_
  repeat (go_big_quiet_step (fail))
  refine wpQuiet_nil ?_
  go_upto_region 7 with (go_at_call 66; go_loud ((with_reducible refine (CM.out _ (by (repeat (with_reducible first | exact grow_refl _ | refine Grow.grow_drewN ?_ _ | refine Grow.grow_drew ?_)))).mono ?_); rintro e w5 ⟨rfl, hb⟩; have BW := Lib.hid (grow_trans (by (repeat (with_reducible first | exact grow_refl _ | refine Grow.grow_drewN ?_ _ | refine Grow.grow_drew ?_))) hb : Below w.heap.size w w5); clear hb z1 zl x0 x1 xl y0 y1 yl; have KZ5 := HZ.out.2.1.below BW.out; have z1 := KZ5.cell 1; have zl := KZ5.lt; have KX5 := KX.out.below BW.out; have x1 := KX5.cell 1; have xl := KX5.lt; have KY5 := KY.out.below BW.out; have y1 := KY5.cell 1; have yl := KY5.lt; simp only [List.getElem?_toArray, List.getElem?_cons_zero, List.getElem?_cons_succ] at z1 x1 y1; clear KZ5 KX5 KY5))
  refine Grow.wp_region_plan (.quiet [0, 1, 2, 3, 5, 6, 7, 9, 10, 11] (.reads [4, 8, 12] (.tail [13, 14, 15, 16]))) (by kernel_rfl) (by kernel_rfl) (by kernel_rfl) (by kernel_rfl) ?_ ?_
  · intro c aa d v ww h
    first
      | exact Grow.bodyPost_blind h
      | (simp (config := {zetaDelta := true}) only [Exit.then, Exit.inBlock] at h ⊢; first | exact Grow.bodyPost_blind h | exact h)
  simp only [Grow.Plan.wp, Grow.pick, List.getElem?_cons_zero, List.getElem?_cons_succ, List.cons_append, List.nil_append]
  repeat (go_big_quiet_step (fail))
  refine wpQuiet_nil ?_
  repeat (go_big_quiet_step (fail))
  refine wpQuiet_nil ?_
  go_upto_region 8 with (go_at_call 67; go_loud ((with_reducible refine (NT.out _ (by (repeat (with_reducible first | exact grow_refl _ | exact BW.out | refine Grow.grow_drewN ?_ _ | refine Grow.grow_drew ?_)))).mono ?_); rintro e w1 ⟨v1, rfl, hw1, hg1, ho1⟩; obtain ⟨r1, c1, rfl⟩ := hw1.slice; have HW1 := Lib.hid hw1; have HO1 := Lib.hid ho1; have HG1 := Lib.hid hg1; have KZ1 := Lib.hid ((HZ.out.2.1.below (by (repeat (with_reducible first | exact grow_refl _ | exact BW.out | refine Grow.grow_drewN ?_ _ | refine Grow.grow_drew ?_)))).grown hg1 (fun e => (HZ.out.2.2.2 pz e.symm).2 rfl)); clear hw1 hg1 ho1 z1 zl x1 xl y1 yl; have p1 := KZ1.out.cell 1; have pl := KZ1.out.lt; have pf := KZ1.out.frozen 1; simp only [List.getElem?_toArray, List.getElem?_cons_zero, List.getElem?_cons_succ] at p1))
  refine seal_wp fun W2 hW2 => ?_
  have KP2 : Bx W2 pz #[.bool bz, .slice r1 (dig (X - Y).natAbs).length c1] := by rw [hW2.out]; exact KZ1.out.set 1 _
  have HW2 := Lib.hid hW2.out
  clear hW2 p1 pl pf
  have p0 := KP2.cell 0
  have p1 := KP2.cell 1
  have pl := KP2.lt
  have pf := KP2.frozen 0
  simp only [List.getElem?_toArray, List.getElem?_cons_zero, List.getElem?_cons_succ] at p0 p1
  clear KP2
  by_cases hn : (X - Y).natAbs = 0
  · have hl : (dig (X - Y).natAbs).length = 0 := by rw [hn, dig_zero]; rfl
    have e := op_end HZ.out hB (by (repeat (with_reducible first | exact grow_refl _ | exact BW.out | refine Grow.grow_drewN ?_ _ | refine Grow.grow_drew ?_))) HG1.out HW1.out HO1.out (show false = decide (X - Y < 0) by rw [decide_eq_false (by omega)])
    rw [← HW2.out] at e
    rw [hl] at p1
    clear hl hn HN
    clear HW1 HO1 HG1 KZ1 NT
    go_wp2
    go_ret
    exact ⟨rfl, e⟩
  · have hl : decide (0 < (dig (X - Y).natAbs).length) = true := decide_eq_true (by rw [dig_pos (by omega)]; simp)
    have e := op_end HZ.out hB (by (repeat (with_reducible first | exact grow_refl _ | exact BW.out | refine Grow.grow_drewN ?_ _ | refine Grow.grow_drew ?_))) HG1.out HW1.out HO1.out (show true = decide (X - Y < 0) by first | rw [decide_eq_false (by omega)] | rw [decide_eq_true (by omega)])
    rw [← HW2.out] at e
    clear HW1 HO1 HG1 KZ1 NT
    go_wp2
    go_ret
    exact ⟨rfl, e⟩
theorem Sub_walk (B : Nat) (w : World) (pz px py : Nat) (bz : Bool) (vz vx vy : Value) (X Y : Int) (hz : Zat B w pz bz vz) (hx : Rd w px X vx) (hy : Rd w py Y vy) (hB : B ≤ w.heap.size) (hX : X.natAbs < 340282366920938463463374607431768211456) (hY : Y.natAbs < 340282366920938463463374607431768211456) :
    Calls Tryz.prog 27 #[.pointer (some ⟨pz, 0, none⟩), .pointer (some ⟨px, 0, none⟩), .pointer (some ⟨py, 0, none⟩)] w fun e w' => e = .returned (.pointer (some ⟨pz, 0, none⟩)) ∧ IntAt B w' pz (X - Y) ∧ Below B w w' := by
  by_cases nx : X < 0 <;> by_cases ny : Y < 0
  · by_cases hle : Y.natAbs ≤ X.natAbs
    · exact Sub_cmpmmg B w pz px py bz vz vx vy X Y hz hx hy hB hX hY nx ny hle
    · exact Sub_cmpmml B w pz px py bz vz vx vy X Y hz hx hy hB hX hY nx ny (by omega)
  · exact Sub_samemp B w pz px py bz vz vx vy X Y hz hx hy hB hX hY nx ny
  · exact Sub_samepm B w pz px py bz vz vx vy X Y hz hx hy hB hX hY nx ny
  · by_cases hle : Y.natAbs ≤ X.natAbs
    · exact Sub_cmpppg B w pz px py bz vz vx vy X Y hz hx hy hB hX hY nx ny hle
    · exact Sub_cmpppl B w pz px py bz vz vx vy X Y hz hx hy hB hX hY nx ny (by omega)
set_option maxRecDepth 100000 in
set_option maxHeartbeats 16000000 in
theorem Add_samemm (B : Nat) (w : World) (pz px py : Nat) (bz : Bool) (vz vx vy : Value) (X Y : Int) (hz : Zat B w pz bz vz) (hx : Rd w px X vx) (hy : Rd w py Y vy) (hB : B ≤ w.heap.size) (hX : X.natAbs < 340282366920938463463374607431768211456) (hY : Y.natAbs < 340282366920938463463374607431768211456) (nx : X < 0) (ny : Y < 0) :
    Calls Tryz.prog 147 #[.pointer (some ⟨pz, 0, none⟩), .pointer (some ⟨px, 0, none⟩), .pointer (some ⟨py, 0, none⟩)] w fun e w' => e = .returned (.pointer (some ⟨pz, 0, none⟩)) ∧ IntAt B w' pz (X + Y) ∧ Below B w w' := by
  have HZ := Lib.hid hz
  have KX := Lib.hid hx.1
  have KY := Lib.hid hy.1
  have NT := Lib.hid (fun W (hW : Below w.heap.size w W) => addN_walk W vz vx vy X.natAbs Y.natAbs (hz.2.2.1.below hW) (hx.2.below hW) (hy.2.below hW) hX hY)
  have z1 := hz.2.1.cell 1
  have zl := hz.2.1.lt
  have x0 := KX.out.cell 0
  have x1 := KX.out.cell 1
  have xl := KX.out.lt
  have y0 := KY.out.cell 0
  have y1 := KY.out.cell 1
  have yl := KY.out.lt
  simp only [List.getElem?_toArray, List.getElem?_cons_zero, List.getElem?_cons_succ] at z1 x0 x1 y0 y1
  clear hz hx hy
  rw [decide_eq_true nx] at x0
  rw [decide_eq_true ny] at y0
  have HN := Lib.hid (show X.natAbs + Y.natAbs = (X + Y).natAbs by omega)
  rw [HN.out] at NT
  go_enter Tryz.func147, Tryz.ntmps147
  go_wp2
  go_quiet (fail)
  go_upto_region 3 with (fail)
  refine Grow.wp_region_plan (.quiet [0, 1, 2, 3, 5, 6, 7, 9, 10, 11] (.reads [4, 8, 12] (.tail [13, 14, 15, 16]))) (by kernel_rfl) (by kernel_rfl) (by kernel_rfl) (by kernel_rfl) ?_ ?_
  · intro c aa d v ww h
    first
      | exact Grow.bodyPost_blind h
      | (simp (config := {zetaDelta := true}) only [Exit.then, Exit.inBlock] at h ⊢; first | exact Grow.bodyPost_blind h | exact h)
  simp only [Grow.Plan.wp, Grow.pick, List.getElem?_cons_zero, List.getElem?_cons_succ, List.cons_append, List.nil_append]
  repeat (go_big_quiet_step (fail))
  refine wpQuiet_nil ?_
  repeat (go_big_quiet_step (fail))
  refine wpQuiet_nil ?_
  go_upto_region 8 with (go_at_call 65; go_loud ((with_reducible refine (NT.out _ (by (repeat (with_reducible first | exact grow_refl _ | exact BW.out | refine Grow.grow_drewN ?_ _ | refine Grow.grow_drew ?_)))).mono ?_); rintro e w1 ⟨v1, rfl, hw1, hg1, ho1⟩; obtain ⟨r1, c1, rfl⟩ := hw1.slice; have HW1 := Lib.hid hw1; have HO1 := Lib.hid ho1; have HG1 := Lib.hid hg1; have KZ1 := Lib.hid ((HZ.out.2.1.below (by (repeat (with_reducible first | exact grow_refl _ | exact BW.out | refine Grow.grow_drewN ?_ _ | refine Grow.grow_drew ?_)))).grown hg1 (fun e => (HZ.out.2.2.2 pz e.symm).2 rfl)); clear hw1 hg1 ho1 z1 zl x0 x1 xl y0 y1 yl; have p1 := KZ1.out.cell 1; have pl := KZ1.out.lt; have pf := KZ1.out.frozen 1; simp only [List.getElem?_toArray, List.getElem?_cons_zero, List.getElem?_cons_succ] at p1))
  refine seal_wp fun W2 hW2 => ?_
  have KP2 : Bx W2 pz #[.bool bz, .slice r1 (dig (X + Y).natAbs).length c1] := by rw [hW2.out]; exact KZ1.out.set 1 _
  have HW2 := Lib.hid hW2.out
  clear hW2 p1 pl pf
  have p0 := KP2.cell 0
  have p1 := KP2.cell 1
  have pl := KP2.lt
  have pf := KP2.frozen 0
  simp only [List.getElem?_toArray, List.getElem?_cons_zero, List.getElem?_cons_succ] at p0 p1
  clear KP2
  by_cases hn : (X + Y).natAbs = 0
  · have hl : (dig (X + Y).natAbs).length = 0 := by rw [hn, dig_zero]; rfl
    have e := op_end HZ.out hB (by (repeat (with_reducible first | exact grow_refl _ | exact BW.out | refine Grow.grow_drewN ?_ _ | refine Grow.grow_drew ?_))) HG1.out HW1.out HO1.out (show false = decide (X + Y < 0) by rw [decide_eq_false (by omega)])
    rw [← HW2.out] at e
    rw [hl] at p1
    clear hl hn HN
    clear HW1 HO1 HG1 KZ1 NT
    go_wp2
    go_ret
    exact ⟨rfl, e⟩
  · have hl : decide (0 < (dig (X + Y).natAbs).length) = true := decide_eq_true (by rw [dig_pos (by omega)]; simp)
    have e := op_end HZ.out hB (by (repeat (with_reducible first | exact grow_refl _ | exact BW.out | refine Grow.grow_drewN ?_ _ | refine Grow.grow_drew ?_))) HG1.out HW1.out HO1.out (show true = decide (X + Y < 0) by first | rw [decide_eq_false (by omega)] | rw [decide_eq_true (by omega)])
    rw [← HW2.out] at e
    clear HW1 HO1 HG1 KZ1 NT
    go_wp2
    go_ret
    exact ⟨rfl, e⟩
set_option maxRecDepth 100000 in
set_option maxHeartbeats 16000000 in
theorem Add_cmpmpg (B : Nat) (w : World) (pz px py : Nat) (bz : Bool) (vz vx vy : Value) (X Y : Int) (hz : Zat B w pz bz vz) (hx : Rd w px X vx) (hy : Rd w py Y vy) (hB : B ≤ w.heap.size) (hX : X.natAbs < 340282366920938463463374607431768211456) (hY : Y.natAbs < 340282366920938463463374607431768211456) (nx : X < 0) (ny : ¬ Y < 0) (hle : Y.natAbs ≤ X.natAbs) :
    Calls Tryz.prog 147 #[.pointer (some ⟨pz, 0, none⟩), .pointer (some ⟨px, 0, none⟩), .pointer (some ⟨py, 0, none⟩)] w fun e w' => e = .returned (.pointer (some ⟨pz, 0, none⟩)) ∧ IntAt B w' pz (X + Y) ∧ Below B w w' := by
  have HZ := Lib.hid hz
  have KX := Lib.hid hx.1
  have KY := Lib.hid hy.1
  have NT := Lib.hid (fun W (hW : Below w.heap.size w W) => subN_walk W vz vx vy X.natAbs Y.natAbs (hz.2.2.1.below hW) (hx.2.below hW) (hy.2.below hW) hX hle)
  have CM := Lib.hid (fun W (hW : Below w.heap.size w W) => cmp_walk W vx vy X.natAbs Y.natAbs (by have := dig_two hX; omega) (hx.2.below hW) (hy.2.below hW))
  have c0 : (0 : Int) ≤ cmpN X.natAbs Y.natAbs := by
    unfold cmpN
    rw [if_neg (by omega)]
    split <;> decide
  have z1 := hz.2.1.cell 1
  have zl := hz.2.1.lt
  have x0 := KX.out.cell 0
  have x1 := KX.out.cell 1
  have xl := KX.out.lt
  have y0 := KY.out.cell 0
  have y1 := KY.out.cell 1
  have yl := KY.out.lt
  simp only [List.getElem?_toArray, List.getElem?_cons_zero, List.getElem?_cons_succ] at z1 x0 x1 y0 y1
  clear hz hx hy
  rw [decide_eq_true nx] at x0
  rw [decide_eq_false ny] at y0
  have HN := Lib.hid (show X.natAbs - Y.natAbs = (X + Y).natAbs by omega)
  rw [HN.out] at NT
  generalize cmpN X.natAbs Y.natAbs = c at *
  go_enter Tryz.func147, Tryz.ntmps147
  go_wp2
  go_quiet (fail)
  go_upto_region 4 with (fail)
  refine Grow.wp_region_plan (.quiet [0, 1, 2, 4, 5, 6] (.reads [3, 7] (.tail [8, 9]))) (by kernel_rfl) (by kernel_rfl) (by kernel_rfl) (by kernel_rfl) ?_ ?_
  · intro c aa d v ww h
    first
      | exact Grow.bodyPost_blind h
      | (simp (config := {zetaDelta := true}) only [Exit.then, Exit.inBlock] at h ⊢; first | exact Grow.bodyPost_blind h | exact h)
  simp only [Grow.Plan.wp, Grow.pick, List.getElem?_cons_zero, List.getElem?_cons_succ, List.cons_append, List.nil_append]
  repeat (go_big_quiet_step (fail))
  refine wpQuiet_nil ?_
  repeat (go_big_quiet_step (fail))
  refine wpQuiet_nil ?_
  go_upto_region 5 with (go_at_call 66; go_loud ((with_reducible refine (CM.out _ (by (repeat (with_reducible first | exact grow_refl _ | refine Grow.grow_drewN ?_ _ | refine Grow.grow_drew ?_)))).mono ?_); rintro e w5 ⟨rfl, hb⟩; have BW := Lib.hid (grow_trans (by (repeat (with_reducible first | exact grow_refl _ | refine Grow.grow_drewN ?_ _ | refine Grow.grow_drew ?_))) hb : Below w.heap.size w w5); clear hb z1 zl x0 x1 xl y0 y1 yl; have KZ5 := HZ.out.2.1.below BW.out; have z1 := KZ5.cell 1; have zl := KZ5.lt; have KX5 := KX.out.below BW.out; have x1 := KX5.cell 1; have xl := KX5.lt; have KY5 := KY.out.below BW.out; have y1 := KY5.cell 1; have yl := KY5.lt; simp only [List.getElem?_toArray, List.getElem?_cons_zero, List.getElem?_cons_succ] at z1 x1 y1; clear KZ5 KX5 KY5))
  refine Grow.wp_region_plan (.quiet [0, 1, 2, 3, 5, 6, 7, 9, 10, 11] (.reads [4, 8, 12] (.tail [13, 14, 15, 16]))) (by kernel_rfl) (by kernel_rfl) (by kernel_rfl) (by kernel_rfl) ?_ ?_
  · intro c aa d v ww h
    first
      | exact Grow.bodyPost_blind h
      | (simp (config := {zetaDelta := true}) only [Exit.then, Exit.inBlock] at h ⊢; first | exact Grow.bodyPost_blind h | exact h)
  simp only [Grow.Plan.wp, Grow.pick, List.getElem?_cons_zero, List.getElem?_cons_succ, List.cons_append, List.nil_append]
  repeat (go_big_quiet_step (fail))
  refine wpQuiet_nil ?_
  repeat (go_big_quiet_step (fail))
  refine wpQuiet_nil ?_
  go_upto_region 8 with (go_at_call 67; go_loud ((with_reducible refine (NT.out _ (by (repeat (with_reducible first | exact grow_refl _ | exact BW.out | refine Grow.grow_drewN ?_ _ | refine Grow.grow_drew ?_)))).mono ?_); rintro e w1 ⟨v1, rfl, hw1, hg1, ho1⟩; obtain ⟨r1, c1, rfl⟩ := hw1.slice; have HW1 := Lib.hid hw1; have HO1 := Lib.hid ho1; have HG1 := Lib.hid hg1; have KZ1 := Lib.hid ((HZ.out.2.1.below (by (repeat (with_reducible first | exact grow_refl _ | exact BW.out | refine Grow.grow_drewN ?_ _ | refine Grow.grow_drew ?_)))).grown hg1 (fun e => (HZ.out.2.2.2 pz e.symm).2 rfl)); clear hw1 hg1 ho1 z1 zl x1 xl y1 yl; have p1 := KZ1.out.cell 1; have pl := KZ1.out.lt; have pf := KZ1.out.frozen 1; simp only [List.getElem?_toArray, List.getElem?_cons_zero, List.getElem?_cons_succ] at p1))
  refine seal_wp fun W2 hW2 => ?_
  have KP2 : Bx W2 pz #[.bool bz, .slice r1 (dig (X + Y).natAbs).length c1] := by rw [hW2.out]; exact KZ1.out.set 1 _
  have HW2 := Lib.hid hW2.out
  clear hW2 p1 pl pf
  have p0 := KP2.cell 0
  have p1 := KP2.cell 1
  have pl := KP2.lt
  have pf := KP2.frozen 0
  simp only [List.getElem?_toArray, List.getElem?_cons_zero, List.getElem?_cons_succ] at p0 p1
  clear KP2
  by_cases hn : (X + Y).natAbs = 0
  · have hl : (dig (X + Y).natAbs).length = 0 := by rw [hn, dig_zero]; rfl
    have e := op_end HZ.out hB (by (repeat (with_reducible first | exact grow_refl _ | exact BW.out | refine Grow.grow_drewN ?_ _ | refine Grow.grow_drew ?_))) HG1.out HW1.out HO1.out (show false = decide (X + Y < 0) by rw [decide_eq_false (by omega)])
    rw [← HW2.out] at e
    rw [hl] at p1
    clear hl hn HN
    clear HW1 HO1 HG1 KZ1 NT
    go_wp2
    go_ret
    exact ⟨rfl, e⟩
  · have hl : decide (0 < (dig (X + Y).natAbs).length) = true := decide_eq_true (by rw [dig_pos (by omega)]; simp)
    have e := op_end HZ.out hB (by (repeat (with_reducible first | exact grow_refl _ | exact BW.out | refine Grow.grow_drewN ?_ _ | refine Grow.grow_drew ?_))) HG1.out HW1.out HO1.out (show true = decide (X + Y < 0) by first | rw [decide_eq_false (by omega)] | rw [decide_eq_true (by omega)])
    rw [← HW2.out] at e
    clear HW1 HO1 HG1 KZ1 NT
    go_wp2
    go_ret
    exact ⟨rfl, e⟩
set_option maxRecDepth 100000 in
set_option maxHeartbeats 16000000 in
theorem Add_cmpmpl (B : Nat) (w : World) (pz px py : Nat) (bz : Bool) (vz vx vy : Value) (X Y : Int) (hz : Zat B w pz bz vz) (hx : Rd w px X vx) (hy : Rd w py Y vy) (hB : B ≤ w.heap.size) (hX : X.natAbs < 340282366920938463463374607431768211456) (hY : Y.natAbs < 340282366920938463463374607431768211456) (nx : X < 0) (ny : ¬ Y < 0) (hle : X.natAbs < Y.natAbs) :
    Calls Tryz.prog 147 #[.pointer (some ⟨pz, 0, none⟩), .pointer (some ⟨px, 0, none⟩), .pointer (some ⟨py, 0, none⟩)] w fun e w' => e = .returned (.pointer (some ⟨pz, 0, none⟩)) ∧ IntAt B w' pz (X + Y) ∧ Below B w w' := by
  have HZ := Lib.hid hz
  have KX := Lib.hid hx.1
  have KY := Lib.hid hy.1
  have NT := Lib.hid (fun W (hW : Below w.heap.size w W) => subN_walk W vz vy vx Y.natAbs X.natAbs (hz.2.2.1.below hW) (hy.2.below hW) (hx.2.below hW) hY (by omega))
  have CM := Lib.hid (fun W (hW : Below w.heap.size w W) => cmp_walk W vx vy X.natAbs Y.natAbs (by have := dig_two hX; omega) (hx.2.below hW) (hy.2.below hW))
  rw [cmpN_lt hle] at CM
  have z1 := hz.2.1.cell 1
  have zl := hz.2.1.lt
  have x0 := KX.out.cell 0
  have x1 := KX.out.cell 1
  have xl := KX.out.lt
  have y0 := KY.out.cell 0
  have y1 := KY.out.cell 1
  have yl := KY.out.lt
  simp only [List.getElem?_toArray, List.getElem?_cons_zero, List.getElem?_cons_succ] at z1 x0 x1 y0 y1
  clear hz hx hy
  rw [decide_eq_true nx] at x0
  rw [decide_eq_false ny] at y0
  have HN := Lib.hid (show Y.natAbs - X.natAbs = (X + Y).natAbs by omega)
  rw [HN.out] at NT
  go_enter Tryz.func147, Tryz.ntmps147
  go_wp2
  go_quiet (fail)
  go_upto_region 4 with (fail)
  refine Grow.wp_region_plan (.quiet [0, 1, 2, 4, 5, 6] (.reads [3, 7] (.tail [8, 9]))) (by kernel_rfl) (by kernel_rfl) (by kernel_rfl) (by kernel_rfl) ?_ ?_
  · intro c aa d v ww h
    first
      | exact Grow.bodyPost_blind h
      | (simp (config := {zetaDelta := true}) only [Exit.then, Exit.inBlock] at h ⊢; first | exact Grow.bodyPost_blind h | exact h)
  simp only [Grow.Plan.wp, Grow.pick, List.getElem?_cons_zero, List.getElem?_cons_succ, List.cons_append, List.nil_append]
  repeat (go_big_quiet_step (fail))
  refine wpQuiet_nil ?_
  repeat (go_big_quiet_step (fail))
  refine wpQuiet_nil ?_
  go_upto_region 7 with (go_at_call 66; go_loud ((with_reducible refine (CM.out _ (by (repeat (with_reducible first | exact grow_refl _ | refine Grow.grow_drewN ?_ _ | refine Grow.grow_drew ?_)))).mono ?_); rintro e w5 ⟨rfl, hb⟩; have BW := Lib.hid (grow_trans (by (repeat (with_reducible first | exact grow_refl _ | refine Grow.grow_drewN ?_ _ | refine Grow.grow_drew ?_))) hb : Below w.heap.size w w5); clear hb z1 zl x0 x1 xl y0 y1 yl; have KZ5 := HZ.out.2.1.below BW.out; have z1 := KZ5.cell 1; have zl := KZ5.lt; have KX5 := KX.out.below BW.out; have x1 := KX5.cell 1; have xl := KX5.lt; have KY5 := KY.out.below BW.out; have y1 := KY5.cell 1; have yl := KY5.lt; simp only [List.getElem?_toArray, List.getElem?_cons_zero, List.getElem?_cons_succ] at z1 x1 y1; clear KZ5 KX5 KY5))
  refine Grow.wp_region_plan (.quiet [0, 1, 2, 3, 5, 6, 7, 9, 10, 11] (.reads [4, 8, 12] (.tail [13, 14, 15, 16]))) (by kernel_rfl) (by kernel_rfl) (by kernel_rfl) (by kernel_rfl) ?_ ?_
  · intro c aa d v ww h
    first
      | exact Grow.bodyPost_blind h
      | (simp (config := {zetaDelta := true}) only [Exit.then, Exit.inBlock] at h ⊢; first | exact Grow.bodyPost_blind h | exact h)
  simp only [Grow.Plan.wp, Grow.pick, List.getElem?_cons_zero, List.getElem?_cons_succ, List.cons_append, List.nil_append]
  repeat (go_big_quiet_step (fail))
  refine wpQuiet_nil ?_
  repeat (go_big_quiet_step (fail))
  refine wpQuiet_nil ?_
  go_upto_region 8 with (go_at_call 67; go_loud ((with_reducible refine (NT.out _ (by (repeat (with_reducible first | exact grow_refl _ | exact BW.out | refine Grow.grow_drewN ?_ _ | refine Grow.grow_drew ?_)))).mono ?_); rintro e w1 ⟨v1, rfl, hw1, hg1, ho1⟩; obtain ⟨r1, c1, rfl⟩ := hw1.slice; have HW1 := Lib.hid hw1; have HO1 := Lib.hid ho1; have HG1 := Lib.hid hg1; have KZ1 := Lib.hid ((HZ.out.2.1.below (by (repeat (with_reducible first | exact grow_refl _ | exact BW.out | refine Grow.grow_drewN ?_ _ | refine Grow.grow_drew ?_)))).grown hg1 (fun e => (HZ.out.2.2.2 pz e.symm).2 rfl)); clear hw1 hg1 ho1 z1 zl x1 xl y1 yl; have p1 := KZ1.out.cell 1; have pl := KZ1.out.lt; have pf := KZ1.out.frozen 1; simp only [List.getElem?_toArray, List.getElem?_cons_zero, List.getElem?_cons_succ] at p1))
  refine seal_wp fun W2 hW2 => ?_
  have KP2 : Bx W2 pz #[.bool bz, .slice r1 (dig (X + Y).natAbs).length c1] := by rw [hW2.out]; exact KZ1.out.set 1 _
  have HW2 := Lib.hid hW2.out
  clear hW2 p1 pl pf
  have p0 := KP2.cell 0
  have p1 := KP2.cell 1
  have pl := KP2.lt
  have pf := KP2.frozen 0
  simp only [List.getElem?_toArray, List.getElem?_cons_zero, List.getElem?_cons_succ] at p0 p1
  clear KP2
  by_cases hn : (X + Y).natAbs = 0
  · have hl : (dig (X + Y).natAbs).length = 0 := by rw [hn, dig_zero]; rfl
    have e := op_end HZ.out hB (by (repeat (with_reducible first | exact grow_refl _ | exact BW.out | refine Grow.grow_drewN ?_ _ | refine Grow.grow_drew ?_))) HG1.out HW1.out HO1.out (show false = decide (X + Y < 0) by rw [decide_eq_false (by omega)])
    rw [← HW2.out] at e
    rw [hl] at p1
    clear hl hn HN
    clear HW1 HO1 HG1 KZ1 NT
    go_wp2
    go_ret
    exact ⟨rfl, e⟩
  · have hl : decide (0 < (dig (X + Y).natAbs).length) = true := decide_eq_true (by rw [dig_pos (by omega)]; simp)
    have e := op_end HZ.out hB (by (repeat (with_reducible first | exact grow_refl _ | exact BW.out | refine Grow.grow_drewN ?_ _ | refine Grow.grow_drew ?_))) HG1.out HW1.out HO1.out (show false = decide (X + Y < 0) by first | rw [decide_eq_false (by omega)] | rw [decide_eq_true (by omega)])
    rw [← HW2.out] at e
    clear HW1 HO1 HG1 KZ1 NT
    go_wp2
    go_ret
    exact ⟨rfl, e⟩
set_option maxRecDepth 100000 in
set_option maxHeartbeats 16000000 in
theorem Add_cmppmg (B : Nat) (w : World) (pz px py : Nat) (bz : Bool) (vz vx vy : Value) (X Y : Int) (hz : Zat B w pz bz vz) (hx : Rd w px X vx) (hy : Rd w py Y vy) (hB : B ≤ w.heap.size) (hX : X.natAbs < 340282366920938463463374607431768211456) (hY : Y.natAbs < 340282366920938463463374607431768211456) (nx : ¬ X < 0) (ny : Y < 0) (hle : Y.natAbs ≤ X.natAbs) :
    Calls Tryz.prog 147 #[.pointer (some ⟨pz, 0, none⟩), .pointer (some ⟨px, 0, none⟩), .pointer (some ⟨py, 0, none⟩)] w fun e w' => e = .returned (.pointer (some ⟨pz, 0, none⟩)) ∧ IntAt B w' pz (X + Y) ∧ Below B w w' := by
  have HZ := Lib.hid hz
  have KX := Lib.hid hx.1
  have KY := Lib.hid hy.1
  have NT := Lib.hid (fun W (hW : Below w.heap.size w W) => subN_walk W vz vx vy X.natAbs Y.natAbs (hz.2.2.1.below hW) (hx.2.below hW) (hy.2.below hW) hX hle)
  have CM := Lib.hid (fun W (hW : Below w.heap.size w W) => cmp_walk W vx vy X.natAbs Y.natAbs (by have := dig_two hX; omega) (hx.2.below hW) (hy.2.below hW))
  have c0 : (0 : Int) ≤ cmpN X.natAbs Y.natAbs := by
    unfold cmpN
    rw [if_neg (by omega)]
    split <;> decide
  have z1 := hz.2.1.cell 1
  have zl := hz.2.1.lt
  have x0 := KX.out.cell 0
  have x1 := KX.out.cell 1
  have xl := KX.out.lt
  have y0 := KY.out.cell 0
  have y1 := KY.out.cell 1
  have yl := KY.out.lt
  simp only [List.getElem?_toArray, List.getElem?_cons_zero, List.getElem?_cons_succ] at z1 x0 x1 y0 y1
  clear hz hx hy
  rw [decide_eq_false nx] at x0
  rw [decide_eq_true ny] at y0
  have HN := Lib.hid (show X.natAbs - Y.natAbs = (X + Y).natAbs by omega)
  rw [HN.out] at NT
  generalize cmpN X.natAbs Y.natAbs = c at *
  go_enter Tryz.func147, Tryz.ntmps147
  go_wp2
  go_quiet (fail)
  go_upto_region 4 with (fail)
  refine Grow.wp_region_plan (.quiet [0, 1, 2, 4, 5, 6] (.reads [3, 7] (.tail [8, 9]))) (by kernel_rfl) (by kernel_rfl) (by kernel_rfl) (by kernel_rfl) ?_ ?_
  · intro c aa d v ww h
    first
      | exact Grow.bodyPost_blind h
      | (simp (config := {zetaDelta := true}) only [Exit.then, Exit.inBlock] at h ⊢; first | exact Grow.bodyPost_blind h | exact h)
  simp only [Grow.Plan.wp, Grow.pick, List.getElem?_cons_zero, List.getElem?_cons_succ, List.cons_append, List.nil_append]
  repeat (go_big_quiet_step (fail))
  refine wpQuiet_nil ?_
  repeat (go_big_quiet_step (fail))
  refine wpQuiet_nil ?_
  go_upto_region 5 with (go_at_call 66; go_loud ((with_reducible refine (CM.out _ (by (repeat (with_reducible first | exact grow_refl _ | refine Grow.grow_drewN ?_ _ | refine Grow.grow_drew ?_)))).mono ?_); rintro e w5 ⟨rfl, hb⟩; have BW := Lib.hid (grow_trans (by (repeat (with_reducible first | exact grow_refl _ | refine Grow.grow_drewN ?_ _ | refine Grow.grow_drew ?_))) hb : Below w.heap.size w w5); clear hb z1 zl x0 x1 xl y0 y1 yl; have KZ5 := HZ.out.2.1.below BW.out; have z1 := KZ5.cell 1; have zl := KZ5.lt; have KX5 := KX.out.below BW.out; have x1 := KX5.cell 1; have xl := KX5.lt; have KY5 := KY.out.below BW.out; have y1 := KY5.cell 1; have yl := KY5.lt; simp only [List.getElem?_toArray, List.getElem?_cons_zero, List.getElem?_cons_succ] at z1 x1 y1; clear KZ5 KX5 KY5))
  refine Grow.wp_region_plan (.quiet [0, 1, 2, 3, 5, 6, 7, 9, 10, 11] (.reads [4, 8, 12] (.tail [13, 14, 15, 16]))) (by kernel_rfl) (by kernel_rfl) (by kernel_rfl) (by kernel_rfl) ?_ ?_
  · intro c aa d v ww h
    first
      | exact Grow.bodyPost_blind h
      | (simp (config := {zetaDelta := true}) only [Exit.then, Exit.inBlock] at h ⊢; first | exact Grow.bodyPost_blind h | exact h)
  simp only [Grow.Plan.wp, Grow.pick, List.getElem?_cons_zero, List.getElem?_cons_succ, List.cons_append, List.nil_append]
  repeat (go_big_quiet_step (fail))
  refine wpQuiet_nil ?_
  repeat (go_big_quiet_step (fail))
  refine wpQuiet_nil ?_
  go_upto_region 8 with (go_at_call 67; go_loud ((with_reducible refine (NT.out _ (by (repeat (with_reducible first | exact grow_refl _ | exact BW.out | refine Grow.grow_drewN ?_ _ | refine Grow.grow_drew ?_)))).mono ?_); rintro e w1 ⟨v1, rfl, hw1, hg1, ho1⟩; obtain ⟨r1, c1, rfl⟩ := hw1.slice; have HW1 := Lib.hid hw1; have HO1 := Lib.hid ho1; have HG1 := Lib.hid hg1; have KZ1 := Lib.hid ((HZ.out.2.1.below (by (repeat (with_reducible first | exact grow_refl _ | exact BW.out | refine Grow.grow_drewN ?_ _ | refine Grow.grow_drew ?_)))).grown hg1 (fun e => (HZ.out.2.2.2 pz e.symm).2 rfl)); clear hw1 hg1 ho1 z1 zl x1 xl y1 yl; have p1 := KZ1.out.cell 1; have pl := KZ1.out.lt; have pf := KZ1.out.frozen 1; simp only [List.getElem?_toArray, List.getElem?_cons_zero, List.getElem?_cons_succ] at p1))
  refine seal_wp fun W2 hW2 => ?_
  have KP2 : Bx W2 pz #[.bool bz, .slice r1 (dig (X + Y).natAbs).length c1] := by rw [hW2.out]; exact KZ1.out.set 1 _
  have HW2 := Lib.hid hW2.out
  clear hW2 p1 pl pf
  have p0 := KP2.cell 0
  have p1 := KP2.cell 1
  have pl := KP2.lt
  have pf := KP2.frozen 0
  simp only [List.getElem?_toArray, List.getElem?_cons_zero, List.getElem?_cons_succ] at p0 p1
  clear KP2
  by_cases hn : (X + Y).natAbs = 0
  · have hl : (dig (X + Y).natAbs).length = 0 := by rw [hn, dig_zero]; rfl
    have e := op_end HZ.out hB (by (repeat (with_reducible first | exact grow_refl _ | exact BW.out | refine Grow.grow_drewN ?_ _ | refine Grow.grow_drew ?_))) HG1.out HW1.out HO1.out (show false = decide (X + Y < 0) by rw [decide_eq_false (by omega)])
    rw [← HW2.out] at e
    rw [hl] at p1
    clear hl hn HN
    clear HW1 HO1 HG1 KZ1 NT
    go_wp2
    go_ret
    exact ⟨rfl, e⟩
  · have hl : decide (0 < (dig (X + Y).natAbs).length) = true := decide_eq_true (by rw [dig_pos (by omega)]; simp)
    have e := op_end HZ.out hB (by (repeat (with_reducible first | exact grow_refl _ | exact BW.out | refine Grow.grow_drewN ?_ _ | refine Grow.grow_drew ?_))) HG1.out HW1.out HO1.out (show false = decide (X + Y < 0) by first | rw [decide_eq_false (by omega)] | rw [decide_eq_true (by omega)])
    rw [← HW2.out] at e
    clear HW1 HO1 HG1 KZ1 NT
    go_wp2
    go_ret
    exact ⟨rfl, e⟩
set_option maxRecDepth 100000 in
set_option maxHeartbeats 16000000 in
theorem Add_cmppml (B : Nat) (w : World) (pz px py : Nat) (bz : Bool) (vz vx vy : Value) (X Y : Int) (hz : Zat B w pz bz vz) (hx : Rd w px X vx) (hy : Rd w py Y vy) (hB : B ≤ w.heap.size) (hX : X.natAbs < 340282366920938463463374607431768211456) (hY : Y.natAbs < 340282366920938463463374607431768211456) (nx : ¬ X < 0) (ny : Y < 0) (hle : X.natAbs < Y.natAbs) :
    Calls Tryz.prog 147 #[.pointer (some ⟨pz, 0, none⟩), .pointer (some ⟨px, 0, none⟩), .pointer (some ⟨py, 0, none⟩)] w fun e w' => e = .returned (.pointer (some ⟨pz, 0, none⟩)) ∧ IntAt B w' pz (X + Y) ∧ Below B w w' := by
  have HZ := Lib.hid hz
  have KX := Lib.hid hx.1
  have KY := Lib.hid hy.1
  have NT := Lib.hid (fun W (hW : Below w.heap.size w W) => subN_walk W vz vy vx Y.natAbs X.natAbs (hz.2.2.1.below hW) (hy.2.below hW) (hx.2.below hW) hY (by omega))
  have CM := Lib.hid (fun W (hW : Below w.heap.size w W) => cmp_walk W vx vy X.natAbs Y.natAbs (by have := dig_two hX; omega) (hx.2.below hW) (hy.2.below hW))
  rw [cmpN_lt hle] at CM
  have z1 := hz.2.1.cell 1
  have zl := hz.2.1.lt
  have x0 := KX.out.cell 0
  have x1 := KX.out.cell 1
  have xl := KX.out.lt
  have y0 := KY.out.cell 0
  have y1 := KY.out.cell 1
  have yl := KY.out.lt
  simp only [List.getElem?_toArray, List.getElem?_cons_zero, List.getElem?_cons_succ] at z1 x0 x1 y0 y1
  clear hz hx hy
  rw [decide_eq_false nx] at x0
  rw [decide_eq_true ny] at y0
  have HN := Lib.hid (show Y.natAbs - X.natAbs = (X + Y).natAbs by omega)
  rw [HN.out] at NT
  go_enter Tryz.func147, Tryz.ntmps147
  go_wp2
  go_quiet (fail)
  go_upto_region 4 with (fail)
  refine Grow.wp_region_plan (.quiet [0, 1, 2, 4, 5, 6] (.reads [3, 7] (.tail [8, 9]))) (by kernel_rfl) (by kernel_rfl) (by kernel_rfl) (by kernel_rfl) ?_ ?_
  · intro c aa d v ww h
    first
      | exact Grow.bodyPost_blind h
      | (simp (config := {zetaDelta := true}) only [Exit.then, Exit.inBlock] at h ⊢; first | exact Grow.bodyPost_blind h | exact h)
  simp only [Grow.Plan.wp, Grow.pick, List.getElem?_cons_zero, List.getElem?_cons_succ, List.cons_append, List.nil_append]
  repeat (go_big_quiet_step (fail))
  refine wpQuiet_nil ?_
  repeat (go_big_quiet_step (fail))
  refine wpQuiet_nil ?_
  go_upto_region 7 with (go_at_call 66; go_loud ((with_reducible refine (CM.out _ (by (repeat (with_reducible first | exact grow_refl _ | refine Grow.grow_drewN ?_ _ | refine Grow.grow_drew ?_)))).mono ?_); rintro e w5 ⟨rfl, hb⟩; have BW := Lib.hid (grow_trans (by (repeat (with_reducible first | exact grow_refl _ | refine Grow.grow_drewN ?_ _ | refine Grow.grow_drew ?_))) hb : Below w.heap.size w w5); clear hb z1 zl x0 x1 xl y0 y1 yl; have KZ5 := HZ.out.2.1.below BW.out; have z1 := KZ5.cell 1; have zl := KZ5.lt; have KX5 := KX.out.below BW.out; have x1 := KX5.cell 1; have xl := KX5.lt; have KY5 := KY.out.below BW.out; have y1 := KY5.cell 1; have yl := KY5.lt; simp only [List.getElem?_toArray, List.getElem?_cons_zero, List.getElem?_cons_succ] at z1 x1 y1; clear KZ5 KX5 KY5))
  refine Grow.wp_region_plan (.quiet [0, 1, 2, 3, 5, 6, 7, 9, 10, 11] (.reads [4, 8, 12] (.tail [13, 14, 15, 16]))) (by kernel_rfl) (by kernel_rfl) (by kernel_rfl) (by kernel_rfl) ?_ ?_
  · intro c aa d v ww h
    first
      | exact Grow.bodyPost_blind h
      | (simp (config := {zetaDelta := true}) only [Exit.then, Exit.inBlock] at h ⊢; first | exact Grow.bodyPost_blind h | exact h)
  simp only [Grow.Plan.wp, Grow.pick, List.getElem?_cons_zero, List.getElem?_cons_succ, List.cons_append, List.nil_append]
  repeat (go_big_quiet_step (fail))
  refine wpQuiet_nil ?_
  repeat (go_big_quiet_step (fail))
  refine wpQuiet_nil ?_
  go_upto_region 8 with (go_at_call 67; go_loud ((with_reducible refine (NT.out _ (by (repeat (with_reducible first | exact grow_refl _ | exact BW.out | refine Grow.grow_drewN ?_ _ | refine Grow.grow_drew ?_)))).mono ?_); rintro e w1 ⟨v1, rfl, hw1, hg1, ho1⟩; obtain ⟨r1, c1, rfl⟩ := hw1.slice; have HW1 := Lib.hid hw1; have HO1 := Lib.hid ho1; have HG1 := Lib.hid hg1; have KZ1 := Lib.hid ((HZ.out.2.1.below (by (repeat (with_reducible first | exact grow_refl _ | exact BW.out | refine Grow.grow_drewN ?_ _ | refine Grow.grow_drew ?_)))).grown hg1 (fun e => (HZ.out.2.2.2 pz e.symm).2 rfl)); clear hw1 hg1 ho1 z1 zl x1 xl y1 yl; have p1 := KZ1.out.cell 1; have pl := KZ1.out.lt; have pf := KZ1.out.frozen 1; simp only [List.getElem?_toArray, List.getElem?_cons_zero, List.getElem?_cons_succ] at p1))
  refine seal_wp fun W2 hW2 => ?_
  have KP2 : Bx W2 pz #[.bool bz, .slice r1 (dig (X + Y).natAbs).length c1] := by rw [hW2.out]; exact KZ1.out.set 1 _
  have HW2 := Lib.hid hW2.out
  clear hW2 p1 pl pf
  have p0 := KP2.cell 0
  have p1 := KP2.cell 1
  have pl := KP2.lt
  have pf := KP2.frozen 0
  simp only [List.getElem?_toArray, List.getElem?_cons_zero, List.getElem?_cons_succ] at p0 p1
  clear KP2
  by_cases hn : (X + Y).natAbs = 0
  · have hl : (dig (X + Y).natAbs).length = 0 := by rw [hn, dig_zero]; rfl
    have e := op_end HZ.out hB (by (repeat (with_reducible first | exact grow_refl _ | exact BW.out | refine Grow.grow_drewN ?_ _ | refine Grow.grow_drew ?_))) HG1.out HW1.out HO1.out (show false = decide (X + Y < 0) by rw [decide_eq_false (by omega)])
    rw [← HW2.out] at e
    rw [hl] at p1
    clear hl hn HN
    clear HW1 HO1 HG1 KZ1 NT
    go_wp2
    go_ret
    exact ⟨rfl, e⟩
  · have hl : decide (0 < (dig (X + Y).natAbs).length) = true := decide_eq_true (by rw [dig_pos (by omega)]; simp)
    have e := op_end HZ.out hB (by (repeat (with_reducible first | exact grow_refl _ | exact BW.out | refine Grow.grow_drewN ?_ _ | refine Grow.grow_drew ?_))) HG1.out HW1.out HO1.out (show true = decide (X + Y < 0) by first | rw [decide_eq_false (by omega)] | rw [decide_eq_true (by omega)])
    rw [← HW2.out] at e
    clear HW1 HO1 HG1 KZ1 NT
    go_wp2
    go_ret
    exact ⟨rfl, e⟩
set_option maxRecDepth 100000 in
set_option maxHeartbeats 16000000 in
theorem Add_samepp (B : Nat) (w : World) (pz px py : Nat) (bz : Bool) (vz vx vy : Value) (X Y : Int) (hz : Zat B w pz bz vz) (hx : Rd w px X vx) (hy : Rd w py Y vy) (hB : B ≤ w.heap.size) (hX : X.natAbs < 340282366920938463463374607431768211456) (hY : Y.natAbs < 340282366920938463463374607431768211456) (nx : ¬ X < 0) (ny : ¬ Y < 0) :
    Calls Tryz.prog 147 #[.pointer (some ⟨pz, 0, none⟩), .pointer (some ⟨px, 0, none⟩), .pointer (some ⟨py, 0, none⟩)] w fun e w' => e = .returned (.pointer (some ⟨pz, 0, none⟩)) ∧ IntAt B w' pz (X + Y) ∧ Below B w w' := by
  have HZ := Lib.hid hz
  have KX := Lib.hid hx.1
  have KY := Lib.hid hy.1
  have NT := Lib.hid (fun W (hW : Below w.heap.size w W) => addN_walk W vz vx vy X.natAbs Y.natAbs (hz.2.2.1.below hW) (hx.2.below hW) (hy.2.below hW) hX hY)
  have z1 := hz.2.1.cell 1
  have zl := hz.2.1.lt
  have x0 := KX.out.cell 0
  have x1 := KX.out.cell 1
  have xl := KX.out.lt
  have y0 := KY.out.cell 0
  have y1 := KY.out.cell 1
  have yl := KY.out.lt
  simp only [List.getElem?_toArray, List.getElem?_cons_zero, List.getElem?_cons_succ] at z1 x0 x1 y0 y1
  clear hz hx hy
  rw [decide_eq_false nx] at x0
  rw [decide_eq_false ny] at y0
  have HN := Lib.hid (show X.natAbs + Y.natAbs = (X + Y).natAbs by omega)
  rw [HN.out] at NT
  go_enter Tryz.func147, Tryz.ntmps147
  go_wp2
  go_quiet (fail)
  go_upto_region 3 with (fail)
  refine Grow.wp_region_plan (.quiet [0, 1, 2, 3, 5, 6, 7, 9, 10, 11] (.reads [4, 8, 12] (.tail [13, 14, 15, 16]))) (by kernel_rfl) (by kernel_rfl) (by kernel_rfl) (by kernel_rfl) ?_ ?_
  · intro c aa d v ww h
    first
      | exact Grow.bodyPost_blind h
      | (simp (config := {zetaDelta := true}) only [Exit.then, Exit.inBlock] at h ⊢; first | exact Grow.bodyPost_blind h | exact h)
  simp only [Grow.Plan.wp, Grow.pick, List.getElem?_cons_zero, List.getElem?_cons_succ, List.cons_append, List.nil_append]
  repeat (go_big_quiet_step (fail))
  refine wpQuiet_nil ?_
  repeat (go_big_quiet_step (fail))
  refine wpQuiet_nil ?_
  go_upto_region 8 with (go_at_call 65; go_loud ((with_reducible refine (NT.out _ (by (repeat (with_reducible first | exact grow_refl _ | exact BW.out | refine Grow.grow_drewN ?_ _ | refine Grow.grow_drew ?_)))).mono ?_); rintro e w1 ⟨v1, rfl, hw1, hg1, ho1⟩; obtain ⟨r1, c1, rfl⟩ := hw1.slice; have HW1 := Lib.hid hw1; have HO1 := Lib.hid ho1; have HG1 := Lib.hid hg1; have KZ1 := Lib.hid ((HZ.out.2.1.below (by (repeat (with_reducible first | exact grow_refl _ | exact BW.out | refine Grow.grow_drewN ?_ _ | refine Grow.grow_drew ?_)))).grown hg1 (fun e => (HZ.out.2.2.2 pz e.symm).2 rfl)); clear hw1 hg1 ho1 z1 zl x0 x1 xl y0 y1 yl; have p1 := KZ1.out.cell 1; have pl := KZ1.out.lt; have pf := KZ1.out.frozen 1; simp only [List.getElem?_toArray, List.getElem?_cons_zero, List.getElem?_cons_succ] at p1))
  refine seal_wp fun W2 hW2 => ?_
  have KP2 : Bx W2 pz #[.bool bz, .slice r1 (dig (X + Y).natAbs).length c1] := by rw [hW2.out]; exact KZ1.out.set 1 _
  have HW2 := Lib.hid hW2.out
  clear hW2 p1 pl pf
  have p0 := KP2.cell 0
  have p1 := KP2.cell 1
  have pl := KP2.lt
  have pf := KP2.frozen 0
  simp only [List.getElem?_toArray, List.getElem?_cons_zero, List.getElem?_cons_succ] at p0 p1
  clear KP2
  by_cases hn : (X + Y).natAbs = 0
  · have hl : (dig (X + Y).natAbs).length = 0 := by rw [hn, dig_zero]; rfl
    have e := op_end HZ.out hB (by (repeat (with_reducible first | exact grow_refl _ | exact BW.out | refine Grow.grow_drewN ?_ _ | refine Grow.grow_drew ?_))) HG1.out HW1.out HO1.out (show false = decide (X + Y < 0) by rw [decide_eq_false (by omega)])
    rw [← HW2.out] at e
    rw [hl] at p1
    clear hl hn HN
    clear HW1 HO1 HG1 KZ1 NT
    go_wp2
    go_ret
    exact ⟨rfl, e⟩
  · have hl : decide (0 < (dig (X + Y).natAbs).length) = true := decide_eq_true (by rw [dig_pos (by omega)]; simp)
    have e := op_end HZ.out hB (by (repeat (with_reducible first | exact grow_refl _ | exact BW.out | refine Grow.grow_drewN ?_ _ | refine Grow.grow_drew ?_))) HG1.out HW1.out HO1.out (show false = decide (X + Y < 0) by first | rw [decide_eq_false (by omega)] | rw [decide_eq_true (by omega)])
    rw [← HW2.out] at e
    clear HW1 HO1 HG1 KZ1 NT
    go_wp2
    go_ret
    exact ⟨rfl, e⟩
theorem Add_walk (B : Nat) (w : World) (pz px py : Nat) (bz : Bool) (vz vx vy : Value) (X Y : Int) (hz : Zat B w pz bz vz) (hx : Rd w px X vx) (hy : Rd w py Y vy) (hB : B ≤ w.heap.size) (hX : X.natAbs < 340282366920938463463374607431768211456) (hY : Y.natAbs < 340282366920938463463374607431768211456) :
    Calls Tryz.prog 147 #[.pointer (some ⟨pz, 0, none⟩), .pointer (some ⟨px, 0, none⟩), .pointer (some ⟨py, 0, none⟩)] w fun e w' => e = .returned (.pointer (some ⟨pz, 0, none⟩)) ∧ IntAt B w' pz (X + Y) ∧ Below B w w' := by
  by_cases nx : X < 0 <;> by_cases ny : Y < 0
  · exact Add_samemm B w pz px py bz vz vx vy X Y hz hx hy hB hX hY nx ny
  · by_cases hle : Y.natAbs ≤ X.natAbs
    · exact Add_cmpmpg B w pz px py bz vz vx vy X Y hz hx hy hB hX hY nx ny hle
    · exact Add_cmpmpl B w pz px py bz vz vx vy X Y hz hx hy hB hX hY nx ny (by omega)
  · by_cases hle : Y.natAbs ≤ X.natAbs
    · exact Add_cmppmg B w pz px py bz vz vx vy X Y hz hx hy hB hX hY nx ny hle
    · exact Add_cmppml B w pz px py bz vz vx vy X Y hz hx hy hB hX hY nx ny (by omega)
  · exact Add_samepp B w pz px py bz vz vx vy X Y hz hx hy hB hX hY nx ny
end Go.Proofs.YtlnbeildplafbaaGreatDoor
