/- Whole numbers of any size in memory: which is the greater. -/
import Derived.Test.YtlnbeildplafbaaGreatDoorBi8
set_option linter.unusedSimpArgs false
set_option linter.unusedVariables false
namespace Go.Proofs.YtlnbeildplafbaaGreatDoor
open Go.RowKit Go.Grow Go.Wd

set_option maxRecDepth 100000 in
set_option maxHeartbeats 16000000 in
theorem cmp_short (rx ry : Option Addr) (m n cx cy : Nat) (h : m < n) (w : World) :
    Calls Tryz.prog 66 #[.slice rx m cx, .slice ry n cy] w fun e w' => e = .returned (.int .i64 (-1)) ∧ Below w.heap.size w w' := by
  have q1 : ((m : Int) == (n : Int)) = false := by simp; omega
  have d1 : (m : Int) < (n : Int) := by omega
  go_enter Tryz.func66, Tryz.ntmps66
  go_wp2
  go_ret
  exact ⟨rfl, grow_refl _⟩
set_option maxRecDepth 100000 in
set_option maxHeartbeats 16000000 in
theorem cmp_long (rx ry : Option Addr) (m n cx cy : Nat) (h : n < m) (w : World) :
    Calls Tryz.prog 66 #[.slice rx m cx, .slice ry n cy] w fun e w' => e = .returned (.int .i64 1) ∧ Below w.heap.size w w' := by
  have q1 : ((m : Int) == (n : Int)) = false := by simp; omega
  have d1 : ¬ (m : Int) < (n : Int) := by omega
  have d2 : (n : Int) < (m : Int) := by omega
  go_enter Tryz.func66, Tryz.ntmps66
  go_wp2
  go_ret
  exact ⟨rfl, grow_refl _⟩
set_option maxRecDepth 100000 in
set_option maxHeartbeats 16000000 in
theorem cmp_none (rx ry : Option Addr) (cx cy : Nat) (w : World) :
    Calls Tryz.prog 66 #[.slice rx 0 cx, .slice ry 0 cy] w fun e w' => e = .returned (.int .i64 0) ∧ Below w.heap.size w w' := by
  go_enter Tryz.func66, Tryz.ntmps66
  go_wp2
  go_ret
  exact ⟨rfl, grow_refl _⟩
theorem cmpN_lt {a b : Nat} (h : a < b) : cmpN a b = -1 := by unfold cmpN; rw [if_pos h]
theorem cmpN_gt {a b : Nat} (h : b < a) : cmpN a b = 1 := by unfold cmpN; rw [if_neg (by omega), if_pos h]
theorem cmpN_eq (a : Nat) : cmpN a a = 0 := by unfold cmpN; rw [if_neg (by omega), if_neg (by omega)]
def CmpInv (x y : List Nat) (w : World) (v7 : Value) (wr : World) : Prop := ∃ i : Nat, i < x.length ∧ v7 = .int .i64 (i : Nat) ∧ x.drop (i + 1) = y.drop (i + 1) ∧ Below w.heap.size w wr
theorem drop_eq {x y : List Nat} {i : Nat} (hx : i < x.length) (hy : i < y.length) (h : x.drop (i + 1) = y.drop (i + 1)) (e : x.getD i 0 = y.getD i 0) : x.drop i = y.drop i := by
  rw [List.drop_eq_getElem_cons hx, List.drop_eq_getElem_cons hy, h]
  rw [getD_get hx, getD_get hy] at e
  rw [e]
set_option maxRecDepth 100000 in
set_option maxHeartbeats 16000000 in
theorem cmp_same (gx gy cx cy : Nat) (x y : List Nat) (hl : y.length = x.length) (h1 : 1 ≤ x.length) (sx : Small x) (sy : Small y) (w : World) (h5 : x.length ≤ 100000)
    (hx : ∀ j, j < x.length → w.cell? ⟨gx, j, none⟩ = some (.int .u64 (x.getD j 0 : Nat))) (hy : ∀ j, j < x.length → w.cell? ⟨gy, j, none⟩ = some (.int .u64 (y.getD j 0 : Nat))) :
    Calls Tryz.prog 66 #[.slice (some ⟨gx, 0, none⟩) x.length cx, .slice (some ⟨gy, 0, none⟩) x.length cy] w fun e w' => e = .returned (.int .i64 (cmpN (val x) (val y))) ∧ Below w.heap.size w w' := by
  have q1 : ((x.length : Int) == 0) = false := by simp; intro h; rw [h] at h1; simp at h1
  have HX := Lib.hid hx
  have HY := Lib.hid hy
  have HL := Lib.hid hl
  have ST := Lib.hid (show CmpInv x y w (.int .i64 ((x.length : Int) - 1)) w from ⟨x.length - 1, by omega, by congr 1; omega, by rw [List.drop_eq_nil_of_le (by omega), List.drop_eq_nil_of_le (by omega)], grow_refl _⟩)
  clear hx hy hl
  go_enter Tryz.func66, Tryz.ntmps66
  go_wp2
  go_loopw [7] (fun v7 wr => CmpInv x y w v7 wr) (fun i _ => (intOf i).toNat)
  case atStart => exact ST.out
  case round =>
    obtain ⟨i, hi, rfl, hd, hb⟩ := hrel
    have HD := Lib.hid hd
    have HB := Lib.hid hb
    clear hd hb ST
    have e0 := HX.out i hi
    have f0 := HY.out i hi
    have lx : gx < wr.heap.size := Nat.lt_of_lt_of_le (World.block_lt_of_cell? w _ e0) HB.out.size
    have ly : gy < wr.heap.size := Nat.lt_of_lt_of_le (World.block_lt_of_cell? w _ f0) HB.out.size
    have e1 : wr.cell? ⟨gx, i, none⟩ = some (.int .u64 (x.getD i 0 : Nat)) := (HB.out.cell (p := ⟨gx, i, none⟩) (World.block_lt_of_cell? w _ e0)).trans e0
    have f1 : wr.cell? ⟨gy, i, none⟩ = some (.int .u64 (y.getD i 0 : Nat)) := (HB.out.cell (p := ⟨gy, i, none⟩) (World.block_lt_of_cell? w _ f0)).trans f0
    have d0 : (0 : Int) ≤ (i : Int) := by omega
    have d1 : (i : Int) < (x.length : Int) := by omega
    have HXY := Lib.hid (drop_eq (x := x) (y := y) hi (by rw [HL.out]; exact hi) HD.out)
    have HLT := Lib.hid (fun h => lt_at sx hi (by rw [HL.out]; exact hi) HD.out h)
    have HGT := Lib.hid (fun h => lt_at sy (by rw [HL.out]; exact hi) hi HD.out.symm h)
    rw [← getD_get hi, ← getD_get (x := y) (by rw [HL.out]; exact hi)] at HLT HGT
    clear e0 f0
    generalize x.getD i 0 = xi at *
    generalize y.getD i 0 = yi at *
    by_cases hxy : xi = yi
    · subst hxy
      by_cases hi0 : i = 0
      · subst hi0
        go_wp2
        go_quiet (fail)
        go_wp2
        go_quiet (fail)
        go_wp2
        go_quiet (fail)
        go_wp2
        go_ret
        have he : x = y := by simpa using HXY.out (by first | rfl | trivial)
        exact ⟨by rw [he, cmpN_eq]; rfl, (by (repeat (with_reducible first | exact HB.out | refine Grow.grow_drewN ?_ _ | refine Grow.grow_drew ?_)))⟩
      · have d2 : (0 : Int) < (i : Int) := by omega
        have q2 : decide (0 < i) = true := decide_eq_true (by omega)
        go_wp2
        go_quiet (fail)
        go_wp2
        go_roundw
        case rel => exact ⟨i - 1, by omega, by go_num, by rw [show i - 1 + 1 = i by omega]; exact HXY.out (by first | rfl | trivial), (by (repeat (with_reducible first | exact HB.out | refine Grow.grow_drewN ?_ _ | refine Grow.grow_drew ?_)))⟩
        case measure => simp [intOf]; omega
    · have q3 : ((xi : Int) == (yi : Int)) = false := by simp; omega
      rcases Nat.lt_or_gt_of_ne hxy with hlt | hgt
      · have d4 : (xi : Int) < (yi : Int) := by omega
        have q4 : decide (xi < yi) = true := decide_eq_true hlt
        by_cases hi0 : i = 0
        · subst hi0
          go_wp2
          go_quiet (fail)
          go_wp2
          go_quiet (fail)
          go_wp2
          go_ret
          exact ⟨by rw [cmpN_lt (HLT.out hlt)]; rfl, (by (repeat (with_reducible first | exact HB.out | refine Grow.grow_drewN ?_ _ | refine Grow.grow_drew ?_)))⟩
        · have d2 : (0 : Int) < (i : Int) := by omega
          have q2 : decide (0 < i) = true := decide_eq_true (by omega)
          go_wp2
          go_quiet (fail)
          go_wp2
          go_quiet (fail)
          go_wp2
          go_ret
          exact ⟨by rw [cmpN_lt (HLT.out hlt)]; rfl, (by (repeat (with_reducible first | exact HB.out | refine Grow.grow_drewN ?_ _ | refine Grow.grow_drew ?_)))⟩
      · have d4 : ¬ (xi : Int) < (yi : Int) := by omega
        have q4 : decide (xi < yi) = false := decide_eq_false (by omega)
        have d5 : (yi : Int) < (xi : Int) := by omega
        have q5 : decide (yi < xi) = true := decide_eq_true hgt
        by_cases hi0 : i = 0
        · subst hi0
          go_wp2
          go_quiet (fail)
          go_wp2
          go_quiet (fail)
          go_wp2
          go_quiet (fail)
          go_wp2
          go_ret
          exact ⟨by rw [cmpN_gt (HGT.out hgt)]; rfl, (by (repeat (with_reducible first | exact HB.out | refine Grow.grow_drewN ?_ _ | refine Grow.grow_drew ?_)))⟩
        · have d2 : (0 : Int) < (i : Int) := by omega
          have q2 : decide (0 < i) = true := decide_eq_true (by omega)
          go_wp2
          go_quiet (fail)
          go_wp2
          go_quiet (fail)
          go_wp2
          go_quiet (fail)
          go_wp2
          go_ret
          exact ⟨by rw [cmpN_gt (HGT.out hgt)]; rfl, (by (repeat (with_reducible first | exact HB.out | refine Grow.grow_drewN ?_ _ | refine Grow.grow_drew ?_)))⟩
theorem Wds.cells {w : World} {v : Value} {l : List Nat} (h : Wds w v l) (hl : 0 < l.length) : ∃ g c, v = .slice (some ⟨g, 0, none⟩) l.length c ∧ ∀ j, j < l.length → w.cell? ⟨g, j, none⟩ = some (.int .u64 (l.getD j 0 : Nat)) := by
  rcases h with ⟨_, rfl⟩ | ⟨g, cap, cur, rfl, _, _, h4, _, h6⟩
  · exact absurd hl (by simp)
  · exact ⟨g, cap, rfl, fun j hj => by rw [h4.cell]; exact h6 j hj⟩
theorem cmp_walk (w : World) (vx vy : Value) (a b : Nat) (ha : (dig a).length ≤ 100000) (hx : Wds w vx (dig a)) (hy : Wds w vy (dig b)) :
    Calls Tryz.prog 66 #[vx, vy] w fun e w' => e = .returned (.int .i64 (cmpN a b)) ∧ Below w.heap.size w w' := by
  rcases Nat.lt_trichotomy (dig a).length (dig b).length with h | h | h
  · obtain ⟨r, c, rfl⟩ := hx.slice
    obtain ⟨r2, c2, rfl⟩ := hy.slice
    have hab := canon_lt (canon_dig a) (canon_dig b) h
    rw [val_dig, val_dig] at hab
    rw [cmpN_lt hab]
    exact cmp_short _ _ _ _ _ _ h w
  · rcases Nat.eq_zero_or_pos (dig a).length with h0 | h0
    · obtain ⟨r, c, rfl⟩ := hx.slice
      obtain ⟨r2, c2, rfl⟩ := hy.slice
      have ea : a = 0 := dig_eq_nil.1 (List.length_eq_zero_iff.1 h0)
      have eb : b = 0 := dig_eq_nil.1 (List.length_eq_zero_iff.1 (by omega))
      rw [ea, eb, cmpN_eq, dig_zero]
      exact cmp_none _ _ _ _ w
    · obtain ⟨g, c, rfl, k1⟩ := hx.cells h0
      obtain ⟨g2, c2, rfl, k2⟩ := hy.cells (by omega)
      have := cmp_same g g2 c c2 (dig a) (dig b) h.symm h0 (small_dig a) (small_dig b) w ha k1 (fun j hj => k2 j (by omega))
      rw [val_dig, val_dig] at this
      rw [← h]
      exact this
  · obtain ⟨r, c, rfl⟩ := hx.slice
    obtain ⟨r2, c2, rfl⟩ := hy.slice
    have hab := canon_lt (canon_dig b) (canon_dig a) h
    rw [val_dig, val_dig] at hab
    rw [cmpN_gt hab]
    exact cmp_long _ _ _ _ _ _ h w
def cmpI (a b : Int) : Int := if a < b then -1 else if b < a then 1 else 0
theorem cmpI_pos {a b : Int} (ha : ¬ a < 0) (hb : ¬ b < 0) : cmpN a.natAbs b.natAbs = cmpI a b := by
  unfold cmpN cmpI
  have h1 : (a.natAbs < b.natAbs) ↔ a < b := by omega
  have h2 : (b.natAbs < a.natAbs) ↔ b < a := by omega
  simp only [h1, h2]
theorem cmpI_neg {a b : Int} (ha : a < 0) (hb : b < 0) : -(cmpN a.natAbs b.natAbs) = cmpI a b := by
  unfold cmpN cmpI
  have h1 : (a.natAbs < b.natAbs) ↔ b < a := by omega
  have h2 : (b.natAbs < a.natAbs) ↔ a < b := by omega
  simp only [h1, h2]
  split <;> split <;> first | rfl | omega
theorem cmpN_range (a b : Nat) : cmpN a b = -1 ∨ cmpN a b = 0 ∨ cmpN a b = 1 := by unfold cmpN; split <;> (try split) <;> simp
set_option maxRecDepth 100000 in
set_option maxHeartbeats 16000000 in
theorem Cmp_walk (B1 B2 : Nat) (w : World) (p q : Nat) (a b : Int) (ha : (dig a.natAbs).length ≤ 100000) (h1 : IntAt B1 w p a) (h2 : IntAt B2 w q b) (hne : ¬ p = q) :
    Calls Tryz.prog 32 #[.pointer (some ⟨p, 0, none⟩), .pointer (some ⟨q, 0, none⟩)] w fun e w' => e = .returned (.int .i64 (cmpI a b)) ∧ Below w.heap.size w w' := by
  obtain ⟨_, v, kp, wp, _⟩ := h1
  obtain ⟨_, u, kq, wq, _⟩ := h2
  have CM := Lib.hid (fun X (hX : Below w.heap.size w X) => cmp_walk X v u a.natAbs b.natAbs ha (wp.below hX) (wq.below hX))
  have heq := ptr_other kp kq hne
  have p0 := kp.cell 0
  have p1 := kp.cell 1
  have pl := kp.lt
  have q0 := kq.cell 0
  have q1 := kq.cell 1
  have ql := kq.lt
  simp only [List.getElem?_toArray, List.getElem?_cons_zero, List.getElem?_cons_succ] at p0 p1 q0 q1
  have HR := Lib.hid (cmpN_range a.natAbs b.natAbs)
  clear wp wq kp kq
  by_cases na : a < 0 <;> by_cases nb : b < 0
  · rw [decide_eq_true na] at p0
    rw [decide_eq_true nb] at q0
    have HC := Lib.hid (cmpI_neg na nb)
    generalize cmpN a.natAbs b.natAbs = c at *
    go_enter Tryz.func32, Tryz.ntmps32
    go_wp2
    go_quiet (fail)
    go_upto_region 4 with (fail)
    refine Grow.wp_region_plan (.quiet [0, 1, 2, 4, 5, 6] (.reads [3, 7] (.tail [8, 9]))) (by kernel_rfl) (by kernel_rfl) (by kernel_rfl) (by kernel_rfl) ?_ ?_
    · intro c aa d v ww h
      first
        | exact Grow.bodyPost_blind h
        | (simp (config := {zetaDelta := true}) only [Exit.then, Exit.inBlock] at h ⊢; first | exact Grow.bodyPost_blind h | exact h)
    simp only [Grow.Plan.wp, Grow.pick, List.getElem?_cons_zero, List.getElem?_cons_succ, List.cons_append, List.nil_append]
    repeat (go_big_quiet_step (fail))
    refine wpQuiet_nil ?_
    repeat (go_big_quiet_step (fail))
    refine wpQuiet_nil ?_
    go_upto_region 5 with (go_at_call 66; ((with_reducible refine (CM.out _ (by (repeat (with_reducible first | exact grow_refl _ | refine Grow.grow_drewN ?_ _ | refine Grow.grow_drew ?_)))).mono ?_); rintro e w1 ⟨rfl, hb⟩; have HB := Lib.hid (grow_trans (by (repeat (with_reducible first | exact grow_refl _ | refine Grow.grow_drewN ?_ _ | refine Grow.grow_drew ?_))) hb : Below w.heap.size w w1); clear hb; have p0' := (HB.out.cell (p := ⟨p, 0, none⟩) pl).trans p0; have pl' := Nat.lt_of_lt_of_le pl HB.out.size; clear p0 p1 pl q0 q1 ql))
    have hw : wrap64 (-c) = -c := by have := HR.out; simp only [wrap64]; omega
    go_wp2
    go_ret
    refine ⟨?_, HB.out⟩
    rw [← HC.out]
    show Ending.returned (.int .i64 (wrap64 (-c))) = _
    rw [hw]
  · rw [decide_eq_true na] at p0
    rw [decide_eq_false nb] at q0
    go_enter Tryz.func32, Tryz.ntmps32
    go_wp2
    go_quiet (fail)
    go_wp2
    go_ret
    exact ⟨by unfold cmpI; rw [if_pos (by omega)]; rfl, (by (repeat (with_reducible first | exact grow_refl _ | refine Grow.grow_drewN ?_ _ | refine Grow.grow_drew ?_)))⟩
  · rw [decide_eq_false na] at p0
    rw [decide_eq_true nb] at q0
    go_enter Tryz.func32, Tryz.ntmps32
    go_wp2
    go_quiet (fail)
    go_wp2
    go_ret
    exact ⟨by unfold cmpI; rw [if_neg (by omega), if_pos (by omega)]; rfl, (by (repeat (with_reducible first | exact grow_refl _ | refine Grow.grow_drewN ?_ _ | refine Grow.grow_drew ?_)))⟩
  · rw [decide_eq_false na] at p0
    rw [decide_eq_false nb] at q0
    have HC := Lib.hid (cmpI_pos na nb)
    generalize cmpN a.natAbs b.natAbs = c at *
    go_enter Tryz.func32, Tryz.ntmps32
    go_wp2
    go_quiet (fail)
    go_upto_region 4 with (fail)
    refine Grow.wp_region_plan (.quiet [0, 1, 2, 4, 5, 6] (.reads [3, 7] (.tail [8, 9]))) (by kernel_rfl) (by kernel_rfl) (by kernel_rfl) (by kernel_rfl) ?_ ?_
    · intro c aa d v ww h
      first
        | exact Grow.bodyPost_blind h
        | (simp (config := {zetaDelta := true}) only [Exit.then, Exit.inBlock] at h ⊢; first | exact Grow.bodyPost_blind h | exact h)
    simp only [Grow.Plan.wp, Grow.pick, List.getElem?_cons_zero, List.getElem?_cons_succ, List.cons_append, List.nil_append]
    repeat (go_big_quiet_step (fail))
    refine wpQuiet_nil ?_
    repeat (go_big_quiet_step (fail))
    refine wpQuiet_nil ?_
    go_upto_region 5 with (go_at_call 66; ((with_reducible refine (CM.out _ (by (repeat (with_reducible first | exact grow_refl _ | refine Grow.grow_drewN ?_ _ | refine Grow.grow_drew ?_)))).mono ?_); rintro e w1 ⟨rfl, hb⟩; have HB := Lib.hid (grow_trans (by (repeat (with_reducible first | exact grow_refl _ | refine Grow.grow_drewN ?_ _ | refine Grow.grow_drew ?_))) hb : Below w.heap.size w w1); clear hb; have p0' := (HB.out.cell (p := ⟨p, 0, none⟩) pl).trans p0; have pl' := Nat.lt_of_lt_of_le pl HB.out.size; clear p0 p1 pl q0 q1 ql))
    go_wp2
    go_ret
    exact ⟨by rw [← HC.out]; rfl, HB.out⟩
end Go.Proofs.YtlnbeildplafbaaGreatDoor
