/- The walks of places and points. -/
import Derived.Test.YtdnclgpjcgamgaaS12
import Derived.Test.YtdnclgpjcgamgaaS6
import Derived.Test.YtdnclgpjcgamgaaKn
set_option linter.unusedSimpArgs false
set_option linter.unusedVariables false
namespace Go.Proofs.Ytdnclgpjcgamgaa
open Go.RowKit Go.Fl Go.Grow Go.Tr

theorem alloc66 (w : World) : (Instr.alloc 66 true (.tuple #[])).run Try.prog w = .ok (.pointer (some ⟨w.heap.size, 0, none⟩)) (w.alloc (.cells #[.int .i64 0, .int .i64 0] 66)) := by
  simp [go_sem]
/-- A place, and whether there is one. -/
def IsPl (X : (Int × Int) × Bool) (v : Value) : Prop := v = .tuple #[.agg #[.int .i64 X.1.1, .int .i64 X.1.2], .bool X.2]
/-- What the callees give. -/
def SpecT : FuncId → Array Value → Value → Prop
  | 71, ⟨[.int .i64 a]⟩, v => IsF (sinA a) v
  | 72, ⟨[.int .i64 a]⟩, v => IsF (cosA a) v
  | 59, ⟨[.float .f64 s]⟩, v => IsF (fsqrt (fl s)) v
  | 77, ⟨[.float .f64 y, .float .f64 x]⟩, v => IsA (fl y) (fl x) v
  | _, _, _ => False
theorem signed_walk (a : Int) (w : World) : Calls Try.prog 80 #[.int .i64 a] w (fun e w' => e = .returned (.int .i64 (sgd a)) ∧ w = w') := by
  obtain ⟨t1, t2⟩ := nrm_in a
  have NW := Lib.hid (norm_walk a w)
  have hs : sgd a = if 648000000000 < nrm a then nrm a - 1296000000000 else nrm a := rfl
  generalize nrm a = r at *
  by_cases h : 648000000000 < r
  · rw [if_pos h] at hs
    have HS := Lib.hid hs
    clear hs
    go_enter Try.func80, Try.ntmps80
    go_wp2_with (go_at_call 82; (with_reducible refine NW.out.mono ?_); rintro e w1 ⟨rfl, rfl⟩)
    go_ret
    exact ⟨by rw [HS.out]; rfl, rfl⟩
  · rw [if_neg h] at hs
    have HS := Lib.hid hs
    clear hs
    go_enter Try.func80, Try.ntmps80
    go_wp2_with (go_at_call 82; (with_reducible refine NW.out.mono ?_); rintro e w1 ⟨rfl, rfl⟩)
    go_ret
    exact ⟨by rw [HS.out]; rfl, rfl⟩
theorem signedOf_walk (a : Int) (w : World) : Calls Try.prog 52 #[.int .i64 a] w (fun e w' => e = .returned (.int .i64 (sgd a)) ∧ w = w') := by
  obtain ⟨t1, t2⟩ := nrm_in a
  have NW := Lib.hid (normOf_walk a w)
  have hs : sgd a = if 648000000000 < nrm a then nrm a - 1296000000000 else nrm a := rfl
  generalize nrm a = r at *
  by_cases h : 648000000000 < r
  · rw [if_pos h] at hs
    have HS := Lib.hid hs
    have h2 : 1296000000000 < 2 * r := by omega
    clear hs
    go_enter Try.func52, Try.ntmps52
    go_wp2_with (go_at_call 81; (with_reducible refine NW.out.mono ?_); rintro e w1 ⟨rfl, rfl⟩)
    go_ret
    exact ⟨by rw [HS.out]; rfl, rfl⟩
  · rw [if_neg h] at hs
    have HS := Lib.hid hs
    have h2 : ¬ (1296000000000 < 2 * r) := by omega
    clear hs
    go_enter Try.func52, Try.ntmps52
    go_wp2_with (go_at_call 81; (with_reducible refine NW.out.mono ?_); rintro e w1 ⟨rfl, rfl⟩)
    go_ret
    exact ⟨by rw [HS.out]; rfl, rfl⟩
theorem place_walk (x y : Int) (w : World) : Calls Try.prog 38 #[.agg #[.int .i64 x, .int .i64 y]] w (Post (fun v => v = .agg #[.int .i64 x, .int .i64 y]) w) := by
  go_enter Try.func38, Try.ntmps38
  go_wp2
  apply bodyPost_ret
  · simp [results, Try.results38, go_sem, *]; rfl
  · rfl
  · exact Post.mk rfl (by (repeat (with_reducible first
      | exact Grow.grow_refl _
      | refine Grow.grow_setCell ?_ ?_ _
      | refine Grow.grow_alloc ?_ _
      | refine Grow.grow_drewN ?_ _
      | refine Grow.grow_over ?_ _
      | refine Grow.grow_via (by assumption) ?_)) <;> omega)

set_option maxRecDepth 10000 in
set_option maxHeartbeats 4000000 in
theorem point_walk (x y : Int) (w : World) : Calls Try.prog 46 #[.agg #[.int .i64 x, .int .i64 y]] w (Post (IsV (pnt x y)) w) := by
  have s0 := trivial
  go_enter Try.func46, Try.ntmps46
  go_wp2_with (first
    | (refine wpList_arith rfl rfl (by rfl) rfl rfl ?_; intro b1 n1 H1)
    | (clear s0
       go_at_call 72
       refine Grow.seal_calls ?_
       intro W hW
       have HG : Hid (Below w.heap.size w W) := Lib.hid (by rw [hW.out]; (repeat (with_reducible first | exact Grow.grow_refl _ | refine Grow.grow_setCell ?_ ?_ _ | refine Grow.grow_alloc ?_ _ | refine Grow.grow_drewN ?_ _ | refine Grow.grow_over ?_ _ | refine Grow.grow_via (by assumption) ?_)) <;> omega)
       have HZ : w.heap.size ≤ W.heap.size := Below.size HG.out
       apply Grow.have_known (W := W)
       · rw [hW.out]; exact (Known.new _ _ _).alloc _
       intro q1
       (try simp only [World.size_alloc] at q1)
       apply Grow.have_known (W := W)
       · rw [hW.out]; exact Known.new _ _ _
       intro q2
       (try simp only [World.size_alloc] at q2)
       clear hW
       refine (cos_walk _ _).mono ?_
       rintro e w1 hp
       obtain ⟨v, rfl, hp, hB⟩ := hp
       obtain ⟨b, rfl, hb⟩ := hp
       have H := Lib.hid hb; clear hb
       replace q1 := q1.below hB
       replace q2 := q2.below hB
       replace HG : Hid (Below w.heap.size w w1) := Lib.hid (Grow.grow_trans HG.out hB)
       replace HZ : w.heap.size ≤ w1.heap.size := Below.size HG.out
       clear hB
       have c1 := q1.cell; have f1 := q1.frozen; have l1 := q1.lt
       have c2 := q2.cell; have f2 := q2.frozen; have l2 := q2.lt
       have s1 := trivial))
  refine Rel.wp_region_rel_tail SpecT 14 (by kernel_rfl) (lexTailB_of_fast (by kernel_rfl) (by kernel_rfl) (by kernel_rfl)) ?_
  simp only [List.append_eq, List.cons_append, List.nil_append, List.take_succ_cons, List.take_zero, List.drop_succ_cons, List.drop_zero]
  repeat (first
    | (refine rel_arith (by rfl) rfl (by rfl) rfl rfl ?_; intro b1 H1; simp only [Act.put, List.setIfInBounds_toArray, List.set_cons_zero, List.set_cons_succ])
    | (refine rel_call (f := 71) (args := #[.int .i64 _]) (by rfl) rfl (callAt_func rfl Try.func71 (by kernel_rfl) (by kernel_rfl) rfl) (keeps_over (fun v h => h) fun x => sin_walk _ _) ?_; rintro _ ⟨b, rfl, hb⟩; have H := Lib.hid hb; clear hb; simp only [Act.put, List.setIfInBounds_toArray, List.set_cons_zero, List.set_cons_succ])
    | (refine rel_call (f := 72) (args := #[.int .i64 _]) (by rfl) rfl (callAt_func rfl Try.func72 (by kernel_rfl) (by kernel_rfl) rfl) (keeps_over (fun v h => h) fun x => cos_walk _ _) ?_; rintro _ ⟨b, rfl, hb⟩; have H := Lib.hid hb; clear hb; simp only [Act.put, List.setIfInBounds_toArray, List.set_cons_zero, List.set_cons_succ])
    | (refine rel_plain (by rfl) rfl ?_; intro K hK; go_big_quiet_op; go_big_quiet_on)
    | (refine rel_skip (by rfl) ?_; simp only [Act.put, List.setIfInBounds_toArray, List.set_cons_zero, List.set_cons_succ]))
  refine Rel.wpRel_nil ?_
  intro w9 hB9 hG9
  clear c1 f1 c2 f2
  replace q1 := q1.below hB9
  replace q2 := q2.below hB9
  clear hG9
  replace HG : Hid (Below w.heap.size w w9) := Lib.hid (Grow.grow_trans HG.out hB9)
  replace HZ : w.heap.size ≤ w9.heap.size := Below.size HG.out
  clear hB9
  have c1 := q1.cell
  have f1 := q1.frozen
  have l1 := q1.lt
  have c2 := q2.cell
  have f2 := q2.frozen
  have l2 := q2.lt
  go_wp2
  apply bodyPost_ret
  · simp [results, Try.results46, go_sem, *]; rfl
  · rfl
  · refine Post.mk ⟨_, _, _, rfl, ?_⟩ ?_
    · simp only [Hid, fop] at *
      simp only [pnt, *]
      exact ⟨trivial, trivial, trivial⟩
    · (repeat (with_reducible first
        | exact Grow.grow_refl _
        | refine Grow.grow_setCell ?_ ?_ _
        | refine Grow.grow_alloc ?_ _
        | refine Grow.grow_drewN ?_ _
        | refine Grow.grow_over ?_ _
        | refine Grow.grow_via (by assumption) ?_)) <;> omega

set_option maxRecDepth 10000 in
set_option maxHeartbeats 4000000 in
theorem pointOf_walk (x y : Int) (w : World) : Calls Try.prog 47 #[.agg #[.int .i64 x, .int .i64 y]] w (Post (IsV (pnt x y)) w) := by
  have s0 := trivial
  go_enter Try.func47, Try.ntmps47
  go_wp2_with (first
    | (refine wpList_arith rfl rfl (by rfl) rfl rfl ?_; intro b1 n1 H1)
    | (clear s0
       go_at_call 73
       refine Grow.seal_calls ?_
       intro W hW
       have HG : Hid (Below w.heap.size w W) := Lib.hid (by rw [hW.out]; (repeat (with_reducible first | exact Grow.grow_refl _ | refine Grow.grow_setCell ?_ ?_ _ | refine Grow.grow_alloc ?_ _ | refine Grow.grow_drewN ?_ _ | refine Grow.grow_over ?_ _ | refine Grow.grow_via (by assumption) ?_)) <;> omega)
       have HZ : w.heap.size ≤ W.heap.size := Below.size HG.out
       apply Grow.have_known (W := W)
       · rw [hW.out]; exact (Known.new _ _ _).alloc _
       intro q1
       (try simp only [World.size_alloc] at q1)
       apply Grow.have_known (W := W)
       · rw [hW.out]; exact Known.new _ _ _
       intro q2
       (try simp only [World.size_alloc] at q2)
       clear hW
       refine (sinCos_walk _ _).mono ?_
       rintro e w1 hp
       obtain ⟨v, rfl, hp, hB⟩ := hp
       obtain ⟨b1, b2, rfl, g1, g2⟩ := hp
       have G1 := Lib.hid g1; have G2 := Lib.hid g2; clear g1 g2
       replace q1 := q1.below hB
       replace q2 := q2.below hB
       replace HG : Hid (Below w.heap.size w w1) := Lib.hid (Grow.grow_trans HG.out hB)
       replace HZ : w.heap.size ≤ w1.heap.size := Below.size HG.out
       clear hB
       have c1 := q1.cell; have f1 := q1.frozen; have l1 := q1.lt
       have c2 := q2.cell; have f2 := q2.frozen; have l2 := q2.lt
       have s1 := trivial)
    | (clear s1
       go_at_call 73
       refine Grow.seal_calls ?_
       intro W hW
       have HG2 : Hid (Below w.heap.size w W) := Lib.hid (by rw [hW.out]; (repeat (with_reducible first | exact Grow.grow_refl _ | refine Grow.grow_setCell ?_ ?_ _ | refine Grow.grow_alloc ?_ _ | refine Grow.grow_drewN ?_ _ | refine Grow.grow_over ?_ _ | refine Grow.grow_via (by assumption) ?_)) <;> omega)
       clear HG
       have HG := HG2
       clear HG2
       clear c1 f1 c2 f2
       apply Grow.have_known (W := W)
       · rw [hW.out]; apply Known.at q1; (repeat (with_reducible first | exact q1 | apply Known.same | apply Known.other | apply Known.alloc | apply Known.drewN)) <;> omega
       clear q1
       intro q1
       (try simp only [List.setIfInBounds_toArray, List.set_cons_zero, List.set_cons_succ] at q1)
       apply Grow.have_known (W := W)
       · rw [hW.out]; apply Known.at q2; (repeat (with_reducible first | exact q2 | apply Known.same | apply Known.other | apply Known.alloc | apply Known.drewN)) <;> omega
       clear q2
       intro q2
       (try simp only [List.setIfInBounds_toArray, List.set_cons_zero, List.set_cons_succ] at q2)
       replace HZ : w.heap.size ≤ W.heap.size := Below.size HG.out
       clear hW
       refine (sinCos_walk _ _).mono ?_
       rintro e w1 hp
       obtain ⟨v, rfl, hp, hB⟩ := hp
       obtain ⟨b1, b2, rfl, g1, g2⟩ := hp
       have G1 := Lib.hid g1; have G2 := Lib.hid g2; clear g1 g2
       replace q1 := q1.below hB
       replace q2 := q2.below hB
       replace HG : Hid (Below w.heap.size w w1) := Lib.hid (Grow.grow_trans HG.out hB)
       replace HZ : w.heap.size ≤ w1.heap.size := Below.size HG.out
       clear hB
       have c1 := q1.cell; have f1 := q1.frozen; have l1 := q1.lt
       have c2 := q2.cell; have f2 := q2.frozen; have l2 := q2.lt
       have s2 := trivial))
  apply bodyPost_ret
  · simp [results, Try.results47, go_sem, *]; rfl
  · rfl
  · refine Post.mk ⟨_, _, _, rfl, ?_⟩ ?_
    · simp only [Hid, fop] at *
      simp only [pnt, *]
      exact ⟨trivial, trivial, trivial⟩
    · (repeat (with_reducible first
        | exact Grow.grow_refl _
        | refine Grow.grow_setCell ?_ ?_ _
        | refine Grow.grow_alloc ?_ _
        | refine Grow.grow_drewN ?_ _
        | refine Grow.grow_over ?_ _
        | refine Grow.grow_via (by assumption) ?_)) <;> omega

theorem eqF (p : Nat) (w : World) : (Op.equalIn 9999 22 (.float .f64 p) (.float .f64 0)).run Try.prog w = .ok (FloatKind.f64.format.order p 0 == some .eq) w := by kernel_rfl
theorem eql3 (p1 p2 p3 : Nat) (w : World) : (binOp .eql 41 (.agg #[.float .f64 p1, .float .f64 p2, .float .f64 p3]) (.agg #[.float .f64 0, .float .f64 0, .float .f64 0])).run Try.prog w = .ok (.bool (feq (fl p1) (some 0) && feq (fl p2) (some 0) && feq (fl p3) (some 0))) w := by
  have e : ∀ p, feq (fl p) (some 0) = (FloatKind.f64.format.order p 0 == some .eq) := fun p => by
    unfold feq
    rw [← fl_zero, ← order_fl]
    rfl
  rw [e, e, e]
  simp [go_sem, eqF]
  by_cases h1 : FloatKind.f64.format.order p1 0 = some Ordering.eq <;> by_cases h2 : FloatKind.f64.format.order p2 0 = some Ordering.eq <;> by_cases h3 : FloatKind.f64.format.order p3 0 = some Ordering.eq <;> simp [h1, h2, h3]

set_option maxRecDepth 100000 in
set_option maxHeartbeats 4000000 in
theorem where_1 (p1 p2 p3 : Nat) (hx : Tr.fin (fl p1) = false) (w : World) : Calls Try.prog 48 #[.agg #[.float .f64 p1, .float .f64 p2, .float .f64 p3]] w (Post (IsPl (plc ⟨fl p1, fl p2, fl p3⟩)) w) := by
  have HP := Lib.hid (plc_1 (v := ⟨fl p1, fl p2, fl p3⟩) hx)
  have HX : Hid (fin (fl p1) = _) := Lib.hid hx
  clear hx
  have s0 := trivial
  go_enter Try.func48, Try.ntmps48
  go_wp2_with (first
    | (clear s0; go_at_call 61; refine (finite_walk _ _).mono ?_; rintro e w2 ⟨v, rfl, hv, n1, rfl⟩; rw [HX.out] at hv; subst hv; have s1 := trivial))
  apply bodyPost_ret
  · simp [results, Try.results48, go_sem, *]; rfl
  · rfl
  · refine Post.mk ?_ ?_
    · unfold IsPl
      rw [HP.out]
      (try rfl)
    · (repeat (with_reducible first
        | exact Grow.grow_refl _
        | refine Grow.grow_setCell ?_ ?_ _
        | refine Grow.grow_alloc ?_ _
        | refine Grow.grow_drewN ?_ _
        | refine Grow.grow_over ?_ _
        | refine Grow.grow_via (by assumption) ?_)) <;> omega

set_option maxRecDepth 100000 in
set_option maxHeartbeats 4000000 in
theorem where_2 (p1 p2 p3 : Nat) (hx : Tr.fin (fl p1) = true) (hy : Tr.fin (fl p2) = false) (w : World) : Calls Try.prog 48 #[.agg #[.float .f64 p1, .float .f64 p2, .float .f64 p3]] w (Post (IsPl (plc ⟨fl p1, fl p2, fl p3⟩)) w) := by
  have HP := Lib.hid (plc_2 (v := ⟨fl p1, fl p2, fl p3⟩) hy)
  have HX : Hid (fin (fl p1) = _) := Lib.hid hx
  have HY : Hid (fin (fl p2) = _) := Lib.hid hy
  clear hx hy
  have s0 := trivial
  go_enter Try.func48, Try.ntmps48
  go_wp2_with (first
    | (clear s0; go_at_call 61; refine (finite_walk _ _).mono ?_; rintro e w2 ⟨v, rfl, hv, n1, rfl⟩; rw [HX.out] at hv; subst hv; have s1 := trivial)
    | (clear s1; go_at_call 61; refine (finite_walk _ _).mono ?_; rintro e w2 ⟨v, rfl, hv, n2, rfl⟩; rw [HY.out] at hv; subst hv; have s2 := trivial))
  apply bodyPost_ret
  · simp [results, Try.results48, go_sem, *]; rfl
  · rfl
  · refine Post.mk ?_ ?_
    · unfold IsPl
      rw [HP.out]
      (try rfl)
    · (repeat (with_reducible first
        | exact Grow.grow_refl _
        | refine Grow.grow_setCell ?_ ?_ _
        | refine Grow.grow_alloc ?_ _
        | refine Grow.grow_drewN ?_ _
        | refine Grow.grow_over ?_ _
        | refine Grow.grow_via (by assumption) ?_)) <;> omega

set_option maxRecDepth 100000 in
set_option maxHeartbeats 4000000 in
theorem where_3 (p1 p2 p3 : Nat) (hx : Tr.fin (fl p1) = true) (hy : Tr.fin (fl p2) = true) (hz : Tr.fin (fl p3) = false) (w : World) : Calls Try.prog 48 #[.agg #[.float .f64 p1, .float .f64 p2, .float .f64 p3]] w (Post (IsPl (plc ⟨fl p1, fl p2, fl p3⟩)) w) := by
  have HP := Lib.hid (plc_3 (v := ⟨fl p1, fl p2, fl p3⟩) hz)
  have HX : Hid (fin (fl p1) = _) := Lib.hid hx
  have HY : Hid (fin (fl p2) = _) := Lib.hid hy
  have HZZ : Hid (fin (fl p3) = _) := Lib.hid hz
  clear hx hy hz
  have s0 := trivial
  go_enter Try.func48, Try.ntmps48
  go_wp2_with (first
    | (clear s0; go_at_call 61; refine (finite_walk _ _).mono ?_; rintro e w2 ⟨v, rfl, hv, n1, rfl⟩; rw [HX.out] at hv; subst hv; have s1 := trivial)
    | (clear s1; go_at_call 61; refine (finite_walk _ _).mono ?_; rintro e w2 ⟨v, rfl, hv, n2, rfl⟩; rw [HY.out] at hv; subst hv; have s2 := trivial)
    | (clear s2; go_at_call 61; refine (finite_walk _ _).mono ?_; rintro e w2 ⟨v, rfl, hv, n3, rfl⟩; rw [HZZ.out] at hv; subst hv; have s3 := trivial))
  apply bodyPost_ret
  · simp [results, Try.results48, go_sem, *]; rfl
  · rfl
  · refine Post.mk ?_ ?_
    · unfold IsPl
      rw [HP.out]
      (try rfl)
    · (repeat (with_reducible first
        | exact Grow.grow_refl _
        | refine Grow.grow_setCell ?_ ?_ _
        | refine Grow.grow_alloc ?_ _
        | refine Grow.grow_drewN ?_ _
        | refine Grow.grow_over ?_ _
        | refine Grow.grow_via (by assumption) ?_)) <;> omega

set_option maxRecDepth 100000 in
set_option maxHeartbeats 4000000 in
theorem where_4 (p1 p2 p3 : Nat) (hx : Tr.fin (fl p1) = true) (hy : Tr.fin (fl p2) = true) (hz : Tr.fin (fl p3) = true) (h0 : (feq (fl p1) (some 0) && feq (fl p2) (some 0) && feq (fl p3) (some 0)) = true) (w : World) : Calls Try.prog 48 #[.agg #[.float .f64 p1, .float .f64 p2, .float .f64 p3]] w (Post (IsPl (plc ⟨fl p1, fl p2, fl p3⟩)) w) := by
  have h0' := h0
  simp only [Bool.and_eq_true] at h0'
  have HP := Lib.hid (plc_zero h0'.1.1 h0'.1.2 h0'.2)
  have hE := eql3 p1 p2 p3
  rw [h0] at hE
  clear h0 h0'
  have HX : Hid (fin (fl p1) = _) := Lib.hid hx
  have HY : Hid (fin (fl p2) = _) := Lib.hid hy
  have HZZ : Hid (fin (fl p3) = _) := Lib.hid hz
  clear hx hy hz
  have s0 := trivial
  go_enter Try.func48, Try.ntmps48
  go_wp2_with (first
    | (clear s0; go_at_call 61; refine (finite_walk _ _).mono ?_; rintro e w2 ⟨v, rfl, hv, n1, rfl⟩; rw [HX.out] at hv; subst hv; have s1 := trivial)
    | (clear s1; go_at_call 61; refine (finite_walk _ _).mono ?_; rintro e w2 ⟨v, rfl, hv, n2, rfl⟩; rw [HY.out] at hv; subst hv; have s2 := trivial)
    | (clear s2; go_at_call 61; refine (finite_walk _ _).mono ?_; rintro e w2 ⟨v, rfl, hv, n3, rfl⟩; rw [HZZ.out] at hv; subst hv; have s3 := trivial))
  apply bodyPost_ret
  · simp [results, Try.results48, go_sem, *]; rfl
  · rfl
  · refine Post.mk ?_ ?_
    · unfold IsPl
      rw [HP.out]
      (try rfl)
    · (repeat (with_reducible first
        | exact Grow.grow_refl _
        | refine Grow.grow_setCell ?_ ?_ _
        | refine Grow.grow_alloc ?_ _
        | refine Grow.grow_drewN ?_ _
        | refine Grow.grow_over ?_ _
        | refine Grow.grow_via (by assumption) ?_)) <;> omega

set_option maxRecDepth 100000 in
set_option maxHeartbeats 4000000 in
theorem where_5t (p1 p2 p3 : Nat) (hx : Tr.fin (fl p1) = true) (hy : Tr.fin (fl p2) = true) (hz : Tr.fin (fl p3) = true) (h0 : (feq (fl p1) (some 0) && feq (fl p2) (some 0) && feq (fl p3) (some 0)) = false) (hk : (ang (fl p3) (rad ⟨fl p1, fl p2, fl p3⟩)).2 = true) (w : World) : Calls Try.prog 48 #[.agg #[.float .f64 p1, .float .f64 p2, .float .f64 p3]] w (Post (IsPl (plc ⟨fl p1, fl p2, fl p3⟩)) w) := by
  have HP := Lib.hid (plc_ok (v := ⟨fl p1, fl p2, fl p3⟩) hx hy hz hk)
  have HK := Lib.hid hk
  have hE := eql3 p1 p2 p3
  rw [h0] at hE
  clear h0 hk
  have HX : Hid (fin (fl p1) = _) := Lib.hid hx
  have HY : Hid (fin (fl p2) = _) := Lib.hid hy
  have HZZ : Hid (fin (fl p3) = _) := Lib.hid hz
  clear hx hy hz
  have s0 := trivial
  go_enter Try.func48, Try.ntmps48
  go_wp2_with (first
    | (clear s0
       go_at_call 61
       refine Grow.seal_calls ?_
       intro W hW
       have HG : Hid (Below w.heap.size w W) := Lib.hid (by rw [hW.out]; (repeat (with_reducible first | exact Grow.grow_refl _ | refine Grow.grow_setCell ?_ ?_ _ | refine Grow.grow_alloc ?_ _ | refine Grow.grow_drewN ?_ _ | refine Grow.grow_over ?_ _ | refine Grow.grow_via (by assumption) ?_)) <;> omega)
       have HZ : w.heap.size ≤ W.heap.size := Below.size HG.out
       apply Grow.have_known (W := W)
       · rw [hW.out]; exact (Known.new _ _ _).alloc _
       intro q1
       (try simp only [World.size_alloc] at q1)
       apply Grow.have_known (W := W)
       · rw [hW.out]; exact Known.new _ _ _
       intro q2
       (try simp only [World.size_alloc] at q2)
       clear hW
       refine (finite_walk _ _).mono ?_
       rintro e w1 hp
       obtain ⟨v, rfl, hp, hB⟩ := PostD.post hp
       have hv := hp; clear hp
       rw [HX.out] at hv; subst hv
       replace q1 := q1.below hB
       replace q2 := q2.below hB
       replace HG : Hid (Below w.heap.size w w1) := Lib.hid (Grow.grow_trans HG.out hB)
       replace HZ : w.heap.size ≤ w1.heap.size := Below.size HG.out
       clear hB
       have c1 := q1.cell; have f1 := q1.frozen; have l1 := q1.lt
       have c2 := q2.cell; have f2 := q2.frozen; have l2 := q2.lt
       have s1 := trivial)
    | (clear s1
       go_at_call 61
       refine Grow.seal_calls ?_
       intro W hW
       have HG2 : Hid (Below w.heap.size w W) := Lib.hid (by rw [hW.out]; (repeat (with_reducible first | exact Grow.grow_refl _ | refine Grow.grow_setCell ?_ ?_ _ | refine Grow.grow_alloc ?_ _ | refine Grow.grow_drewN ?_ _ | refine Grow.grow_over ?_ _ | refine Grow.grow_via (by assumption) ?_)) <;> omega)
       clear HG
       have HG := HG2
       clear HG2
       clear c1 f1 c2 f2
       apply Grow.have_known (W := W)
       · rw [hW.out]; apply Known.at q1; (repeat (with_reducible first | exact q1 | apply Known.same | apply Known.other | apply Known.alloc | apply Known.drewN)) <;> omega
       clear q1
       intro q1
       (try simp only [List.setIfInBounds_toArray, List.set_cons_zero, List.set_cons_succ] at q1)
       apply Grow.have_known (W := W)
       · rw [hW.out]; apply Known.at q2; (repeat (with_reducible first | exact q2 | apply Known.same | apply Known.other | apply Known.alloc | apply Known.drewN)) <;> omega
       clear q2
       intro q2
       (try simp only [List.setIfInBounds_toArray, List.set_cons_zero, List.set_cons_succ] at q2)
       replace HZ : w.heap.size ≤ W.heap.size := Below.size HG.out
       clear hW
       refine (finite_walk _ _).mono ?_
       rintro e w1 hp
       obtain ⟨v, rfl, hp, hB⟩ := PostD.post hp
       have hv := hp; clear hp
       rw [HY.out] at hv; subst hv
       replace q1 := q1.below hB
       replace q2 := q2.below hB
       replace HG : Hid (Below w.heap.size w w1) := Lib.hid (Grow.grow_trans HG.out hB)
       replace HZ : w.heap.size ≤ w1.heap.size := Below.size HG.out
       clear hB
       have c1 := q1.cell; have f1 := q1.frozen; have l1 := q1.lt
       have c2 := q2.cell; have f2 := q2.frozen; have l2 := q2.lt
       have s2 := trivial)
    | (clear s2
       go_at_call 61
       refine Grow.seal_calls ?_
       intro W hW
       have HG2 : Hid (Below w.heap.size w W) := Lib.hid (by rw [hW.out]; (repeat (with_reducible first | exact Grow.grow_refl _ | refine Grow.grow_setCell ?_ ?_ _ | refine Grow.grow_alloc ?_ _ | refine Grow.grow_drewN ?_ _ | refine Grow.grow_over ?_ _ | refine Grow.grow_via (by assumption) ?_)) <;> omega)
       clear HG
       have HG := HG2
       clear HG2
       clear c1 f1 c2 f2
       apply Grow.have_known (W := W)
       · rw [hW.out]; apply Known.at q1; (repeat (with_reducible first | exact q1 | apply Known.same | apply Known.other | apply Known.alloc | apply Known.drewN)) <;> omega
       clear q1
       intro q1
       (try simp only [List.setIfInBounds_toArray, List.set_cons_zero, List.set_cons_succ] at q1)
       apply Grow.have_known (W := W)
       · rw [hW.out]; apply Known.at q2; (repeat (with_reducible first | exact q2 | apply Known.same | apply Known.other | apply Known.alloc | apply Known.drewN)) <;> omega
       clear q2
       intro q2
       (try simp only [List.setIfInBounds_toArray, List.set_cons_zero, List.set_cons_succ] at q2)
       replace HZ : w.heap.size ≤ W.heap.size := Below.size HG.out
       clear hW
       refine (finite_walk _ _).mono ?_
       rintro e w1 hp
       obtain ⟨v, rfl, hp, hB⟩ := PostD.post hp
       have hv := hp; clear hp
       rw [HZZ.out] at hv; subst hv
       replace q1 := q1.below hB
       replace q2 := q2.below hB
       replace HG : Hid (Below w.heap.size w w1) := Lib.hid (Grow.grow_trans HG.out hB)
       replace HZ : w.heap.size ≤ w1.heap.size := Below.size HG.out
       clear hB
       have c1 := q1.cell; have f1 := q1.frozen; have l1 := q1.lt
       have c2 := q2.cell; have f2 := q2.frozen; have l2 := q2.lt
       have s3 := trivial)
    | (clear s3
       go_at_call 77
       refine Grow.seal_calls ?_
       intro W hW
       have HG2 : Hid (Below w.heap.size w W) := Lib.hid (by rw [hW.out]; (repeat (with_reducible first | exact Grow.grow_refl _ | refine Grow.grow_setCell ?_ ?_ _ | refine Grow.grow_alloc ?_ _ | refine Grow.grow_drewN ?_ _ | refine Grow.grow_over ?_ _ | refine Grow.grow_via (by assumption) ?_)) <;> omega)
       clear HG
       have HG := HG2
       clear HG2
       clear c1 f1 c2 f2
       apply Grow.have_known (W := W)
       · rw [hW.out]; apply Known.at q1; (repeat (with_reducible first | exact q1 | apply Known.same | apply Known.other | apply Known.alloc | apply Known.drewN)) <;> omega
       clear q1
       intro q1
       (try simp only [List.setIfInBounds_toArray, List.set_cons_zero, List.set_cons_succ] at q1)
       apply Grow.have_known (W := W)
       · rw [hW.out]; apply Known.at q2; (repeat (with_reducible first | exact q2 | apply Known.same | apply Known.other | apply Known.alloc | apply Known.drewN)) <;> omega
       clear q2
       intro q2
       (try simp only [List.setIfInBounds_toArray, List.set_cons_zero, List.set_cons_succ] at q2)
       replace HZ : w.heap.size ≤ W.heap.size := Below.size HG.out
       clear hW
       refine (angle_walk _ _ _).mono ?_
       rintro e w1 hp
       obtain ⟨v, rfl, hp, hB⟩ := hp
       have hA := hp; clear hp
       unfold IsA at hA; subst hA
       replace q1 := q1.below hB
       replace q2 := q2.below hB
       replace HG : Hid (Below w.heap.size w w1) := Lib.hid (Grow.grow_trans HG.out hB)
       replace HZ : w.heap.size ≤ w1.heap.size := Below.size HG.out
       clear hB
       have c1 := q1.cell; have f1 := q1.frozen; have l1 := q1.lt
       have c2 := q2.cell; have f2 := q2.frozen; have l2 := q2.lt
       have s4 := trivial))
  refine Rel.wp_region_rel SpecT (by kernel_rfl) (lexB_of_fast (by kernel_rfl) (by kernel_rfl)) ?_
  repeat (first
    | (refine rel_arith (by rfl) rfl (by rfl) rfl rfl ?_; intro b1 H1; simp only [Act.put, List.setIfInBounds_toArray, List.set_cons_zero, List.set_cons_succ])
    | (refine rel_call (f := 59) (args := #[.float .f64 _]) (by rfl) rfl (callAt_func rfl Try.func59 (by kernel_rfl) (by kernel_rfl) rfl) (keepsD_over (fun v h => h) fun x => root_walk _ _) ?_; rintro _ ⟨b, rfl, hb⟩; have H := Lib.hid hb; clear hb; simp only [Act.put, List.setIfInBounds_toArray, List.set_cons_zero, List.set_cons_succ])
    | (refine rel_call (f := 77) (args := #[.float .f64 _, .float .f64 _]) (by rfl) rfl (callAt_func rfl Try.func77 (by kernel_rfl) (by kernel_rfl) rfl) (keeps_over (fun v h => h) fun x => angle_walk _ _ _) ?_; rintro _ hA; unfold IsA at hA; subst hA; simp only [Act.put, List.setIfInBounds_toArray, List.set_cons_zero, List.set_cons_succ])
    | (refine rel_plain (by rfl) rfl ?_; intro K hK; go_big_quiet_op; go_big_quiet_on)
    | (refine rel_skip (by rfl) ?_; simp only [Act.put, List.setIfInBounds_toArray, List.set_cons_zero, List.set_cons_succ]))
  refine Rel.wpRel_nil ?_
  intro w9 hB9 hG9
  clear c1 f1 c2 f2
  replace q1 := q1.below hB9
  replace q2 := q2.below hB9
  clear hG9
  replace HG : Hid (Below w.heap.size w w9) := Lib.hid (Grow.grow_trans HG.out hB9)
  replace HZ : w.heap.size ≤ w9.heap.size := Below.size HG.out
  clear hB9
  have c1 := q1.cell
  have f1 := q1.frozen
  have l1 := q1.lt
  have c2 := q2.cell
  have f2 := q2.frozen
  have l2 := q2.lt
  have hb8 : fl b = fsqrt (fadd (fmul (fl p1) (fl p1)) (fmul (fl p2) (fl p2))) := by
    simp only [Hid, fop] at *
    simp only [*]
  rw [hb8, show (ang (fl p3) (fsqrt (fadd (fmul (fl p1) (fl p1)) (fmul (fl p2) (fl p2))))).2 = true from HK.out]
  clear hb8
  go_wp2_with (go_at_call 80; refine (signed_walk _ _).mono ?_; rintro e w5 ⟨rfl, rfl⟩)
  apply bodyPost_ret
  · simp [results, Try.results48, go_sem, *]; rfl
  · rfl
  · refine Post.mk ?_ ?_
    · unfold IsPl
      rw [HP.out]
      (try rfl)
    · (repeat (with_reducible first
        | exact Grow.grow_refl _
        | refine Grow.grow_setCell ?_ ?_ _
        | refine Grow.grow_alloc ?_ _
        | refine Grow.grow_drewN ?_ _
        | refine Grow.grow_over ?_ _
        | refine Grow.grow_via (by assumption) ?_)) <;> omega

set_option maxRecDepth 100000 in
set_option maxHeartbeats 4000000 in
theorem where_5f (p1 p2 p3 : Nat) (hx : Tr.fin (fl p1) = true) (hy : Tr.fin (fl p2) = true) (hz : Tr.fin (fl p3) = true) (h0 : (feq (fl p1) (some 0) && feq (fl p2) (some 0) && feq (fl p3) (some 0)) = false) (hk : (ang (fl p3) (rad ⟨fl p1, fl p2, fl p3⟩)).2 = false) (w : World) : Calls Try.prog 48 #[.agg #[.float .f64 p1, .float .f64 p2, .float .f64 p3]] w (Post (IsPl (plc ⟨fl p1, fl p2, fl p3⟩)) w) := by
  have HP := Lib.hid (plc_no (v := ⟨fl p1, fl p2, fl p3⟩) hk)
  have HK := Lib.hid hk
  have hE := eql3 p1 p2 p3
  rw [h0] at hE
  clear h0 hk
  have HX : Hid (fin (fl p1) = _) := Lib.hid hx
  have HY : Hid (fin (fl p2) = _) := Lib.hid hy
  have HZZ : Hid (fin (fl p3) = _) := Lib.hid hz
  clear hx hy hz
  have s0 := trivial
  go_enter Try.func48, Try.ntmps48
  go_wp2_with (first
    | (clear s0
       go_at_call 61
       refine Grow.seal_calls ?_
       intro W hW
       have HG : Hid (Below w.heap.size w W) := Lib.hid (by rw [hW.out]; (repeat (with_reducible first | exact Grow.grow_refl _ | refine Grow.grow_setCell ?_ ?_ _ | refine Grow.grow_alloc ?_ _ | refine Grow.grow_drewN ?_ _ | refine Grow.grow_over ?_ _ | refine Grow.grow_via (by assumption) ?_)) <;> omega)
       have HZ : w.heap.size ≤ W.heap.size := Below.size HG.out
       apply Grow.have_known (W := W)
       · rw [hW.out]; exact (Known.new _ _ _).alloc _
       intro q1
       (try simp only [World.size_alloc] at q1)
       apply Grow.have_known (W := W)
       · rw [hW.out]; exact Known.new _ _ _
       intro q2
       (try simp only [World.size_alloc] at q2)
       clear hW
       refine (finite_walk _ _).mono ?_
       rintro e w1 hp
       obtain ⟨v, rfl, hp, hB⟩ := PostD.post hp
       have hv := hp; clear hp
       rw [HX.out] at hv; subst hv
       replace q1 := q1.below hB
       replace q2 := q2.below hB
       replace HG : Hid (Below w.heap.size w w1) := Lib.hid (Grow.grow_trans HG.out hB)
       replace HZ : w.heap.size ≤ w1.heap.size := Below.size HG.out
       clear hB
       have c1 := q1.cell; have f1 := q1.frozen; have l1 := q1.lt
       have c2 := q2.cell; have f2 := q2.frozen; have l2 := q2.lt
       have s1 := trivial)
    | (clear s1
       go_at_call 61
       refine Grow.seal_calls ?_
       intro W hW
       have HG2 : Hid (Below w.heap.size w W) := Lib.hid (by rw [hW.out]; (repeat (with_reducible first | exact Grow.grow_refl _ | refine Grow.grow_setCell ?_ ?_ _ | refine Grow.grow_alloc ?_ _ | refine Grow.grow_drewN ?_ _ | refine Grow.grow_over ?_ _ | refine Grow.grow_via (by assumption) ?_)) <;> omega)
       clear HG
       have HG := HG2
       clear HG2
       clear c1 f1 c2 f2
       apply Grow.have_known (W := W)
       · rw [hW.out]; apply Known.at q1; (repeat (with_reducible first | exact q1 | apply Known.same | apply Known.other | apply Known.alloc | apply Known.drewN)) <;> omega
       clear q1
       intro q1
       (try simp only [List.setIfInBounds_toArray, List.set_cons_zero, List.set_cons_succ] at q1)
       apply Grow.have_known (W := W)
       · rw [hW.out]; apply Known.at q2; (repeat (with_reducible first | exact q2 | apply Known.same | apply Known.other | apply Known.alloc | apply Known.drewN)) <;> omega
       clear q2
       intro q2
       (try simp only [List.setIfInBounds_toArray, List.set_cons_zero, List.set_cons_succ] at q2)
       replace HZ : w.heap.size ≤ W.heap.size := Below.size HG.out
       clear hW
       refine (finite_walk _ _).mono ?_
       rintro e w1 hp
       obtain ⟨v, rfl, hp, hB⟩ := PostD.post hp
       have hv := hp; clear hp
       rw [HY.out] at hv; subst hv
       replace q1 := q1.below hB
       replace q2 := q2.below hB
       replace HG : Hid (Below w.heap.size w w1) := Lib.hid (Grow.grow_trans HG.out hB)
       replace HZ : w.heap.size ≤ w1.heap.size := Below.size HG.out
       clear hB
       have c1 := q1.cell; have f1 := q1.frozen; have l1 := q1.lt
       have c2 := q2.cell; have f2 := q2.frozen; have l2 := q2.lt
       have s2 := trivial)
    | (clear s2
       go_at_call 61
       refine Grow.seal_calls ?_
       intro W hW
       have HG2 : Hid (Below w.heap.size w W) := Lib.hid (by rw [hW.out]; (repeat (with_reducible first | exact Grow.grow_refl _ | refine Grow.grow_setCell ?_ ?_ _ | refine Grow.grow_alloc ?_ _ | refine Grow.grow_drewN ?_ _ | refine Grow.grow_over ?_ _ | refine Grow.grow_via (by assumption) ?_)) <;> omega)
       clear HG
       have HG := HG2
       clear HG2
       clear c1 f1 c2 f2
       apply Grow.have_known (W := W)
       · rw [hW.out]; apply Known.at q1; (repeat (with_reducible first | exact q1 | apply Known.same | apply Known.other | apply Known.alloc | apply Known.drewN)) <;> omega
       clear q1
       intro q1
       (try simp only [List.setIfInBounds_toArray, List.set_cons_zero, List.set_cons_succ] at q1)
       apply Grow.have_known (W := W)
       · rw [hW.out]; apply Known.at q2; (repeat (with_reducible first | exact q2 | apply Known.same | apply Known.other | apply Known.alloc | apply Known.drewN)) <;> omega
       clear q2
       intro q2
       (try simp only [List.setIfInBounds_toArray, List.set_cons_zero, List.set_cons_succ] at q2)
       replace HZ : w.heap.size ≤ W.heap.size := Below.size HG.out
       clear hW
       refine (finite_walk _ _).mono ?_
       rintro e w1 hp
       obtain ⟨v, rfl, hp, hB⟩ := PostD.post hp
       have hv := hp; clear hp
       rw [HZZ.out] at hv; subst hv
       replace q1 := q1.below hB
       replace q2 := q2.below hB
       replace HG : Hid (Below w.heap.size w w1) := Lib.hid (Grow.grow_trans HG.out hB)
       replace HZ : w.heap.size ≤ w1.heap.size := Below.size HG.out
       clear hB
       have c1 := q1.cell; have f1 := q1.frozen; have l1 := q1.lt
       have c2 := q2.cell; have f2 := q2.frozen; have l2 := q2.lt
       have s3 := trivial)
    | (clear s3
       go_at_call 77
       refine Grow.seal_calls ?_
       intro W hW
       have HG2 : Hid (Below w.heap.size w W) := Lib.hid (by rw [hW.out]; (repeat (with_reducible first | exact Grow.grow_refl _ | refine Grow.grow_setCell ?_ ?_ _ | refine Grow.grow_alloc ?_ _ | refine Grow.grow_drewN ?_ _ | refine Grow.grow_over ?_ _ | refine Grow.grow_via (by assumption) ?_)) <;> omega)
       clear HG
       have HG := HG2
       clear HG2
       clear c1 f1 c2 f2
       apply Grow.have_known (W := W)
       · rw [hW.out]; apply Known.at q1; (repeat (with_reducible first | exact q1 | apply Known.same | apply Known.other | apply Known.alloc | apply Known.drewN)) <;> omega
       clear q1
       intro q1
       (try simp only [List.setIfInBounds_toArray, List.set_cons_zero, List.set_cons_succ] at q1)
       apply Grow.have_known (W := W)
       · rw [hW.out]; apply Known.at q2; (repeat (with_reducible first | exact q2 | apply Known.same | apply Known.other | apply Known.alloc | apply Known.drewN)) <;> omega
       clear q2
       intro q2
       (try simp only [List.setIfInBounds_toArray, List.set_cons_zero, List.set_cons_succ] at q2)
       replace HZ : w.heap.size ≤ W.heap.size := Below.size HG.out
       clear hW
       refine (angle_walk _ _ _).mono ?_
       rintro e w1 hp
       obtain ⟨v, rfl, hp, hB⟩ := hp
       have hA := hp; clear hp
       unfold IsA at hA; subst hA
       replace q1 := q1.below hB
       replace q2 := q2.below hB
       replace HG : Hid (Below w.heap.size w w1) := Lib.hid (Grow.grow_trans HG.out hB)
       replace HZ : w.heap.size ≤ w1.heap.size := Below.size HG.out
       clear hB
       have c1 := q1.cell; have f1 := q1.frozen; have l1 := q1.lt
       have c2 := q2.cell; have f2 := q2.frozen; have l2 := q2.lt
       have s4 := trivial))
  refine Rel.wp_region_rel SpecT (by kernel_rfl) (lexB_of_fast (by kernel_rfl) (by kernel_rfl)) ?_
  repeat (first
    | (refine rel_arith (by rfl) rfl (by rfl) rfl rfl ?_; intro b1 H1; simp only [Act.put, List.setIfInBounds_toArray, List.set_cons_zero, List.set_cons_succ])
    | (refine rel_call (f := 59) (args := #[.float .f64 _]) (by rfl) rfl (callAt_func rfl Try.func59 (by kernel_rfl) (by kernel_rfl) rfl) (keepsD_over (fun v h => h) fun x => root_walk _ _) ?_; rintro _ ⟨b, rfl, hb⟩; have H := Lib.hid hb; clear hb; simp only [Act.put, List.setIfInBounds_toArray, List.set_cons_zero, List.set_cons_succ])
    | (refine rel_call (f := 77) (args := #[.float .f64 _, .float .f64 _]) (by rfl) rfl (callAt_func rfl Try.func77 (by kernel_rfl) (by kernel_rfl) rfl) (keeps_over (fun v h => h) fun x => angle_walk _ _ _) ?_; rintro _ hA; unfold IsA at hA; subst hA; simp only [Act.put, List.setIfInBounds_toArray, List.set_cons_zero, List.set_cons_succ])
    | (refine rel_plain (by rfl) rfl ?_; intro K hK; go_big_quiet_op; go_big_quiet_on)
    | (refine rel_skip (by rfl) ?_; simp only [Act.put, List.setIfInBounds_toArray, List.set_cons_zero, List.set_cons_succ]))
  refine Rel.wpRel_nil ?_
  intro w9 hB9 hG9
  clear c1 f1 c2 f2
  replace q1 := q1.below hB9
  replace q2 := q2.below hB9
  clear hG9
  replace HG : Hid (Below w.heap.size w w9) := Lib.hid (Grow.grow_trans HG.out hB9)
  replace HZ : w.heap.size ≤ w9.heap.size := Below.size HG.out
  clear hB9
  have c1 := q1.cell
  have f1 := q1.frozen
  have l1 := q1.lt
  have c2 := q2.cell
  have f2 := q2.frozen
  have l2 := q2.lt
  have hb8 : fl b = fsqrt (fadd (fmul (fl p1) (fl p1)) (fmul (fl p2) (fl p2))) := by
    simp only [Hid, fop] at *
    simp only [*]
  rw [hb8, show (ang (fl p3) (fsqrt (fadd (fmul (fl p1) (fl p1)) (fmul (fl p2) (fl p2))))).2 = false from HK.out]
  clear hb8
  go_wp2_with (go_at_call 80; refine (signed_walk _ _).mono ?_; rintro e w5 ⟨rfl, rfl⟩)
  apply bodyPost_ret
  · simp [results, Try.results48, go_sem, *]; rfl
  · rfl
  · refine Post.mk ?_ ?_
    · unfold IsPl
      rw [HP.out]
      (try rfl)
    · (repeat (with_reducible first
        | exact Grow.grow_refl _
        | refine Grow.grow_setCell ?_ ?_ _
        | refine Grow.grow_alloc ?_ _
        | refine Grow.grow_drewN ?_ _
        | refine Grow.grow_over ?_ _
        | refine Grow.grow_via (by assumption) ?_)) <;> omega

set_option maxRecDepth 100000 in
set_option maxHeartbeats 4000000 in
theorem placeOf_1 (p1 p2 p3 : Nat) (hy0 : Bool) (hz0 : Bool) (hx : Tr.fin (fl p1) = false) (hy : Tr.fin (fl p2) = hy0) (hz : Tr.fin (fl p3) = hz0) (w : World) : Calls Try.prog 49 #[.agg #[.float .f64 p1, .float .f64 p2, .float .f64 p3]] w (Post (IsPl (plc ⟨fl p1, fl p2, fl p3⟩)) w) := by
  have HP := Lib.hid (plc_1 (v := ⟨fl p1, fl p2, fl p3⟩) hx)
  have HX : Hid (fin (fl p1) = _) := Lib.hid hx
  have HY : Hid (fin (fl p2) = _) := Lib.hid hy
  have HZZ : Hid (fin (fl p3) = _) := Lib.hid hz
  clear hx hy hz
  have s0 := trivial
  go_enter Try.func49, Try.ntmps49
  go_wp2_with (first
    | (clear s0
       go_at_call 62
       refine Grow.seal_calls ?_
       intro W hW
       have HG : Hid (Below w.heap.size w W) := Lib.hid (by rw [hW.out]; (repeat (with_reducible first | exact Grow.grow_refl _ | refine Grow.grow_setCell ?_ ?_ _ | refine Grow.grow_alloc ?_ _ | refine Grow.grow_drewN ?_ _ | refine Grow.grow_over ?_ _ | refine Grow.grow_via (by assumption) ?_)) <;> omega)
       have HZ : w.heap.size ≤ W.heap.size := Below.size HG.out
       apply Grow.have_known (W := W)
       · rw [hW.out]; exact (Known.new _ _ _).alloc _
       intro q1
       (try simp only [World.size_alloc] at q1)
       apply Grow.have_known (W := W)
       · rw [hW.out]; exact Known.new _ _ _
       intro q2
       (try simp only [World.size_alloc] at q2)
       clear hW
       refine (finiteRef_walk _ _).mono ?_
       rintro e w1 hp
       obtain ⟨v, rfl, hp, hB⟩ := PostD.post hp
       have hv := hp; clear hp
       rw [HX.out] at hv; subst hv
       replace q1 := q1.below hB
       replace q2 := q2.below hB
       replace HG : Hid (Below w.heap.size w w1) := Lib.hid (Grow.grow_trans HG.out hB)
       replace HZ : w.heap.size ≤ w1.heap.size := Below.size HG.out
       clear hB
       have c1 := q1.cell; have f1 := q1.frozen; have l1 := q1.lt
       have c2 := q2.cell; have f2 := q2.frozen; have l2 := q2.lt
       have s1 := trivial)
    | (clear s1
       go_at_call 62
       refine Grow.seal_calls ?_
       intro W hW
       have HG2 : Hid (Below w.heap.size w W) := Lib.hid (by rw [hW.out]; (repeat (with_reducible first | exact Grow.grow_refl _ | refine Grow.grow_setCell ?_ ?_ _ | refine Grow.grow_alloc ?_ _ | refine Grow.grow_drewN ?_ _ | refine Grow.grow_over ?_ _ | refine Grow.grow_via (by assumption) ?_)) <;> omega)
       clear HG
       have HG := HG2
       clear HG2
       clear c1 f1 c2 f2
       apply Grow.have_known (W := W)
       · rw [hW.out]; apply Known.at q1; (repeat (with_reducible first | exact q1 | apply Known.same | apply Known.other | apply Known.alloc | apply Known.drewN)) <;> omega
       clear q1
       intro q1
       (try simp only [List.setIfInBounds_toArray, List.set_cons_zero, List.set_cons_succ] at q1)
       apply Grow.have_known (W := W)
       · rw [hW.out]; apply Known.at q2; (repeat (with_reducible first | exact q2 | apply Known.same | apply Known.other | apply Known.alloc | apply Known.drewN)) <;> omega
       clear q2
       intro q2
       (try simp only [List.setIfInBounds_toArray, List.set_cons_zero, List.set_cons_succ] at q2)
       replace HZ : w.heap.size ≤ W.heap.size := Below.size HG.out
       clear hW
       refine (finiteRef_walk _ _).mono ?_
       rintro e w1 hp
       obtain ⟨v, rfl, hp, hB⟩ := PostD.post hp
       have hv := hp; clear hp
       rw [HY.out] at hv; subst hv
       replace q1 := q1.below hB
       replace q2 := q2.below hB
       replace HG : Hid (Below w.heap.size w w1) := Lib.hid (Grow.grow_trans HG.out hB)
       replace HZ : w.heap.size ≤ w1.heap.size := Below.size HG.out
       clear hB
       have c1 := q1.cell; have f1 := q1.frozen; have l1 := q1.lt
       have c2 := q2.cell; have f2 := q2.frozen; have l2 := q2.lt
       have s2 := trivial)
    | (clear s2
       go_at_call 62
       refine Grow.seal_calls ?_
       intro W hW
       have HG2 : Hid (Below w.heap.size w W) := Lib.hid (by rw [hW.out]; (repeat (with_reducible first | exact Grow.grow_refl _ | refine Grow.grow_setCell ?_ ?_ _ | refine Grow.grow_alloc ?_ _ | refine Grow.grow_drewN ?_ _ | refine Grow.grow_over ?_ _ | refine Grow.grow_via (by assumption) ?_)) <;> omega)
       clear HG
       have HG := HG2
       clear HG2
       clear c1 f1 c2 f2
       apply Grow.have_known (W := W)
       · rw [hW.out]; apply Known.at q1; (repeat (with_reducible first | exact q1 | apply Known.same | apply Known.other | apply Known.alloc | apply Known.drewN)) <;> omega
       clear q1
       intro q1
       (try simp only [List.setIfInBounds_toArray, List.set_cons_zero, List.set_cons_succ] at q1)
       apply Grow.have_known (W := W)
       · rw [hW.out]; apply Known.at q2; (repeat (with_reducible first | exact q2 | apply Known.same | apply Known.other | apply Known.alloc | apply Known.drewN)) <;> omega
       clear q2
       intro q2
       (try simp only [List.setIfInBounds_toArray, List.set_cons_zero, List.set_cons_succ] at q2)
       replace HZ : w.heap.size ≤ W.heap.size := Below.size HG.out
       clear hW
       refine (finiteRef_walk _ _).mono ?_
       rintro e w1 hp
       obtain ⟨v, rfl, hp, hB⟩ := PostD.post hp
       have hv := hp; clear hp
       rw [HZZ.out] at hv; subst hv
       replace q1 := q1.below hB
       replace q2 := q2.below hB
       replace HG : Hid (Below w.heap.size w w1) := Lib.hid (Grow.grow_trans HG.out hB)
       replace HZ : w.heap.size ≤ w1.heap.size := Below.size HG.out
       clear hB
       have c1 := q1.cell; have f1 := q1.frozen; have l1 := q1.lt
       have c2 := q2.cell; have f2 := q2.frozen; have l2 := q2.lt
       have s3 := trivial))
  apply bodyPost_ret
  · simp [results, Try.results49, go_sem, *]; rfl
  · rfl
  · refine Post.mk ?_ ?_
    · unfold IsPl
      rw [HP.out]
      (try rfl)
    · (repeat (with_reducible first
        | exact Grow.grow_refl _
        | refine Grow.grow_setCell ?_ ?_ _
        | refine Grow.grow_alloc ?_ _
        | refine Grow.grow_drewN ?_ _
        | refine Grow.grow_over ?_ _
        | refine Grow.grow_via (by assumption) ?_)) <;> omega

set_option maxRecDepth 100000 in
set_option maxHeartbeats 4000000 in
theorem placeOf_2 (p1 p2 p3 : Nat) (hz0 : Bool) (hx : Tr.fin (fl p1) = true) (hy : Tr.fin (fl p2) = false) (hz : Tr.fin (fl p3) = hz0) (w : World) : Calls Try.prog 49 #[.agg #[.float .f64 p1, .float .f64 p2, .float .f64 p3]] w (Post (IsPl (plc ⟨fl p1, fl p2, fl p3⟩)) w) := by
  have HP := Lib.hid (plc_2 (v := ⟨fl p1, fl p2, fl p3⟩) hy)
  have HX : Hid (fin (fl p1) = _) := Lib.hid hx
  have HY : Hid (fin (fl p2) = _) := Lib.hid hy
  have HZZ : Hid (fin (fl p3) = _) := Lib.hid hz
  clear hx hy hz
  have s0 := trivial
  go_enter Try.func49, Try.ntmps49
  go_wp2_with (first
    | (clear s0
       go_at_call 62
       refine Grow.seal_calls ?_
       intro W hW
       have HG : Hid (Below w.heap.size w W) := Lib.hid (by rw [hW.out]; (repeat (with_reducible first | exact Grow.grow_refl _ | refine Grow.grow_setCell ?_ ?_ _ | refine Grow.grow_alloc ?_ _ | refine Grow.grow_drewN ?_ _ | refine Grow.grow_over ?_ _ | refine Grow.grow_via (by assumption) ?_)) <;> omega)
       have HZ : w.heap.size ≤ W.heap.size := Below.size HG.out
       apply Grow.have_known (W := W)
       · rw [hW.out]; exact (Known.new _ _ _).alloc _
       intro q1
       (try simp only [World.size_alloc] at q1)
       apply Grow.have_known (W := W)
       · rw [hW.out]; exact Known.new _ _ _
       intro q2
       (try simp only [World.size_alloc] at q2)
       clear hW
       refine (finiteRef_walk _ _).mono ?_
       rintro e w1 hp
       obtain ⟨v, rfl, hp, hB⟩ := PostD.post hp
       have hv := hp; clear hp
       rw [HX.out] at hv; subst hv
       replace q1 := q1.below hB
       replace q2 := q2.below hB
       replace HG : Hid (Below w.heap.size w w1) := Lib.hid (Grow.grow_trans HG.out hB)
       replace HZ : w.heap.size ≤ w1.heap.size := Below.size HG.out
       clear hB
       have c1 := q1.cell; have f1 := q1.frozen; have l1 := q1.lt
       have c2 := q2.cell; have f2 := q2.frozen; have l2 := q2.lt
       have s1 := trivial)
    | (clear s1
       go_at_call 62
       refine Grow.seal_calls ?_
       intro W hW
       have HG2 : Hid (Below w.heap.size w W) := Lib.hid (by rw [hW.out]; (repeat (with_reducible first | exact Grow.grow_refl _ | refine Grow.grow_setCell ?_ ?_ _ | refine Grow.grow_alloc ?_ _ | refine Grow.grow_drewN ?_ _ | refine Grow.grow_over ?_ _ | refine Grow.grow_via (by assumption) ?_)) <;> omega)
       clear HG
       have HG := HG2
       clear HG2
       clear c1 f1 c2 f2
       apply Grow.have_known (W := W)
       · rw [hW.out]; apply Known.at q1; (repeat (with_reducible first | exact q1 | apply Known.same | apply Known.other | apply Known.alloc | apply Known.drewN)) <;> omega
       clear q1
       intro q1
       (try simp only [List.setIfInBounds_toArray, List.set_cons_zero, List.set_cons_succ] at q1)
       apply Grow.have_known (W := W)
       · rw [hW.out]; apply Known.at q2; (repeat (with_reducible first | exact q2 | apply Known.same | apply Known.other | apply Known.alloc | apply Known.drewN)) <;> omega
       clear q2
       intro q2
       (try simp only [List.setIfInBounds_toArray, List.set_cons_zero, List.set_cons_succ] at q2)
       replace HZ : w.heap.size ≤ W.heap.size := Below.size HG.out
       clear hW
       refine (finiteRef_walk _ _).mono ?_
       rintro e w1 hp
       obtain ⟨v, rfl, hp, hB⟩ := PostD.post hp
       have hv := hp; clear hp
       rw [HY.out] at hv; subst hv
       replace q1 := q1.below hB
       replace q2 := q2.below hB
       replace HG : Hid (Below w.heap.size w w1) := Lib.hid (Grow.grow_trans HG.out hB)
       replace HZ : w.heap.size ≤ w1.heap.size := Below.size HG.out
       clear hB
       have c1 := q1.cell; have f1 := q1.frozen; have l1 := q1.lt
       have c2 := q2.cell; have f2 := q2.frozen; have l2 := q2.lt
       have s2 := trivial)
    | (clear s2
       go_at_call 62
       refine Grow.seal_calls ?_
       intro W hW
       have HG2 : Hid (Below w.heap.size w W) := Lib.hid (by rw [hW.out]; (repeat (with_reducible first | exact Grow.grow_refl _ | refine Grow.grow_setCell ?_ ?_ _ | refine Grow.grow_alloc ?_ _ | refine Grow.grow_drewN ?_ _ | refine Grow.grow_over ?_ _ | refine Grow.grow_via (by assumption) ?_)) <;> omega)
       clear HG
       have HG := HG2
       clear HG2
       clear c1 f1 c2 f2
       apply Grow.have_known (W := W)
       · rw [hW.out]; apply Known.at q1; (repeat (with_reducible first | exact q1 | apply Known.same | apply Known.other | apply Known.alloc | apply Known.drewN)) <;> omega
       clear q1
       intro q1
       (try simp only [List.setIfInBounds_toArray, List.set_cons_zero, List.set_cons_succ] at q1)
       apply Grow.have_known (W := W)
       · rw [hW.out]; apply Known.at q2; (repeat (with_reducible first | exact q2 | apply Known.same | apply Known.other | apply Known.alloc | apply Known.drewN)) <;> omega
       clear q2
       intro q2
       (try simp only [List.setIfInBounds_toArray, List.set_cons_zero, List.set_cons_succ] at q2)
       replace HZ : w.heap.size ≤ W.heap.size := Below.size HG.out
       clear hW
       refine (finiteRef_walk _ _).mono ?_
       rintro e w1 hp
       obtain ⟨v, rfl, hp, hB⟩ := PostD.post hp
       have hv := hp; clear hp
       rw [HZZ.out] at hv; subst hv
       replace q1 := q1.below hB
       replace q2 := q2.below hB
       replace HG : Hid (Below w.heap.size w w1) := Lib.hid (Grow.grow_trans HG.out hB)
       replace HZ : w.heap.size ≤ w1.heap.size := Below.size HG.out
       clear hB
       have c1 := q1.cell; have f1 := q1.frozen; have l1 := q1.lt
       have c2 := q2.cell; have f2 := q2.frozen; have l2 := q2.lt
       have s3 := trivial))
  apply bodyPost_ret
  · simp [results, Try.results49, go_sem, *]; rfl
  · rfl
  · refine Post.mk ?_ ?_
    · unfold IsPl
      rw [HP.out]
      (try rfl)
    · (repeat (with_reducible first
        | exact Grow.grow_refl _
        | refine Grow.grow_setCell ?_ ?_ _
        | refine Grow.grow_alloc ?_ _
        | refine Grow.grow_drewN ?_ _
        | refine Grow.grow_over ?_ _
        | refine Grow.grow_via (by assumption) ?_)) <;> omega

set_option maxRecDepth 100000 in
set_option maxHeartbeats 4000000 in
theorem placeOf_3 (p1 p2 p3 : Nat)  (hx : Tr.fin (fl p1) = true) (hy : Tr.fin (fl p2) = true) (hz : Tr.fin (fl p3) = false) (w : World) : Calls Try.prog 49 #[.agg #[.float .f64 p1, .float .f64 p2, .float .f64 p3]] w (Post (IsPl (plc ⟨fl p1, fl p2, fl p3⟩)) w) := by
  have HP := Lib.hid (plc_3 (v := ⟨fl p1, fl p2, fl p3⟩) hz)
  have HX : Hid (fin (fl p1) = _) := Lib.hid hx
  have HY : Hid (fin (fl p2) = _) := Lib.hid hy
  have HZZ : Hid (fin (fl p3) = _) := Lib.hid hz
  clear hx hy hz
  have s0 := trivial
  go_enter Try.func49, Try.ntmps49
  go_wp2_with (first
    | (clear s0
       go_at_call 62
       refine Grow.seal_calls ?_
       intro W hW
       have HG : Hid (Below w.heap.size w W) := Lib.hid (by rw [hW.out]; (repeat (with_reducible first | exact Grow.grow_refl _ | refine Grow.grow_setCell ?_ ?_ _ | refine Grow.grow_alloc ?_ _ | refine Grow.grow_drewN ?_ _ | refine Grow.grow_over ?_ _ | refine Grow.grow_via (by assumption) ?_)) <;> omega)
       have HZ : w.heap.size ≤ W.heap.size := Below.size HG.out
       apply Grow.have_known (W := W)
       · rw [hW.out]; exact (Known.new _ _ _).alloc _
       intro q1
       (try simp only [World.size_alloc] at q1)
       apply Grow.have_known (W := W)
       · rw [hW.out]; exact Known.new _ _ _
       intro q2
       (try simp only [World.size_alloc] at q2)
       clear hW
       refine (finiteRef_walk _ _).mono ?_
       rintro e w1 hp
       obtain ⟨v, rfl, hp, hB⟩ := PostD.post hp
       have hv := hp; clear hp
       rw [HX.out] at hv; subst hv
       replace q1 := q1.below hB
       replace q2 := q2.below hB
       replace HG : Hid (Below w.heap.size w w1) := Lib.hid (Grow.grow_trans HG.out hB)
       replace HZ : w.heap.size ≤ w1.heap.size := Below.size HG.out
       clear hB
       have c1 := q1.cell; have f1 := q1.frozen; have l1 := q1.lt
       have c2 := q2.cell; have f2 := q2.frozen; have l2 := q2.lt
       have s1 := trivial)
    | (clear s1
       go_at_call 62
       refine Grow.seal_calls ?_
       intro W hW
       have HG2 : Hid (Below w.heap.size w W) := Lib.hid (by rw [hW.out]; (repeat (with_reducible first | exact Grow.grow_refl _ | refine Grow.grow_setCell ?_ ?_ _ | refine Grow.grow_alloc ?_ _ | refine Grow.grow_drewN ?_ _ | refine Grow.grow_over ?_ _ | refine Grow.grow_via (by assumption) ?_)) <;> omega)
       clear HG
       have HG := HG2
       clear HG2
       clear c1 f1 c2 f2
       apply Grow.have_known (W := W)
       · rw [hW.out]; apply Known.at q1; (repeat (with_reducible first | exact q1 | apply Known.same | apply Known.other | apply Known.alloc | apply Known.drewN)) <;> omega
       clear q1
       intro q1
       (try simp only [List.setIfInBounds_toArray, List.set_cons_zero, List.set_cons_succ] at q1)
       apply Grow.have_known (W := W)
       · rw [hW.out]; apply Known.at q2; (repeat (with_reducible first | exact q2 | apply Known.same | apply Known.other | apply Known.alloc | apply Known.drewN)) <;> omega
       clear q2
       intro q2
       (try simp only [List.setIfInBounds_toArray, List.set_cons_zero, List.set_cons_succ] at q2)
       replace HZ : w.heap.size ≤ W.heap.size := Below.size HG.out
       clear hW
       refine (finiteRef_walk _ _).mono ?_
       rintro e w1 hp
       obtain ⟨v, rfl, hp, hB⟩ := PostD.post hp
       have hv := hp; clear hp
       rw [HY.out] at hv; subst hv
       replace q1 := q1.below hB
       replace q2 := q2.below hB
       replace HG : Hid (Below w.heap.size w w1) := Lib.hid (Grow.grow_trans HG.out hB)
       replace HZ : w.heap.size ≤ w1.heap.size := Below.size HG.out
       clear hB
       have c1 := q1.cell; have f1 := q1.frozen; have l1 := q1.lt
       have c2 := q2.cell; have f2 := q2.frozen; have l2 := q2.lt
       have s2 := trivial)
    | (clear s2
       go_at_call 62
       refine Grow.seal_calls ?_
       intro W hW
       have HG2 : Hid (Below w.heap.size w W) := Lib.hid (by rw [hW.out]; (repeat (with_reducible first | exact Grow.grow_refl _ | refine Grow.grow_setCell ?_ ?_ _ | refine Grow.grow_alloc ?_ _ | refine Grow.grow_drewN ?_ _ | refine Grow.grow_over ?_ _ | refine Grow.grow_via (by assumption) ?_)) <;> omega)
       clear HG
       have HG := HG2
       clear HG2
       clear c1 f1 c2 f2
       apply Grow.have_known (W := W)
       · rw [hW.out]; apply Known.at q1; (repeat (with_reducible first | exact q1 | apply Known.same | apply Known.other | apply Known.alloc | apply Known.drewN)) <;> omega
       clear q1
       intro q1
       (try simp only [List.setIfInBounds_toArray, List.set_cons_zero, List.set_cons_succ] at q1)
       apply Grow.have_known (W := W)
       · rw [hW.out]; apply Known.at q2; (repeat (with_reducible first | exact q2 | apply Known.same | apply Known.other | apply Known.alloc | apply Known.drewN)) <;> omega
       clear q2
       intro q2
       (try simp only [List.setIfInBounds_toArray, List.set_cons_zero, List.set_cons_succ] at q2)
       replace HZ : w.heap.size ≤ W.heap.size := Below.size HG.out
       clear hW
       refine (finiteRef_walk _ _).mono ?_
       rintro e w1 hp
       obtain ⟨v, rfl, hp, hB⟩ := PostD.post hp
       have hv := hp; clear hp
       rw [HZZ.out] at hv; subst hv
       replace q1 := q1.below hB
       replace q2 := q2.below hB
       replace HG : Hid (Below w.heap.size w w1) := Lib.hid (Grow.grow_trans HG.out hB)
       replace HZ : w.heap.size ≤ w1.heap.size := Below.size HG.out
       clear hB
       have c1 := q1.cell; have f1 := q1.frozen; have l1 := q1.lt
       have c2 := q2.cell; have f2 := q2.frozen; have l2 := q2.lt
       have s3 := trivial))
  apply bodyPost_ret
  · simp [results, Try.results49, go_sem, *]; rfl
  · rfl
  · refine Post.mk ?_ ?_
    · unfold IsPl
      rw [HP.out]
      (try rfl)
    · (repeat (with_reducible first
        | exact Grow.grow_refl _
        | refine Grow.grow_setCell ?_ ?_ _
        | refine Grow.grow_alloc ?_ _
        | refine Grow.grow_drewN ?_ _
        | refine Grow.grow_over ?_ _
        | refine Grow.grow_via (by assumption) ?_)) <;> omega

set_option maxRecDepth 100000 in
set_option maxHeartbeats 4000000 in
theorem placeOf_5t (p1 p2 p3 : Nat) (hx : Tr.fin (fl p1) = true) (hy : Tr.fin (fl p2) = true) (hz : Tr.fin (fl p3) = true) (hk : (ang (fl p3) (rad ⟨fl p1, fl p2, fl p3⟩)).2 = true) (w : World) : Calls Try.prog 49 #[.agg #[.float .f64 p1, .float .f64 p2, .float .f64 p3]] w (Post (IsPl (plc ⟨fl p1, fl p2, fl p3⟩)) w) := by
  have HP := Lib.hid (plc_ok (v := ⟨fl p1, fl p2, fl p3⟩) hx hy hz hk)
  have HK := Lib.hid hk
  clear hk
  have HX : Hid (fin (fl p1) = _) := Lib.hid hx
  have HY : Hid (fin (fl p2) = _) := Lib.hid hy
  have HZZ : Hid (fin (fl p3) = _) := Lib.hid hz
  clear hx hy hz
  have s0 := trivial
  go_enter Try.func49, Try.ntmps49
  go_wp2_with (first
    | (refine wpList_arith rfl rfl (by rfl) rfl rfl ?_; intro b1 n1 H1)
    | (clear s0
       go_at_call 62
       refine Grow.seal_calls ?_
       intro W hW
       have HG : Hid (Below w.heap.size w W) := Lib.hid (by rw [hW.out]; (repeat (with_reducible first | exact Grow.grow_refl _ | refine Grow.grow_setCell ?_ ?_ _ | refine Grow.grow_alloc ?_ _ | refine Grow.grow_drewN ?_ _ | refine Grow.grow_over ?_ _ | refine Grow.grow_via (by assumption) ?_)) <;> omega)
       have HZ : w.heap.size ≤ W.heap.size := Below.size HG.out
       apply Grow.have_known (W := W)
       · rw [hW.out]; exact (Known.new _ _ _).alloc _
       intro q1
       (try simp only [World.size_alloc] at q1)
       apply Grow.have_known (W := W)
       · rw [hW.out]; exact Known.new _ _ _
       intro q2
       (try simp only [World.size_alloc] at q2)
       clear hW
       refine (finiteRef_walk _ _).mono ?_
       rintro e w1 hp
       obtain ⟨v, rfl, hp, hB⟩ := PostD.post hp
       have hv := hp; clear hp
       rw [HX.out] at hv; subst hv
       replace q1 := q1.below hB
       replace q2 := q2.below hB
       replace HG : Hid (Below w.heap.size w w1) := Lib.hid (Grow.grow_trans HG.out hB)
       replace HZ : w.heap.size ≤ w1.heap.size := Below.size HG.out
       clear hB
       have c1 := q1.cell; have f1 := q1.frozen; have l1 := q1.lt
       have c2 := q2.cell; have f2 := q2.frozen; have l2 := q2.lt
       have s1 := trivial)
    | (clear s1
       go_at_call 62
       refine Grow.seal_calls ?_
       intro W hW
       have HG2 : Hid (Below w.heap.size w W) := Lib.hid (by rw [hW.out]; (repeat (with_reducible first | exact Grow.grow_refl _ | refine Grow.grow_setCell ?_ ?_ _ | refine Grow.grow_alloc ?_ _ | refine Grow.grow_drewN ?_ _ | refine Grow.grow_over ?_ _ | refine Grow.grow_via (by assumption) ?_)) <;> omega)
       clear HG
       have HG := HG2
       clear HG2
       clear c1 f1 c2 f2
       apply Grow.have_known (W := W)
       · rw [hW.out]; apply Known.at q1; (repeat (with_reducible first | exact q1 | apply Known.same | apply Known.other | apply Known.alloc | apply Known.drewN)) <;> omega
       clear q1
       intro q1
       (try simp only [List.setIfInBounds_toArray, List.set_cons_zero, List.set_cons_succ] at q1)
       apply Grow.have_known (W := W)
       · rw [hW.out]; apply Known.at q2; (repeat (with_reducible first | exact q2 | apply Known.same | apply Known.other | apply Known.alloc | apply Known.drewN)) <;> omega
       clear q2
       intro q2
       (try simp only [List.setIfInBounds_toArray, List.set_cons_zero, List.set_cons_succ] at q2)
       replace HZ : w.heap.size ≤ W.heap.size := Below.size HG.out
       clear hW
       refine (finiteRef_walk _ _).mono ?_
       rintro e w1 hp
       obtain ⟨v, rfl, hp, hB⟩ := PostD.post hp
       have hv := hp; clear hp
       rw [HY.out] at hv; subst hv
       replace q1 := q1.below hB
       replace q2 := q2.below hB
       replace HG : Hid (Below w.heap.size w w1) := Lib.hid (Grow.grow_trans HG.out hB)
       replace HZ : w.heap.size ≤ w1.heap.size := Below.size HG.out
       clear hB
       have c1 := q1.cell; have f1 := q1.frozen; have l1 := q1.lt
       have c2 := q2.cell; have f2 := q2.frozen; have l2 := q2.lt
       have s2 := trivial)
    | (clear s2
       go_at_call 62
       refine Grow.seal_calls ?_
       intro W hW
       have HG2 : Hid (Below w.heap.size w W) := Lib.hid (by rw [hW.out]; (repeat (with_reducible first | exact Grow.grow_refl _ | refine Grow.grow_setCell ?_ ?_ _ | refine Grow.grow_alloc ?_ _ | refine Grow.grow_drewN ?_ _ | refine Grow.grow_over ?_ _ | refine Grow.grow_via (by assumption) ?_)) <;> omega)
       clear HG
       have HG := HG2
       clear HG2
       clear c1 f1 c2 f2
       apply Grow.have_known (W := W)
       · rw [hW.out]; apply Known.at q1; (repeat (with_reducible first | exact q1 | apply Known.same | apply Known.other | apply Known.alloc | apply Known.drewN)) <;> omega
       clear q1
       intro q1
       (try simp only [List.setIfInBounds_toArray, List.set_cons_zero, List.set_cons_succ] at q1)
       apply Grow.have_known (W := W)
       · rw [hW.out]; apply Known.at q2; (repeat (with_reducible first | exact q2 | apply Known.same | apply Known.other | apply Known.alloc | apply Known.drewN)) <;> omega
       clear q2
       intro q2
       (try simp only [List.setIfInBounds_toArray, List.set_cons_zero, List.set_cons_succ] at q2)
       replace HZ : w.heap.size ≤ W.heap.size := Below.size HG.out
       clear hW
       refine (finiteRef_walk _ _).mono ?_
       rintro e w1 hp
       obtain ⟨v, rfl, hp, hB⟩ := PostD.post hp
       have hv := hp; clear hp
       rw [HZZ.out] at hv; subst hv
       replace q1 := q1.below hB
       replace q2 := q2.below hB
       replace HG : Hid (Below w.heap.size w w1) := Lib.hid (Grow.grow_trans HG.out hB)
       replace HZ : w.heap.size ≤ w1.heap.size := Below.size HG.out
       clear hB
       have c1 := q1.cell; have f1 := q1.frozen; have l1 := q1.lt
       have c2 := q2.cell; have f2 := q2.frozen; have l2 := q2.lt
       have s3 := trivial)
    | (clear s3
       go_at_call 57
       refine Grow.seal_calls ?_
       intro W hW
       have HG2 : Hid (Below w.heap.size w W) := Lib.hid (by rw [hW.out]; (repeat (with_reducible first | exact Grow.grow_refl _ | refine Grow.grow_setCell ?_ ?_ _ | refine Grow.grow_alloc ?_ _ | refine Grow.grow_drewN ?_ _ | refine Grow.grow_over ?_ _ | refine Grow.grow_via (by assumption) ?_)) <;> omega)
       clear HG
       have HG := HG2
       clear HG2
       clear c1 f1 c2 f2
       apply Grow.have_known (W := W)
       · rw [hW.out]; apply Known.at q1; (repeat (with_reducible first | exact q1 | apply Known.same | apply Known.other | apply Known.alloc | apply Known.drewN)) <;> omega
       clear q1
       intro q1
       (try simp only [List.setIfInBounds_toArray, List.set_cons_zero, List.set_cons_succ] at q1)
       apply Grow.have_known (W := W)
       · rw [hW.out]; apply Known.at q2; (repeat (with_reducible first | exact q2 | apply Known.same | apply Known.other | apply Known.alloc | apply Known.drewN)) <;> omega
       clear q2
       intro q2
       (try simp only [List.setIfInBounds_toArray, List.set_cons_zero, List.set_cons_succ] at q2)
       replace HZ : w.heap.size ≤ W.heap.size := Below.size HG.out
       clear hW
       refine (plusRef_walk _ _ _ _).mono ?_
       rintro e w1 hp
       obtain ⟨v, rfl, hp, hB⟩ := PostD.post hp
       obtain ⟨b, rfl, hb⟩ := hp
       have H := Lib.hid hb; clear hb
       replace q1 := q1.below hB
       replace q2 := q2.below hB
       replace HG : Hid (Below w.heap.size w w1) := Lib.hid (Grow.grow_trans HG.out hB)
       replace HZ : w.heap.size ≤ w1.heap.size := Below.size HG.out
       clear hB
       have c1 := q1.cell; have f1 := q1.frozen; have l1 := q1.lt
       have c2 := q2.cell; have f2 := q2.frozen; have l2 := q2.lt
       have s4 := trivial)
    | (clear s4
       go_at_call 60
       refine Grow.seal_calls ?_
       intro W hW
       have HG2 : Hid (Below w.heap.size w W) := Lib.hid (by rw [hW.out]; (repeat (with_reducible first | exact Grow.grow_refl _ | refine Grow.grow_setCell ?_ ?_ _ | refine Grow.grow_alloc ?_ _ | refine Grow.grow_drewN ?_ _ | refine Grow.grow_over ?_ _ | refine Grow.grow_via (by assumption) ?_)) <;> omega)
       clear HG
       have HG := HG2
       clear HG2
       clear c1 f1 c2 f2
       apply Grow.have_known (W := W)
       · rw [hW.out]; apply Known.at q1; (repeat (with_reducible first | exact q1 | apply Known.same | apply Known.other | apply Known.alloc | apply Known.drewN)) <;> omega
       clear q1
       intro q1
       (try simp only [List.setIfInBounds_toArray, List.set_cons_zero, List.set_cons_succ] at q1)
       apply Grow.have_known (W := W)
       · rw [hW.out]; apply Known.at q2; (repeat (with_reducible first | exact q2 | apply Known.same | apply Known.other | apply Known.alloc | apply Known.drewN)) <;> omega
       clear q2
       intro q2
       (try simp only [List.setIfInBounds_toArray, List.set_cons_zero, List.set_cons_succ] at q2)
       replace HZ : w.heap.size ≤ W.heap.size := Below.size HG.out
       clear hW
       refine (sqrt_walk _ _).mono ?_
       rintro e w1 hp
       obtain ⟨v, rfl, hp, hB⟩ := PostD.post hp
       obtain ⟨b, rfl, hb⟩ := hp
       have H := Lib.hid hb; clear hb
       replace q1 := q1.below hB
       replace q2 := q2.below hB
       replace HG : Hid (Below w.heap.size w w1) := Lib.hid (Grow.grow_trans HG.out hB)
       replace HZ : w.heap.size ≤ w1.heap.size := Below.size HG.out
       clear hB
       have c1 := q1.cell; have f1 := q1.frozen; have l1 := q1.lt
       have c2 := q2.cell; have f2 := q2.frozen; have l2 := q2.lt
       have s5 := trivial)
    | (clear s5
       go_at_call 79
       refine Grow.seal_calls ?_
       intro W hW
       have HG2 : Hid (Below w.heap.size w W) := Lib.hid (by rw [hW.out]; (repeat (with_reducible first | exact Grow.grow_refl _ | refine Grow.grow_setCell ?_ ?_ _ | refine Grow.grow_alloc ?_ _ | refine Grow.grow_drewN ?_ _ | refine Grow.grow_over ?_ _ | refine Grow.grow_via (by assumption) ?_)) <;> omega)
       clear HG
       have HG := HG2
       clear HG2
       clear c1 f1 c2 f2
       apply Grow.have_known (W := W)
       · rw [hW.out]; apply Known.at q1; (repeat (with_reducible first | exact q1 | apply Known.same | apply Known.other | apply Known.alloc | apply Known.drewN)) <;> omega
       clear q1
       intro q1
       (try simp only [List.setIfInBounds_toArray, List.set_cons_zero, List.set_cons_succ] at q1)
       apply Grow.have_known (W := W)
       · rw [hW.out]; apply Known.at q2; (repeat (with_reducible first | exact q2 | apply Known.same | apply Known.other | apply Known.alloc | apply Known.drewN)) <;> omega
       clear q2
       intro q2
       (try simp only [List.setIfInBounds_toArray, List.set_cons_zero, List.set_cons_succ] at q2)
       replace HZ : w.heap.size ≤ W.heap.size := Below.size HG.out
       clear hW
       refine (angleOf_walk _ _ _).mono ?_
       rintro e w1 hp
       obtain ⟨v, rfl, hp, hB⟩ := hp
       have hA := hp; clear hp
       unfold IsA at hA; subst hA
       replace q1 := q1.below hB
       replace q2 := q2.below hB
       replace HG : Hid (Below w.heap.size w w1) := Lib.hid (Grow.grow_trans HG.out hB)
       replace HZ : w.heap.size ≤ w1.heap.size := Below.size HG.out
       clear hB
       have c1 := q1.cell; have f1 := q1.frozen; have l1 := q1.lt
       have c2 := q2.cell; have f2 := q2.frozen; have l2 := q2.lt
       have s6 := trivial
       have hb8 : fl b = fsqrt (fadd (fmul (fl p1) (fl p1)) (fmul (fl p2) (fl p2))) := by simp only [Hid, fop] at *; simp only [pls, *]
       rw [hb8, show (ang (fl p3) (fsqrt (fadd (fmul (fl p1) (fl p1)) (fmul (fl p2) (fl p2))))).2 = true from HK.out]
       clear hb8)
    | (clear s6
       go_at_call 79
       refine Grow.seal_calls ?_
       intro W hW
       have HG2 : Hid (Below w.heap.size w W) := Lib.hid (by rw [hW.out]; (repeat (with_reducible first | exact Grow.grow_refl _ | refine Grow.grow_setCell ?_ ?_ _ | refine Grow.grow_alloc ?_ _ | refine Grow.grow_drewN ?_ _ | refine Grow.grow_over ?_ _ | refine Grow.grow_via (by assumption) ?_)) <;> omega)
       clear HG
       have HG := HG2
       clear HG2
       clear c1 f1 c2 f2
       apply Grow.have_known (W := W)
       · rw [hW.out]; apply Known.at q1; (repeat (with_reducible first | exact q1 | apply Known.same | apply Known.other | apply Known.alloc | apply Known.drewN)) <;> omega
       clear q1
       intro q1
       (try simp only [List.setIfInBounds_toArray, List.set_cons_zero, List.set_cons_succ] at q1)
       apply Grow.have_known (W := W)
       · rw [hW.out]; apply Known.at q2; (repeat (with_reducible first | exact q2 | apply Known.same | apply Known.other | apply Known.alloc | apply Known.drewN)) <;> omega
       clear q2
       intro q2
       (try simp only [List.setIfInBounds_toArray, List.set_cons_zero, List.set_cons_succ] at q2)
       replace HZ : w.heap.size ≤ W.heap.size := Below.size HG.out
       clear hW
       refine (angleOf_walk _ _ _).mono ?_
       rintro e w1 hp
       obtain ⟨v, rfl, hp, hB⟩ := hp
       have hA := hp; clear hp
       unfold IsA at hA; subst hA
       replace q1 := q1.below hB
       replace q2 := q2.below hB
       replace HG : Hid (Below w.heap.size w w1) := Lib.hid (Grow.grow_trans HG.out hB)
       replace HZ : w.heap.size ≤ w1.heap.size := Below.size HG.out
       clear hB
       have c1 := q1.cell; have f1 := q1.frozen; have l1 := q1.lt
       have c2 := q2.cell; have f2 := q2.frozen; have l2 := q2.lt
       have s7 := trivial)
    | (go_at_call 52; refine (signedOf_walk _ _).mono ?_; rintro e w5 ⟨rfl, rfl⟩))
  apply bodyPost_ret
  · simp [results, Try.results49, go_sem, *]; rfl
  · rfl
  · refine Post.mk ?_ ?_
    · unfold IsPl
      rw [HP.out]
      (try rfl)
    · (repeat (with_reducible first
        | exact Grow.grow_refl _
        | refine Grow.grow_setCell ?_ ?_ _
        | refine Grow.grow_alloc ?_ _
        | refine Grow.grow_drewN ?_ _
        | refine Grow.grow_over ?_ _
        | refine Grow.grow_via (by assumption) ?_)) <;> omega

set_option maxRecDepth 100000 in
set_option maxHeartbeats 4000000 in
theorem placeOf_5f (p1 p2 p3 : Nat) (hx : Tr.fin (fl p1) = true) (hy : Tr.fin (fl p2) = true) (hz : Tr.fin (fl p3) = true) (hk : (ang (fl p3) (rad ⟨fl p1, fl p2, fl p3⟩)).2 = false) (w : World) : Calls Try.prog 49 #[.agg #[.float .f64 p1, .float .f64 p2, .float .f64 p3]] w (Post (IsPl (plc ⟨fl p1, fl p2, fl p3⟩)) w) := by
  have HP := Lib.hid (plc_no (v := ⟨fl p1, fl p2, fl p3⟩) hk)
  have HK := Lib.hid hk
  clear hk
  have HX : Hid (fin (fl p1) = _) := Lib.hid hx
  have HY : Hid (fin (fl p2) = _) := Lib.hid hy
  have HZZ : Hid (fin (fl p3) = _) := Lib.hid hz
  clear hx hy hz
  have s0 := trivial
  go_enter Try.func49, Try.ntmps49
  go_wp2_with (first
    | (refine wpList_arith rfl rfl (by rfl) rfl rfl ?_; intro b1 n1 H1)
    | (clear s0
       go_at_call 62
       refine Grow.seal_calls ?_
       intro W hW
       have HG : Hid (Below w.heap.size w W) := Lib.hid (by rw [hW.out]; (repeat (with_reducible first | exact Grow.grow_refl _ | refine Grow.grow_setCell ?_ ?_ _ | refine Grow.grow_alloc ?_ _ | refine Grow.grow_drewN ?_ _ | refine Grow.grow_over ?_ _ | refine Grow.grow_via (by assumption) ?_)) <;> omega)
       have HZ : w.heap.size ≤ W.heap.size := Below.size HG.out
       apply Grow.have_known (W := W)
       · rw [hW.out]; exact (Known.new _ _ _).alloc _
       intro q1
       (try simp only [World.size_alloc] at q1)
       apply Grow.have_known (W := W)
       · rw [hW.out]; exact Known.new _ _ _
       intro q2
       (try simp only [World.size_alloc] at q2)
       clear hW
       refine (finiteRef_walk _ _).mono ?_
       rintro e w1 hp
       obtain ⟨v, rfl, hp, hB⟩ := PostD.post hp
       have hv := hp; clear hp
       rw [HX.out] at hv; subst hv
       replace q1 := q1.below hB
       replace q2 := q2.below hB
       replace HG : Hid (Below w.heap.size w w1) := Lib.hid (Grow.grow_trans HG.out hB)
       replace HZ : w.heap.size ≤ w1.heap.size := Below.size HG.out
       clear hB
       have c1 := q1.cell; have f1 := q1.frozen; have l1 := q1.lt
       have c2 := q2.cell; have f2 := q2.frozen; have l2 := q2.lt
       have s1 := trivial)
    | (clear s1
       go_at_call 62
       refine Grow.seal_calls ?_
       intro W hW
       have HG2 : Hid (Below w.heap.size w W) := Lib.hid (by rw [hW.out]; (repeat (with_reducible first | exact Grow.grow_refl _ | refine Grow.grow_setCell ?_ ?_ _ | refine Grow.grow_alloc ?_ _ | refine Grow.grow_drewN ?_ _ | refine Grow.grow_over ?_ _ | refine Grow.grow_via (by assumption) ?_)) <;> omega)
       clear HG
       have HG := HG2
       clear HG2
       clear c1 f1 c2 f2
       apply Grow.have_known (W := W)
       · rw [hW.out]; apply Known.at q1; (repeat (with_reducible first | exact q1 | apply Known.same | apply Known.other | apply Known.alloc | apply Known.drewN)) <;> omega
       clear q1
       intro q1
       (try simp only [List.setIfInBounds_toArray, List.set_cons_zero, List.set_cons_succ] at q1)
       apply Grow.have_known (W := W)
       · rw [hW.out]; apply Known.at q2; (repeat (with_reducible first | exact q2 | apply Known.same | apply Known.other | apply Known.alloc | apply Known.drewN)) <;> omega
       clear q2
       intro q2
       (try simp only [List.setIfInBounds_toArray, List.set_cons_zero, List.set_cons_succ] at q2)
       replace HZ : w.heap.size ≤ W.heap.size := Below.size HG.out
       clear hW
       refine (finiteRef_walk _ _).mono ?_
       rintro e w1 hp
       obtain ⟨v, rfl, hp, hB⟩ := PostD.post hp
       have hv := hp; clear hp
       rw [HY.out] at hv; subst hv
       replace q1 := q1.below hB
       replace q2 := q2.below hB
       replace HG : Hid (Below w.heap.size w w1) := Lib.hid (Grow.grow_trans HG.out hB)
       replace HZ : w.heap.size ≤ w1.heap.size := Below.size HG.out
       clear hB
       have c1 := q1.cell; have f1 := q1.frozen; have l1 := q1.lt
       have c2 := q2.cell; have f2 := q2.frozen; have l2 := q2.lt
       have s2 := trivial)
    | (clear s2
       go_at_call 62
       refine Grow.seal_calls ?_
       intro W hW
       have HG2 : Hid (Below w.heap.size w W) := Lib.hid (by rw [hW.out]; (repeat (with_reducible first | exact Grow.grow_refl _ | refine Grow.grow_setCell ?_ ?_ _ | refine Grow.grow_alloc ?_ _ | refine Grow.grow_drewN ?_ _ | refine Grow.grow_over ?_ _ | refine Grow.grow_via (by assumption) ?_)) <;> omega)
       clear HG
       have HG := HG2
       clear HG2
       clear c1 f1 c2 f2
       apply Grow.have_known (W := W)
       · rw [hW.out]; apply Known.at q1; (repeat (with_reducible first | exact q1 | apply Known.same | apply Known.other | apply Known.alloc | apply Known.drewN)) <;> omega
       clear q1
       intro q1
       (try simp only [List.setIfInBounds_toArray, List.set_cons_zero, List.set_cons_succ] at q1)
       apply Grow.have_known (W := W)
       · rw [hW.out]; apply Known.at q2; (repeat (with_reducible first | exact q2 | apply Known.same | apply Known.other | apply Known.alloc | apply Known.drewN)) <;> omega
       clear q2
       intro q2
       (try simp only [List.setIfInBounds_toArray, List.set_cons_zero, List.set_cons_succ] at q2)
       replace HZ : w.heap.size ≤ W.heap.size := Below.size HG.out
       clear hW
       refine (finiteRef_walk _ _).mono ?_
       rintro e w1 hp
       obtain ⟨v, rfl, hp, hB⟩ := PostD.post hp
       have hv := hp; clear hp
       rw [HZZ.out] at hv; subst hv
       replace q1 := q1.below hB
       replace q2 := q2.below hB
       replace HG : Hid (Below w.heap.size w w1) := Lib.hid (Grow.grow_trans HG.out hB)
       replace HZ : w.heap.size ≤ w1.heap.size := Below.size HG.out
       clear hB
       have c1 := q1.cell; have f1 := q1.frozen; have l1 := q1.lt
       have c2 := q2.cell; have f2 := q2.frozen; have l2 := q2.lt
       have s3 := trivial)
    | (clear s3
       go_at_call 57
       refine Grow.seal_calls ?_
       intro W hW
       have HG2 : Hid (Below w.heap.size w W) := Lib.hid (by rw [hW.out]; (repeat (with_reducible first | exact Grow.grow_refl _ | refine Grow.grow_setCell ?_ ?_ _ | refine Grow.grow_alloc ?_ _ | refine Grow.grow_drewN ?_ _ | refine Grow.grow_over ?_ _ | refine Grow.grow_via (by assumption) ?_)) <;> omega)
       clear HG
       have HG := HG2
       clear HG2
       clear c1 f1 c2 f2
       apply Grow.have_known (W := W)
       · rw [hW.out]; apply Known.at q1; (repeat (with_reducible first | exact q1 | apply Known.same | apply Known.other | apply Known.alloc | apply Known.drewN)) <;> omega
       clear q1
       intro q1
       (try simp only [List.setIfInBounds_toArray, List.set_cons_zero, List.set_cons_succ] at q1)
       apply Grow.have_known (W := W)
       · rw [hW.out]; apply Known.at q2; (repeat (with_reducible first | exact q2 | apply Known.same | apply Known.other | apply Known.alloc | apply Known.drewN)) <;> omega
       clear q2
       intro q2
       (try simp only [List.setIfInBounds_toArray, List.set_cons_zero, List.set_cons_succ] at q2)
       replace HZ : w.heap.size ≤ W.heap.size := Below.size HG.out
       clear hW
       refine (plusRef_walk _ _ _ _).mono ?_
       rintro e w1 hp
       obtain ⟨v, rfl, hp, hB⟩ := PostD.post hp
       obtain ⟨b, rfl, hb⟩ := hp
       have H := Lib.hid hb; clear hb
       replace q1 := q1.below hB
       replace q2 := q2.below hB
       replace HG : Hid (Below w.heap.size w w1) := Lib.hid (Grow.grow_trans HG.out hB)
       replace HZ : w.heap.size ≤ w1.heap.size := Below.size HG.out
       clear hB
       have c1 := q1.cell; have f1 := q1.frozen; have l1 := q1.lt
       have c2 := q2.cell; have f2 := q2.frozen; have l2 := q2.lt
       have s4 := trivial)
    | (clear s4
       go_at_call 60
       refine Grow.seal_calls ?_
       intro W hW
       have HG2 : Hid (Below w.heap.size w W) := Lib.hid (by rw [hW.out]; (repeat (with_reducible first | exact Grow.grow_refl _ | refine Grow.grow_setCell ?_ ?_ _ | refine Grow.grow_alloc ?_ _ | refine Grow.grow_drewN ?_ _ | refine Grow.grow_over ?_ _ | refine Grow.grow_via (by assumption) ?_)) <;> omega)
       clear HG
       have HG := HG2
       clear HG2
       clear c1 f1 c2 f2
       apply Grow.have_known (W := W)
       · rw [hW.out]; apply Known.at q1; (repeat (with_reducible first | exact q1 | apply Known.same | apply Known.other | apply Known.alloc | apply Known.drewN)) <;> omega
       clear q1
       intro q1
       (try simp only [List.setIfInBounds_toArray, List.set_cons_zero, List.set_cons_succ] at q1)
       apply Grow.have_known (W := W)
       · rw [hW.out]; apply Known.at q2; (repeat (with_reducible first | exact q2 | apply Known.same | apply Known.other | apply Known.alloc | apply Known.drewN)) <;> omega
       clear q2
       intro q2
       (try simp only [List.setIfInBounds_toArray, List.set_cons_zero, List.set_cons_succ] at q2)
       replace HZ : w.heap.size ≤ W.heap.size := Below.size HG.out
       clear hW
       refine (sqrt_walk _ _).mono ?_
       rintro e w1 hp
       obtain ⟨v, rfl, hp, hB⟩ := PostD.post hp
       obtain ⟨b, rfl, hb⟩ := hp
       have H := Lib.hid hb; clear hb
       replace q1 := q1.below hB
       replace q2 := q2.below hB
       replace HG : Hid (Below w.heap.size w w1) := Lib.hid (Grow.grow_trans HG.out hB)
       replace HZ : w.heap.size ≤ w1.heap.size := Below.size HG.out
       clear hB
       have c1 := q1.cell; have f1 := q1.frozen; have l1 := q1.lt
       have c2 := q2.cell; have f2 := q2.frozen; have l2 := q2.lt
       have s5 := trivial)
    | (clear s5
       go_at_call 79
       refine Grow.seal_calls ?_
       intro W hW
       have HG2 : Hid (Below w.heap.size w W) := Lib.hid (by rw [hW.out]; (repeat (with_reducible first | exact Grow.grow_refl _ | refine Grow.grow_setCell ?_ ?_ _ | refine Grow.grow_alloc ?_ _ | refine Grow.grow_drewN ?_ _ | refine Grow.grow_over ?_ _ | refine Grow.grow_via (by assumption) ?_)) <;> omega)
       clear HG
       have HG := HG2
       clear HG2
       clear c1 f1 c2 f2
       apply Grow.have_known (W := W)
       · rw [hW.out]; apply Known.at q1; (repeat (with_reducible first | exact q1 | apply Known.same | apply Known.other | apply Known.alloc | apply Known.drewN)) <;> omega
       clear q1
       intro q1
       (try simp only [List.setIfInBounds_toArray, List.set_cons_zero, List.set_cons_succ] at q1)
       apply Grow.have_known (W := W)
       · rw [hW.out]; apply Known.at q2; (repeat (with_reducible first | exact q2 | apply Known.same | apply Known.other | apply Known.alloc | apply Known.drewN)) <;> omega
       clear q2
       intro q2
       (try simp only [List.setIfInBounds_toArray, List.set_cons_zero, List.set_cons_succ] at q2)
       replace HZ : w.heap.size ≤ W.heap.size := Below.size HG.out
       clear hW
       refine (angleOf_walk _ _ _).mono ?_
       rintro e w1 hp
       obtain ⟨v, rfl, hp, hB⟩ := hp
       have hA := hp; clear hp
       unfold IsA at hA; subst hA
       replace q1 := q1.below hB
       replace q2 := q2.below hB
       replace HG : Hid (Below w.heap.size w w1) := Lib.hid (Grow.grow_trans HG.out hB)
       replace HZ : w.heap.size ≤ w1.heap.size := Below.size HG.out
       clear hB
       have c1 := q1.cell; have f1 := q1.frozen; have l1 := q1.lt
       have c2 := q2.cell; have f2 := q2.frozen; have l2 := q2.lt
       have s6 := trivial
       have hb8 : fl b = fsqrt (fadd (fmul (fl p1) (fl p1)) (fmul (fl p2) (fl p2))) := by simp only [Hid, fop] at *; simp only [pls, *]
       rw [hb8, show (ang (fl p3) (fsqrt (fadd (fmul (fl p1) (fl p1)) (fmul (fl p2) (fl p2))))).2 = false from HK.out]
       clear hb8)
    | (clear s6
       go_at_call 79
       refine Grow.seal_calls ?_
       intro W hW
       have HG2 : Hid (Below w.heap.size w W) := Lib.hid (by rw [hW.out]; (repeat (with_reducible first | exact Grow.grow_refl _ | refine Grow.grow_setCell ?_ ?_ _ | refine Grow.grow_alloc ?_ _ | refine Grow.grow_drewN ?_ _ | refine Grow.grow_over ?_ _ | refine Grow.grow_via (by assumption) ?_)) <;> omega)
       clear HG
       have HG := HG2
       clear HG2
       clear c1 f1 c2 f2
       apply Grow.have_known (W := W)
       · rw [hW.out]; apply Known.at q1; (repeat (with_reducible first | exact q1 | apply Known.same | apply Known.other | apply Known.alloc | apply Known.drewN)) <;> omega
       clear q1
       intro q1
       (try simp only [List.setIfInBounds_toArray, List.set_cons_zero, List.set_cons_succ] at q1)
       apply Grow.have_known (W := W)
       · rw [hW.out]; apply Known.at q2; (repeat (with_reducible first | exact q2 | apply Known.same | apply Known.other | apply Known.alloc | apply Known.drewN)) <;> omega
       clear q2
       intro q2
       (try simp only [List.setIfInBounds_toArray, List.set_cons_zero, List.set_cons_succ] at q2)
       replace HZ : w.heap.size ≤ W.heap.size := Below.size HG.out
       clear hW
       refine (angleOf_walk _ _ _).mono ?_
       rintro e w1 hp
       obtain ⟨v, rfl, hp, hB⟩ := hp
       have hA := hp; clear hp
       unfold IsA at hA; subst hA
       replace q1 := q1.below hB
       replace q2 := q2.below hB
       replace HG : Hid (Below w.heap.size w w1) := Lib.hid (Grow.grow_trans HG.out hB)
       replace HZ : w.heap.size ≤ w1.heap.size := Below.size HG.out
       clear hB
       have c1 := q1.cell; have f1 := q1.frozen; have l1 := q1.lt
       have c2 := q2.cell; have f2 := q2.frozen; have l2 := q2.lt
       have s7 := trivial)
    | (go_at_call 52; refine (signedOf_walk _ _).mono ?_; rintro e w5 ⟨rfl, rfl⟩))
  apply bodyPost_ret
  · simp [results, Try.results49, go_sem, *]; rfl
  · rfl
  · refine Post.mk ?_ ?_
    · unfold IsPl
      rw [HP.out]
      (try rfl)
    · (repeat (with_reducible first
        | exact Grow.grow_refl _
        | refine Grow.grow_setCell ?_ ?_ _
        | refine Grow.grow_alloc ?_ _
        | refine Grow.grow_drewN ?_ _
        | refine Grow.grow_over ?_ _
        | refine Grow.grow_via (by assumption) ?_)) <;> omega

theorem where_walk (p1 p2 p3 : Nat) (w : World) : Calls Try.prog 48 #[.agg #[.float .f64 p1, .float .f64 p2, .float .f64 p3]] w (Post (IsPl (plc ⟨fl p1, fl p2, fl p3⟩)) w) := by
  cases hx : Tr.fin (fl p1)
  · exact where_1 p1 p2 p3 hx w
  cases hy : Tr.fin (fl p2)
  · exact where_2 p1 p2 p3 hx hy w
  cases hz : Tr.fin (fl p3)
  · exact where_3 p1 p2 p3 hx hy hz w
  cases h0 : (feq (fl p1) (some 0) && feq (fl p2) (some 0) && feq (fl p3) (some 0))
  · cases hk : (ang (fl p3) (rad ⟨fl p1, fl p2, fl p3⟩)).2
    · exact where_5f p1 p2 p3 hx hy hz h0 hk w
    · exact where_5t p1 p2 p3 hx hy hz h0 hk w
  · exact where_4 p1 p2 p3 hx hy hz h0 w
theorem placeOf_walk (p1 p2 p3 : Nat) (w : World) : Calls Try.prog 49 #[.agg #[.float .f64 p1, .float .f64 p2, .float .f64 p3]] w (Post (IsPl (plc ⟨fl p1, fl p2, fl p3⟩)) w) := by
  cases hx : Tr.fin (fl p1)
  · cases hy : Tr.fin (fl p2) <;> cases hz : Tr.fin (fl p3) <;> exact placeOf_1 p1 p2 p3 _ _ hx hy hz w
  cases hy : Tr.fin (fl p2)
  · cases hz : Tr.fin (fl p3) <;> exact placeOf_2 p1 p2 p3 _ hx hy hz w
  cases hz : Tr.fin (fl p3)
  · exact placeOf_3 p1 p2 p3 hx hy hz w
  cases hk : (ang (fl p3) (rad ⟨fl p1, fl p2, fl p3⟩)).2
  · exact placeOf_5f p1 p2 p3 hx hy hz hk w
  · exact placeOf_5t p1 p2 p3 hx hy hz hk w

end Go.Proofs.Ytdnclgpjcgamgaa
