/- SpinGood: the walk of the law. -/
import Derived.Test.YtdnclgpjcgamgaaS18
import Derived.Test.YtdnclgpjcgamgaaS23
set_option linter.unusedSimpArgs false
set_option linter.unusedVariables false
namespace Go.Proofs.Ytdnclgpjcgamgaa
open Go.RowKit Go.Fl Go.Grow Go.Tr

theorem m3_eq' {a b c d e f g h i : Nat} {X : M3} (h1 : fl a = X.a.x) (h2 : fl b = X.a.y) (h3 : fl c = X.a.z) (h4 : fl d = X.b.x) (h5 : fl e = X.b.y) (h6 : fl f = X.b.z) (h7 : fl g = X.c.x) (h8 : fl h = X.c.y) (h9 : fl i = X.c.z) :
    M3.mk ⟨fl a, fl b, fl c⟩ ⟨fl d, fl e, fl f⟩ ⟨fl g, fl h, fl i⟩ = X := by rw [h1, h2, h3, h4, h5, h6, h7, h8, h9]
theorem q4_eq' {a b c d : Nat} {X : Q4} (h1 : fl a = X.w) (h2 : fl b = X.x) (h3 : fl c = X.y) (h4 : fl d = X.z) : Q4.mk (fl a) (fl b) (fl c) (fl d) = X := by rw [h1, h2, h3, h4]
theorem v3_eq' {a b c : Nat} {X : V3} (h1 : fl a = X.x) (h2 : fl b = X.y) (h3 : fl c = X.z) : V3.mk (fl a) (fl b) (fl c) = X := by rw [h1, h2, h3]
/-- As wpList_arith, at an operation whose guard says yes. -/
theorem wpList_arith_on {P : Program} {ops : Array Oper} {rest : List Oper} {o : Oper} {a : Act} {w : World} {Q : Exit → Act → World → Prop} (hw : Region.wanted o (yielded ops a.tmps) = true)
    {bop : BinOp} {t t2 : TypeId} {x y : Operand} {b1 b2 : Nat} (hop : o.op = .binOp bop t x y t2) (hb : (bop == .add || bop == .sub || bop == .mul || bop == .quo) = true)
    (hx : a.eval x = .float .f64 b1) (hy : a.eval y = .float .f64 b2)
    (h : ∀ b n, Hid (fl b = fop bop (fl b1) (fl b2)) → wpList P ops Q rest (a.put o.dst (.float .f64 b)) (w.drewN n)) : wpList P ops Q (o :: rest) a w := by
  obtain ⟨b, h1, n, h3⟩ := exec_arith (P := P) hop hb hx hy w
  refine wpList_step fun K hK => ?_
  rw [if_pos hw]
  unfold Oper.wp
  rw [h3]
  exact hK _ _ (h b n h1)
/-- A test that something is within. -/
theorem within_at (a b : Nat) (X M : Option Nat) (h : Fe.InOk X M) (ha : fl a = X) (hb : fl b = M) (w : World) : Calls Try.prog 43 #[.float .f64 a, .float .f64 b] w (Post (fun v => v = .bool true) w) := by
  obtain ⟨x, m, hx, hm, fx, fm, h1, h2⟩ := h
  refine within_walk a b ?_ ?_ w
  · rw [ha, hb, hx, hm, Fe.fle_val fx fm]
    simpa using h1
  · rw [ha, hb, hx, hm]
    obtain ⟨nf, nv⟩ := Fe.neg_val fm
    show Fe.fge (some x) (some (Op.negFloat .f64 m)) = true
    rw [Fe.fge_val fx nf, nv]
    simpa using h2
/-- What is within the told unit. -/
structure Goods (R : Q4) (v : V3) : Prop where
  d1 : Fe.InOk (dt (mat R).a (mat R).b) (fl 4400016835940974592)
  d2 : Fe.InOk (dt (mat R).b (mat R).c) (fl 4400016835940974592)
  d3 : Fe.InOk (dt (mat R).c (mat R).a) (fl 4400016835940974592)
  l1 : Fe.InOk (fsub (vlen (mat R).a) (fl 4607182418800017408)) (fl 4400016835940974592)
  l2 : Fe.InOk (fsub (vlen (mat R).b) (fl 4607182418800017408)) (fl 4400016835940974592)
  l3 : Fe.InOk (fsub (vlen (mat R).c) (fl 4607182418800017408)) (fl 4400016835940974592)
  n : Fe.InOk (fsub (vlen (app (mat R) v)) (vlen v)) (fmul (fl 4400016835940974592) (vlen v))
  b1 : Fe.InOk (fsub (app (mat (qback R)) (app (mat R) v)).x v.x) (fmul (fl 4400016835940974592) (vlen v))
  b2 : Fe.InOk (fsub (app (mat (qback R)) (app (mat R) v)).y v.y) (fmul (fl 4400016835940974592) (vlen v))
  b3 : Fe.InOk (fsub (app (mat (qback R)) (app (mat R) v)).z v.z) (fmul (fl 4400016835940974592) (vlen v))
theorem qback_eq {a b c d : Nat} {R : Q4} (h : Q4.mk (fl a) (fl b) (fl c) (fl d) = R) : Q4.mk (fl a) (fl (Op.negFloat .f64 b)) (fl (Op.negFloat .f64 c)) (fl (Op.negFloat .f64 d)) = qback R := by
  rw [fl_neg, fl_neg, fl_neg, ← h]; rfl
/-- What the callees give. -/
def SpecGood : FuncId → Array Value → Value → Prop
  | 20, ⟨[.agg ⟨[.float .f64 a, .float .f64 b, .float .f64 c, .float .f64 d]⟩]⟩, v => v = .agg #[.float .f64 a, .float .f64 (Op.negFloat .f64 b), .float .f64 (Op.negFloat .f64 c), .float .f64 (Op.negFloat .f64 d)]
  | 32, ⟨[.agg ⟨[.float .f64 e, .float .f64 f, .float .f64 g, .float .f64 h]⟩, .agg ⟨[.float .f64 a, .float .f64 b, .float .f64 c]⟩]⟩, v => IsV (app (mat ⟨fl e, fl f, fl g, fl h⟩) ⟨fl a, fl b, fl c⟩) v
  | _, _, _ => False

set_option maxRecDepth 100000 in
set_option maxHeartbeats 16000000 in
theorem spinGood_unit_no (a1 a2 a3 : Nat) (half : Int) (qa qb qc qd v1 v2 v3 : Nat) (R : Q4) (hX : qunit ⟨fl qa, fl qb, fl qc, fl qd⟩ = (R, false)) (w : World) :
    Calls Try.prog 8 #[.agg #[.float .f64 a1, .float .f64 a2, .float .f64 a3], .int .i64 half, .agg #[.float .f64 qa, .float .f64 qb, .float .f64 qc, .float .f64 qd], .bool false, .agg #[.float .f64 v1, .float .f64 v2, .float .f64 v3]] w (Post (fun v => v = .bool true) w) := by
  have HX := Lib.hid hX
  clear hX
  have s0 := trivial
  go_enter Try.func8, Try.ntmps8
  go_wp2_with (first
    | (refine wpList_arith rfl rfl (by rfl) rfl rfl ?_; intro b1 n1 H1)
    | (clear s0
       go_at_call 12
       refine Grow.seal_calls ?_
       intro W hW
       have HG : Hid (Below w.heap.size w W) := Lib.hid (by rw [hW.out]; (repeat (with_reducible first | exact Grow.grow_refl _ | refine Grow.grow_setCell ?_ ?_ _ | refine Grow.grow_alloc ?_ _ | refine Grow.grow_drewN ?_ _ | refine Grow.grow_over ?_ _ | refine Grow.grow_via (by assumption) ?_)) <;> omega)
       have HZ : w.heap.size ≤ W.heap.size := Below.size HG.out
       apply Grow.have_known (W := W)
       · rw [hW.out]; exact ((Known.new _ _ _).alloc _).alloc _
       intro q5
       (try simp only [World.size_alloc] at q5)
       apply Grow.have_known (W := W)
       · rw [hW.out]; exact (Known.new _ _ _).alloc _
       intro q7
       (try simp only [World.size_alloc] at q7)
       apply Grow.have_known (W := W)
       · rw [hW.out]; exact Known.new _ _ _
       intro q9
       (try simp only [World.size_alloc] at q9)
       clear hW
       refine (turns_walk _).mono ?_
       rintro e w1 hp
       obtain ⟨v, rfl, hp, hB⟩ := hp
       subst hp
       skip
       replace q5 := q5.below hB
       replace q7 := q7.below hB
       replace q9 := q9.below hB
       replace HG : Hid (Below w.heap.size w w1) := Lib.hid (Grow.grow_trans HG.out hB)
       replace HZ : w.heap.size ≤ w1.heap.size := Below.size HG.out
       clear hB
       have c5 := q5.cell; have f5 := q5.frozen; have l5 := q5.lt
       have c7 := q7.cell; have f7 := q7.frozen; have l7 := q7.lt
       have c9 := q9.cell; have f9 := q9.frozen; have l9 := q9.lt
       have s1 := trivial)
    | (clear s1
       go_at_call 40
       refine Grow.seal_calls ?_
       intro W hW
       have HG2 : Hid (Below w.heap.size w W) := Lib.hid (by rw [hW.out]; (repeat (with_reducible first | exact Grow.grow_refl _ | refine Grow.grow_setCell ?_ ?_ _ | refine Grow.grow_alloc ?_ _ | refine Grow.grow_drewN ?_ _ | refine Grow.grow_over ?_ _ | refine Grow.grow_via (by assumption) ?_)) <;> omega)
       clear HG
       have HG := HG2
       clear HG2
       clear c5 f5 c7 f7 c9 f9
       apply Grow.have_known (W := W)
       · rw [hW.out]; apply Known.at q5; (repeat (with_reducible first | exact q5 | apply Known.same | apply Known.other | apply Known.alloc | apply Known.drewN)) <;> omega
       clear q5
       intro q5
       (try simp only [List.setIfInBounds_toArray, List.set_cons_zero, List.set_cons_succ] at q5)
       apply Grow.have_known (W := W)
       · rw [hW.out]; apply Known.at q7; (repeat (with_reducible first | exact q7 | apply Known.same | apply Known.other | apply Known.alloc | apply Known.drewN)) <;> omega
       clear q7
       intro q7
       (try simp only [List.setIfInBounds_toArray, List.set_cons_zero, List.set_cons_succ] at q7)
       apply Grow.have_known (W := W)
       · rw [hW.out]; apply Known.at q9; (repeat (with_reducible first | exact q9 | apply Known.same | apply Known.other | apply Known.alloc | apply Known.drewN)) <;> omega
       clear q9
       intro q9
       (try simp only [List.setIfInBounds_toArray, List.set_cons_zero, List.set_cons_succ] at q9)
       replace HZ : w.heap.size ≤ W.heap.size := Below.size HG.out
       clear hW
       refine (mildVec_walk _ _ _ _).mono ?_
       rintro e w1 hp
       obtain ⟨v, rfl, hp, hB⟩ := hp
       obtain ⟨r1, rfl, m1⟩ := hp
       have M1 := Lib.hid m1; clear m1
       replace q5 := q5.below hB
       replace q7 := q7.below hB
       replace q9 := q9.below hB
       replace HG : Hid (Below w.heap.size w w1) := Lib.hid (Grow.grow_trans HG.out hB)
       replace HZ : w.heap.size ≤ w1.heap.size := Below.size HG.out
       clear hB
       have c5 := q5.cell; have f5 := q5.frozen; have l5 := q5.lt
       have c7 := q7.cell; have f7 := q7.frozen; have l7 := q7.lt
       have c9 := q9.cell; have f9 := q9.frozen; have l9 := q9.lt
       have s2 := trivial)
    | (clear s2
       go_at_call 40
       refine Grow.seal_calls ?_
       intro W hW
       have HG2 : Hid (Below w.heap.size w W) := Lib.hid (by rw [hW.out]; (repeat (with_reducible first | exact Grow.grow_refl _ | refine Grow.grow_setCell ?_ ?_ _ | refine Grow.grow_alloc ?_ _ | refine Grow.grow_drewN ?_ _ | refine Grow.grow_over ?_ _ | refine Grow.grow_via (by assumption) ?_)) <;> omega)
       clear HG
       have HG := HG2
       clear HG2
       clear c5 f5 c7 f7 c9 f9
       apply Grow.have_known (W := W)
       · rw [hW.out]; apply Known.at q5; (repeat (with_reducible first | exact q5 | apply Known.same | apply Known.other | apply Known.alloc | apply Known.drewN)) <;> omega
       clear q5
       intro q5
       (try simp only [List.setIfInBounds_toArray, List.set_cons_zero, List.set_cons_succ] at q5)
       apply Grow.have_known (W := W)
       · rw [hW.out]; apply Known.at q7; (repeat (with_reducible first | exact q7 | apply Known.same | apply Known.other | apply Known.alloc | apply Known.drewN)) <;> omega
       clear q7
       intro q7
       (try simp only [List.setIfInBounds_toArray, List.set_cons_zero, List.set_cons_succ] at q7)
       apply Grow.have_known (W := W)
       · rw [hW.out]; apply Known.at q9; (repeat (with_reducible first | exact q9 | apply Known.same | apply Known.other | apply Known.alloc | apply Known.drewN)) <;> omega
       clear q9
       intro q9
       (try simp only [List.setIfInBounds_toArray, List.set_cons_zero, List.set_cons_succ] at q9)
       replace HZ : w.heap.size ≤ W.heap.size := Below.size HG.out
       clear hW
       refine (mildVec_walk _ _ _ _).mono ?_
       rintro e w1 hp
       obtain ⟨v, rfl, hp, hB⟩ := hp
       obtain ⟨r2, rfl, m2⟩ := hp
       have M2 := Lib.hid m2; clear m2
       replace q5 := q5.below hB
       replace q7 := q7.below hB
       replace q9 := q9.below hB
       replace HG : Hid (Below w.heap.size w w1) := Lib.hid (Grow.grow_trans HG.out hB)
       replace HZ : w.heap.size ≤ w1.heap.size := Below.size HG.out
       clear hB
       have c5 := q5.cell; have f5 := q5.frozen; have l5 := q5.lt
       have c7 := q7.cell; have f7 := q7.frozen; have l7 := q7.lt
       have c9 := q9.cell; have f9 := q9.frozen; have l9 := q9.lt
       have s3 := trivial)
    | (clear s3
       go_at_call 40
       refine Grow.seal_calls ?_
       intro W hW
       have HG2 : Hid (Below w.heap.size w W) := Lib.hid (by rw [hW.out]; (repeat (with_reducible first | exact Grow.grow_refl _ | refine Grow.grow_setCell ?_ ?_ _ | refine Grow.grow_alloc ?_ _ | refine Grow.grow_drewN ?_ _ | refine Grow.grow_over ?_ _ | refine Grow.grow_via (by assumption) ?_)) <;> omega)
       clear HG
       have HG := HG2
       clear HG2
       clear c5 f5 c7 f7 c9 f9
       apply Grow.have_known (W := W)
       · rw [hW.out]; apply Known.at q5; (repeat (with_reducible first | exact q5 | apply Known.same | apply Known.other | apply Known.alloc | apply Known.drewN)) <;> omega
       clear q5
       intro q5
       (try simp only [List.setIfInBounds_toArray, List.set_cons_zero, List.set_cons_succ] at q5)
       apply Grow.have_known (W := W)
       · rw [hW.out]; apply Known.at q7; (repeat (with_reducible first | exact q7 | apply Known.same | apply Known.other | apply Known.alloc | apply Known.drewN)) <;> omega
       clear q7
       intro q7
       (try simp only [List.setIfInBounds_toArray, List.set_cons_zero, List.set_cons_succ] at q7)
       apply Grow.have_known (W := W)
       · rw [hW.out]; apply Known.at q9; (repeat (with_reducible first | exact q9 | apply Known.same | apply Known.other | apply Known.alloc | apply Known.drewN)) <;> omega
       clear q9
       intro q9
       (try simp only [List.setIfInBounds_toArray, List.set_cons_zero, List.set_cons_succ] at q9)
       replace HZ : w.heap.size ≤ W.heap.size := Below.size HG.out
       clear hW
       refine (mildVec_walk _ _ _ _).mono ?_
       rintro e w1 hp
       obtain ⟨v, rfl, hp, hB⟩ := hp
       obtain ⟨r3, rfl, m3⟩ := hp
       have M3 := Lib.hid m3; clear m3
       replace q5 := q5.below hB
       replace q7 := q7.below hB
       replace q9 := q9.below hB
       replace HG : Hid (Below w.heap.size w w1) := Lib.hid (Grow.grow_trans HG.out hB)
       replace HZ : w.heap.size ≤ w1.heap.size := Below.size HG.out
       clear hB
       have c5 := q5.cell; have f5 := q5.frozen; have l5 := q5.lt
       have c7 := q7.cell; have f7 := q7.frozen; have l7 := q7.lt
       have c9 := q9.cell; have f9 := q9.frozen; have l9 := q9.lt
       have s4 := trivial)
    | (clear s4
       go_at_call 41
       refine Grow.seal_calls ?_
       intro W hW
       have HG2 : Hid (Below w.heap.size w W) := Lib.hid (by rw [hW.out]; (repeat (with_reducible first | exact Grow.grow_refl _ | refine Grow.grow_setCell ?_ ?_ _ | refine Grow.grow_alloc ?_ _ | refine Grow.grow_drewN ?_ _ | refine Grow.grow_over ?_ _ | refine Grow.grow_via (by assumption) ?_)) <;> omega)
       clear HG
       have HG := HG2
       clear HG2
       clear c5 f5 c7 f7 c9 f9
       apply Grow.have_known (W := W)
       · rw [hW.out]; apply Known.at q5; (repeat (with_reducible first | exact q5 | apply Known.same | apply Known.other | apply Known.alloc | apply Known.drewN)) <;> omega
       clear q5
       intro q5
       (try simp only [List.setIfInBounds_toArray, List.set_cons_zero, List.set_cons_succ] at q5)
       apply Grow.have_known (W := W)
       · rw [hW.out]; apply Known.at q7; (repeat (with_reducible first | exact q7 | apply Known.same | apply Known.other | apply Known.alloc | apply Known.drewN)) <;> omega
       clear q7
       intro q7
       (try simp only [List.setIfInBounds_toArray, List.set_cons_zero, List.set_cons_succ] at q7)
       apply Grow.have_known (W := W)
       · rw [hW.out]; apply Known.at q9; (repeat (with_reducible first | exact q9 | apply Known.same | apply Known.other | apply Known.alloc | apply Known.drewN)) <;> omega
       clear q9
       intro q9
       (try simp only [List.setIfInBounds_toArray, List.set_cons_zero, List.set_cons_succ] at q9)
       replace HZ : w.heap.size ≤ W.heap.size := Below.size HG.out
       clear hW
       refine (mild_walk _ _).mono ?_
       rintro e w1 hp
       obtain ⟨v, rfl, hp, hB⟩ := hp
       obtain ⟨r4, rfl, m4⟩ := hp
       have M4 := Lib.hid m4; clear m4
       replace q5 := q5.below hB
       replace q7 := q7.below hB
       replace q9 := q9.below hB
       replace HG : Hid (Below w.heap.size w w1) := Lib.hid (Grow.grow_trans HG.out hB)
       replace HZ : w.heap.size ≤ w1.heap.size := Below.size HG.out
       clear hB
       have c5 := q5.cell; have f5 := q5.frozen; have l5 := q5.lt
       have c7 := q7.cell; have f7 := q7.frozen; have l7 := q7.lt
       have c9 := q9.cell; have f9 := q9.frozen; have l9 := q9.lt
       have s5 := trivial)
    | (clear s5
       go_at_call 14
       refine Grow.seal_calls ?_
       intro W hW
       have HG2 : Hid (Below w.heap.size w W) := Lib.hid (by rw [hW.out]; (repeat (with_reducible first | exact Grow.grow_refl _ | refine Grow.grow_setCell ?_ ?_ _ | refine Grow.grow_alloc ?_ _ | refine Grow.grow_drewN ?_ _ | refine Grow.grow_over ?_ _ | refine Grow.grow_via (by assumption) ?_)) <;> omega)
       clear HG
       have HG := HG2
       clear HG2
       clear c5 f5 c7 f7 c9 f9
       apply Grow.have_known (W := W)
       · rw [hW.out]; apply Known.at q5; (repeat (with_reducible first | exact q5 | apply Known.same | apply Known.other | apply Known.alloc | apply Known.drewN)) <;> omega
       clear q5
       intro q5
       (try simp only [List.setIfInBounds_toArray, List.set_cons_zero, List.set_cons_succ] at q5)
       apply Grow.have_known (W := W)
       · rw [hW.out]; apply Known.at q7; (repeat (with_reducible first | exact q7 | apply Known.same | apply Known.other | apply Known.alloc | apply Known.drewN)) <;> omega
       clear q7
       intro q7
       (try simp only [List.setIfInBounds_toArray, List.set_cons_zero, List.set_cons_succ] at q7)
       apply Grow.have_known (W := W)
       · rw [hW.out]; apply Known.at q9; (repeat (with_reducible first | exact q9 | apply Known.same | apply Known.other | apply Known.alloc | apply Known.drewN)) <;> omega
       clear q9
       intro q9
       (try simp only [List.setIfInBounds_toArray, List.set_cons_zero, List.set_cons_succ] at q9)
       replace HZ : w.heap.size ≤ W.heap.size := Below.size HG.out
       clear hW
       refine (q_walk _ _ _ _ _).mono ?_
       rintro e w1 hp
       obtain ⟨v, rfl, hp, hB⟩ := hp
       subst hp
       skip
       replace q5 := q5.below hB
       replace q7 := q7.below hB
       replace q9 := q9.below hB
       replace HG : Hid (Below w.heap.size w w1) := Lib.hid (Grow.grow_trans HG.out hB)
       replace HZ : w.heap.size ≤ w1.heap.size := Below.size HG.out
       clear hB
       have c5 := q5.cell; have f5 := q5.frozen; have l5 := q5.lt
       have c7 := q7.cell; have f7 := q7.frozen; have l7 := q7.lt
       have c9 := q9.cell; have f9 := q9.frozen; have l9 := q9.lt
       have s6 := trivial
       clear M1 M2 M3 M4)
    | (clear s6
       go_at_call 21
       refine Grow.seal_calls ?_
       intro W hW
       have HG2 : Hid (Below w.heap.size w W) := Lib.hid (by rw [hW.out]; (repeat (with_reducible first | exact Grow.grow_refl _ | refine Grow.grow_setCell ?_ ?_ _ | refine Grow.grow_alloc ?_ _ | refine Grow.grow_drewN ?_ _ | refine Grow.grow_over ?_ _ | refine Grow.grow_via (by assumption) ?_)) <;> omega)
       clear HG
       have HG := HG2
       clear HG2
       clear c5 f5 c7 f7 c9 f9
       apply Grow.have_known (W := W)
       · rw [hW.out]; apply Known.at q5; (repeat (with_reducible first | exact q5 | apply Known.same | apply Known.other | apply Known.alloc | apply Known.drewN)) <;> omega
       clear q5
       intro q5
       (try simp only [List.setIfInBounds_toArray, List.set_cons_zero, List.set_cons_succ] at q5)
       apply Grow.have_known (W := W)
       · rw [hW.out]; apply Known.at q7; (repeat (with_reducible first | exact q7 | apply Known.same | apply Known.other | apply Known.alloc | apply Known.drewN)) <;> omega
       clear q7
       intro q7
       (try simp only [List.setIfInBounds_toArray, List.set_cons_zero, List.set_cons_succ] at q7)
       apply Grow.have_known (W := W)
       · rw [hW.out]; apply Known.at q9; (repeat (with_reducible first | exact q9 | apply Known.same | apply Known.other | apply Known.alloc | apply Known.drewN)) <;> omega
       clear q9
       intro q9
       (try simp only [List.setIfInBounds_toArray, List.set_cons_zero, List.set_cons_succ] at q9)
       replace HZ : w.heap.size ≤ W.heap.size := Below.size HG.out
       clear hW
       refine (unit_walk _ _ _ _ _).mono ?_
       rintro e w1 hp
       obtain ⟨v, rfl, hp, hB⟩ := hp
       obtain ⟨q, ⟨b1, b2, b3, b4, rfl, g1, g2, g3, g4⟩, hv⟩ := hp
       rw [HX.out] at hv g1 g2 g3 g4; subst hv; have GQ := Lib.hid (q4_eq' (X := R) g1 g2 g3 g4); clear g1 g2 g3 g4
       replace q5 := q5.below hB
       replace q7 := q7.below hB
       replace q9 := q9.below hB
       replace HG : Hid (Below w.heap.size w w1) := Lib.hid (Grow.grow_trans HG.out hB)
       replace HZ : w.heap.size ≤ w1.heap.size := Below.size HG.out
       clear hB
       have c5 := q5.cell; have f5 := q5.frozen; have l5 := q5.lt
       have c7 := q7.cell; have f7 := q7.frozen; have l7 := q7.lt
       have c9 := q9.cell; have f9 := q9.frozen; have l9 := q9.lt
       have s7 := trivial))
  all_goals
    go_ret
    refine Post.mk (T := fun v => v = _) (by first | rfl | (simp; done) | (simp_all; done)) ?_
    (repeat (with_reducible first
      | exact Grow.grow_refl _
      | refine Grow.grow_setCell ?_ ?_ _
      | refine Grow.grow_alloc ?_ _
      | refine Grow.grow_drewN ?_ _
      | refine Grow.grow_over ?_ _
      | refine Grow.grow_via (by assumption) ?_)) <;> omega

set_option maxRecDepth 100000 in
set_option maxHeartbeats 16000000 in
theorem spinGood_about_no (a1 a2 a3 : Nat) (half : Int) (qa qb qc qd v1 v2 v3 : Nat) (R : Q4) (hX : abt ⟨fl a1, fl a2, fl a3⟩ half = (R, false)) (w : World) :
    Calls Try.prog 8 #[.agg #[.float .f64 a1, .float .f64 a2, .float .f64 a3], .int .i64 half, .agg #[.float .f64 qa, .float .f64 qb, .float .f64 qc, .float .f64 qd], .bool true, .agg #[.float .f64 v1, .float .f64 v2, .float .f64 v3]] w (Post (fun v => v = .bool true) w) := by
  have HX := Lib.hid hX
  clear hX
  have s0 := trivial
  go_enter Try.func8, Try.ntmps8
  go_wp2_with (first
    | (refine wpList_arith rfl rfl (by rfl) rfl rfl ?_; intro b1 n1 H1)
    | (clear s0
       go_at_call 12
       refine Grow.seal_calls ?_
       intro W hW
       have HG : Hid (Below w.heap.size w W) := Lib.hid (by rw [hW.out]; (repeat (with_reducible first | exact Grow.grow_refl _ | refine Grow.grow_setCell ?_ ?_ _ | refine Grow.grow_alloc ?_ _ | refine Grow.grow_drewN ?_ _ | refine Grow.grow_over ?_ _ | refine Grow.grow_via (by assumption) ?_)) <;> omega)
       have HZ : w.heap.size ≤ W.heap.size := Below.size HG.out
       apply Grow.have_known (W := W)
       · rw [hW.out]; exact ((Known.new _ _ _).alloc _).alloc _
       intro q5
       (try simp only [World.size_alloc] at q5)
       apply Grow.have_known (W := W)
       · rw [hW.out]; exact (Known.new _ _ _).alloc _
       intro q7
       (try simp only [World.size_alloc] at q7)
       apply Grow.have_known (W := W)
       · rw [hW.out]; exact Known.new _ _ _
       intro q9
       (try simp only [World.size_alloc] at q9)
       clear hW
       refine (turns_walk _).mono ?_
       rintro e w1 hp
       obtain ⟨v, rfl, hp, hB⟩ := hp
       subst hp
       skip
       replace q5 := q5.below hB
       replace q7 := q7.below hB
       replace q9 := q9.below hB
       replace HG : Hid (Below w.heap.size w w1) := Lib.hid (Grow.grow_trans HG.out hB)
       replace HZ : w.heap.size ≤ w1.heap.size := Below.size HG.out
       clear hB
       have c5 := q5.cell; have f5 := q5.frozen; have l5 := q5.lt
       have c7 := q7.cell; have f7 := q7.frozen; have l7 := q7.lt
       have c9 := q9.cell; have f9 := q9.frozen; have l9 := q9.lt
       have s1 := trivial)
    | (clear s1
       go_at_call 40
       refine Grow.seal_calls ?_
       intro W hW
       have HG2 : Hid (Below w.heap.size w W) := Lib.hid (by rw [hW.out]; (repeat (with_reducible first | exact Grow.grow_refl _ | refine Grow.grow_setCell ?_ ?_ _ | refine Grow.grow_alloc ?_ _ | refine Grow.grow_drewN ?_ _ | refine Grow.grow_over ?_ _ | refine Grow.grow_via (by assumption) ?_)) <;> omega)
       clear HG
       have HG := HG2
       clear HG2
       clear c5 f5 c7 f7 c9 f9
       apply Grow.have_known (W := W)
       · rw [hW.out]; apply Known.at q5; (repeat (with_reducible first | exact q5 | apply Known.same | apply Known.other | apply Known.alloc | apply Known.drewN)) <;> omega
       clear q5
       intro q5
       (try simp only [List.setIfInBounds_toArray, List.set_cons_zero, List.set_cons_succ] at q5)
       apply Grow.have_known (W := W)
       · rw [hW.out]; apply Known.at q7; (repeat (with_reducible first | exact q7 | apply Known.same | apply Known.other | apply Known.alloc | apply Known.drewN)) <;> omega
       clear q7
       intro q7
       (try simp only [List.setIfInBounds_toArray, List.set_cons_zero, List.set_cons_succ] at q7)
       apply Grow.have_known (W := W)
       · rw [hW.out]; apply Known.at q9; (repeat (with_reducible first | exact q9 | apply Known.same | apply Known.other | apply Known.alloc | apply Known.drewN)) <;> omega
       clear q9
       intro q9
       (try simp only [List.setIfInBounds_toArray, List.set_cons_zero, List.set_cons_succ] at q9)
       replace HZ : w.heap.size ≤ W.heap.size := Below.size HG.out
       clear hW
       refine (mildVec_walk _ _ _ _).mono ?_
       rintro e w1 hp
       obtain ⟨v, rfl, hp, hB⟩ := hp
       obtain ⟨r1, rfl, m1⟩ := hp
       have M1 := Lib.hid m1; clear m1
       replace q5 := q5.below hB
       replace q7 := q7.below hB
       replace q9 := q9.below hB
       replace HG : Hid (Below w.heap.size w w1) := Lib.hid (Grow.grow_trans HG.out hB)
       replace HZ : w.heap.size ≤ w1.heap.size := Below.size HG.out
       clear hB
       have c5 := q5.cell; have f5 := q5.frozen; have l5 := q5.lt
       have c7 := q7.cell; have f7 := q7.frozen; have l7 := q7.lt
       have c9 := q9.cell; have f9 := q9.frozen; have l9 := q9.lt
       have s2 := trivial)
    | (clear s2
       go_at_call 40
       refine Grow.seal_calls ?_
       intro W hW
       have HG2 : Hid (Below w.heap.size w W) := Lib.hid (by rw [hW.out]; (repeat (with_reducible first | exact Grow.grow_refl _ | refine Grow.grow_setCell ?_ ?_ _ | refine Grow.grow_alloc ?_ _ | refine Grow.grow_drewN ?_ _ | refine Grow.grow_over ?_ _ | refine Grow.grow_via (by assumption) ?_)) <;> omega)
       clear HG
       have HG := HG2
       clear HG2
       clear c5 f5 c7 f7 c9 f9
       apply Grow.have_known (W := W)
       · rw [hW.out]; apply Known.at q5; (repeat (with_reducible first | exact q5 | apply Known.same | apply Known.other | apply Known.alloc | apply Known.drewN)) <;> omega
       clear q5
       intro q5
       (try simp only [List.setIfInBounds_toArray, List.set_cons_zero, List.set_cons_succ] at q5)
       apply Grow.have_known (W := W)
       · rw [hW.out]; apply Known.at q7; (repeat (with_reducible first | exact q7 | apply Known.same | apply Known.other | apply Known.alloc | apply Known.drewN)) <;> omega
       clear q7
       intro q7
       (try simp only [List.setIfInBounds_toArray, List.set_cons_zero, List.set_cons_succ] at q7)
       apply Grow.have_known (W := W)
       · rw [hW.out]; apply Known.at q9; (repeat (with_reducible first | exact q9 | apply Known.same | apply Known.other | apply Known.alloc | apply Known.drewN)) <;> omega
       clear q9
       intro q9
       (try simp only [List.setIfInBounds_toArray, List.set_cons_zero, List.set_cons_succ] at q9)
       replace HZ : w.heap.size ≤ W.heap.size := Below.size HG.out
       clear hW
       refine (mildVec_walk _ _ _ _).mono ?_
       rintro e w1 hp
       obtain ⟨v, rfl, hp, hB⟩ := hp
       obtain ⟨r2, rfl, m2⟩ := hp
       have M2 := Lib.hid m2; clear m2
       replace q5 := q5.below hB
       replace q7 := q7.below hB
       replace q9 := q9.below hB
       replace HG : Hid (Below w.heap.size w w1) := Lib.hid (Grow.grow_trans HG.out hB)
       replace HZ : w.heap.size ≤ w1.heap.size := Below.size HG.out
       clear hB
       have c5 := q5.cell; have f5 := q5.frozen; have l5 := q5.lt
       have c7 := q7.cell; have f7 := q7.frozen; have l7 := q7.lt
       have c9 := q9.cell; have f9 := q9.frozen; have l9 := q9.lt
       have s3 := trivial)
    | (clear s3
       go_at_call 40
       refine Grow.seal_calls ?_
       intro W hW
       have HG2 : Hid (Below w.heap.size w W) := Lib.hid (by rw [hW.out]; (repeat (with_reducible first | exact Grow.grow_refl _ | refine Grow.grow_setCell ?_ ?_ _ | refine Grow.grow_alloc ?_ _ | refine Grow.grow_drewN ?_ _ | refine Grow.grow_over ?_ _ | refine Grow.grow_via (by assumption) ?_)) <;> omega)
       clear HG
       have HG := HG2
       clear HG2
       clear c5 f5 c7 f7 c9 f9
       apply Grow.have_known (W := W)
       · rw [hW.out]; apply Known.at q5; (repeat (with_reducible first | exact q5 | apply Known.same | apply Known.other | apply Known.alloc | apply Known.drewN)) <;> omega
       clear q5
       intro q5
       (try simp only [List.setIfInBounds_toArray, List.set_cons_zero, List.set_cons_succ] at q5)
       apply Grow.have_known (W := W)
       · rw [hW.out]; apply Known.at q7; (repeat (with_reducible first | exact q7 | apply Known.same | apply Known.other | apply Known.alloc | apply Known.drewN)) <;> omega
       clear q7
       intro q7
       (try simp only [List.setIfInBounds_toArray, List.set_cons_zero, List.set_cons_succ] at q7)
       apply Grow.have_known (W := W)
       · rw [hW.out]; apply Known.at q9; (repeat (with_reducible first | exact q9 | apply Known.same | apply Known.other | apply Known.alloc | apply Known.drewN)) <;> omega
       clear q9
       intro q9
       (try simp only [List.setIfInBounds_toArray, List.set_cons_zero, List.set_cons_succ] at q9)
       replace HZ : w.heap.size ≤ W.heap.size := Below.size HG.out
       clear hW
       refine (mildVec_walk _ _ _ _).mono ?_
       rintro e w1 hp
       obtain ⟨v, rfl, hp, hB⟩ := hp
       obtain ⟨r3, rfl, m3⟩ := hp
       have M3 := Lib.hid m3; clear m3
       replace q5 := q5.below hB
       replace q7 := q7.below hB
       replace q9 := q9.below hB
       replace HG : Hid (Below w.heap.size w w1) := Lib.hid (Grow.grow_trans HG.out hB)
       replace HZ : w.heap.size ≤ w1.heap.size := Below.size HG.out
       clear hB
       have c5 := q5.cell; have f5 := q5.frozen; have l5 := q5.lt
       have c7 := q7.cell; have f7 := q7.frozen; have l7 := q7.lt
       have c9 := q9.cell; have f9 := q9.frozen; have l9 := q9.lt
       have s4 := trivial)
    | (clear s4
       go_at_call 41
       refine Grow.seal_calls ?_
       intro W hW
       have HG2 : Hid (Below w.heap.size w W) := Lib.hid (by rw [hW.out]; (repeat (with_reducible first | exact Grow.grow_refl _ | refine Grow.grow_setCell ?_ ?_ _ | refine Grow.grow_alloc ?_ _ | refine Grow.grow_drewN ?_ _ | refine Grow.grow_over ?_ _ | refine Grow.grow_via (by assumption) ?_)) <;> omega)
       clear HG
       have HG := HG2
       clear HG2
       clear c5 f5 c7 f7 c9 f9
       apply Grow.have_known (W := W)
       · rw [hW.out]; apply Known.at q5; (repeat (with_reducible first | exact q5 | apply Known.same | apply Known.other | apply Known.alloc | apply Known.drewN)) <;> omega
       clear q5
       intro q5
       (try simp only [List.setIfInBounds_toArray, List.set_cons_zero, List.set_cons_succ] at q5)
       apply Grow.have_known (W := W)
       · rw [hW.out]; apply Known.at q7; (repeat (with_reducible first | exact q7 | apply Known.same | apply Known.other | apply Known.alloc | apply Known.drewN)) <;> omega
       clear q7
       intro q7
       (try simp only [List.setIfInBounds_toArray, List.set_cons_zero, List.set_cons_succ] at q7)
       apply Grow.have_known (W := W)
       · rw [hW.out]; apply Known.at q9; (repeat (with_reducible first | exact q9 | apply Known.same | apply Known.other | apply Known.alloc | apply Known.drewN)) <;> omega
       clear q9
       intro q9
       (try simp only [List.setIfInBounds_toArray, List.set_cons_zero, List.set_cons_succ] at q9)
       replace HZ : w.heap.size ≤ W.heap.size := Below.size HG.out
       clear hW
       refine (mild_walk _ _).mono ?_
       rintro e w1 hp
       obtain ⟨v, rfl, hp, hB⟩ := hp
       obtain ⟨r4, rfl, m4⟩ := hp
       have M4 := Lib.hid m4; clear m4
       replace q5 := q5.below hB
       replace q7 := q7.below hB
       replace q9 := q9.below hB
       replace HG : Hid (Below w.heap.size w w1) := Lib.hid (Grow.grow_trans HG.out hB)
       replace HZ : w.heap.size ≤ w1.heap.size := Below.size HG.out
       clear hB
       have c5 := q5.cell; have f5 := q5.frozen; have l5 := q5.lt
       have c7 := q7.cell; have f7 := q7.frozen; have l7 := q7.lt
       have c9 := q9.cell; have f9 := q9.frozen; have l9 := q9.lt
       have s5 := trivial)
    | (clear s5
       go_at_call 14
       refine Grow.seal_calls ?_
       intro W hW
       have HG2 : Hid (Below w.heap.size w W) := Lib.hid (by rw [hW.out]; (repeat (with_reducible first | exact Grow.grow_refl _ | refine Grow.grow_setCell ?_ ?_ _ | refine Grow.grow_alloc ?_ _ | refine Grow.grow_drewN ?_ _ | refine Grow.grow_over ?_ _ | refine Grow.grow_via (by assumption) ?_)) <;> omega)
       clear HG
       have HG := HG2
       clear HG2
       clear c5 f5 c7 f7 c9 f9
       apply Grow.have_known (W := W)
       · rw [hW.out]; apply Known.at q5; (repeat (with_reducible first | exact q5 | apply Known.same | apply Known.other | apply Known.alloc | apply Known.drewN)) <;> omega
       clear q5
       intro q5
       (try simp only [List.setIfInBounds_toArray, List.set_cons_zero, List.set_cons_succ] at q5)
       apply Grow.have_known (W := W)
       · rw [hW.out]; apply Known.at q7; (repeat (with_reducible first | exact q7 | apply Known.same | apply Known.other | apply Known.alloc | apply Known.drewN)) <;> omega
       clear q7
       intro q7
       (try simp only [List.setIfInBounds_toArray, List.set_cons_zero, List.set_cons_succ] at q7)
       apply Grow.have_known (W := W)
       · rw [hW.out]; apply Known.at q9; (repeat (with_reducible first | exact q9 | apply Known.same | apply Known.other | apply Known.alloc | apply Known.drewN)) <;> omega
       clear q9
       intro q9
       (try simp only [List.setIfInBounds_toArray, List.set_cons_zero, List.set_cons_succ] at q9)
       replace HZ : w.heap.size ≤ W.heap.size := Below.size HG.out
       clear hW
       refine (q_walk _ _ _ _ _).mono ?_
       rintro e w1 hp
       obtain ⟨v, rfl, hp, hB⟩ := hp
       subst hp
       skip
       replace q5 := q5.below hB
       replace q7 := q7.below hB
       replace q9 := q9.below hB
       replace HG : Hid (Below w.heap.size w w1) := Lib.hid (Grow.grow_trans HG.out hB)
       replace HZ : w.heap.size ≤ w1.heap.size := Below.size HG.out
       clear hB
       have c5 := q5.cell; have f5 := q5.frozen; have l5 := q5.lt
       have c7 := q7.cell; have f7 := q7.frozen; have l7 := q7.lt
       have c9 := q9.cell; have f9 := q9.frozen; have l9 := q9.lt
       have s6 := trivial
       clear M1 M2 M3 M4)
    | (clear s6
       go_at_call 21
       refine Grow.seal_calls ?_
       intro W hW
       have HG2 : Hid (Below w.heap.size w W) := Lib.hid (by rw [hW.out]; (repeat (with_reducible first | exact Grow.grow_refl _ | refine Grow.grow_setCell ?_ ?_ _ | refine Grow.grow_alloc ?_ _ | refine Grow.grow_drewN ?_ _ | refine Grow.grow_over ?_ _ | refine Grow.grow_via (by assumption) ?_)) <;> omega)
       clear HG
       have HG := HG2
       clear HG2
       clear c5 f5 c7 f7 c9 f9
       apply Grow.have_known (W := W)
       · rw [hW.out]; apply Known.at q5; (repeat (with_reducible first | exact q5 | apply Known.same | apply Known.other | apply Known.alloc | apply Known.drewN)) <;> omega
       clear q5
       intro q5
       (try simp only [List.setIfInBounds_toArray, List.set_cons_zero, List.set_cons_succ] at q5)
       apply Grow.have_known (W := W)
       · rw [hW.out]; apply Known.at q7; (repeat (with_reducible first | exact q7 | apply Known.same | apply Known.other | apply Known.alloc | apply Known.drewN)) <;> omega
       clear q7
       intro q7
       (try simp only [List.setIfInBounds_toArray, List.set_cons_zero, List.set_cons_succ] at q7)
       apply Grow.have_known (W := W)
       · rw [hW.out]; apply Known.at q9; (repeat (with_reducible first | exact q9 | apply Known.same | apply Known.other | apply Known.alloc | apply Known.drewN)) <;> omega
       clear q9
       intro q9
       (try simp only [List.setIfInBounds_toArray, List.set_cons_zero, List.set_cons_succ] at q9)
       replace HZ : w.heap.size ≤ W.heap.size := Below.size HG.out
       clear hW
       refine (unit_walk _ _ _ _ _).mono ?_
       rintro e w1 hp
       obtain ⟨v, rfl, hp, hB⟩ := hp
       obtain ⟨q, ⟨b1, b2, b3, b4, rfl, g1, g2, g3, g4⟩, hv⟩ := hp
       subst hv; clear g1 g2 g3 g4; generalize (qunit _).2 = hb0
       replace q5 := q5.below hB
       replace q7 := q7.below hB
       replace q9 := q9.below hB
       replace HG : Hid (Below w.heap.size w w1) := Lib.hid (Grow.grow_trans HG.out hB)
       replace HZ : w.heap.size ≤ w1.heap.size := Below.size HG.out
       clear hB
       have c5 := q5.cell; have f5 := q5.frozen; have l5 := q5.lt
       have c7 := q7.cell; have f7 := q7.frozen; have l7 := q7.lt
       have c9 := q9.cell; have f9 := q9.frozen; have l9 := q9.lt
       have s7 := trivial)
    | (clear s7
       go_at_call 28
       refine Grow.seal_calls ?_
       intro W hW
       have HG2 : Hid (Below w.heap.size w W) := Lib.hid (by rw [hW.out]; (repeat (with_reducible first | exact Grow.grow_refl _ | refine Grow.grow_setCell ?_ ?_ _ | refine Grow.grow_alloc ?_ _ | refine Grow.grow_drewN ?_ _ | refine Grow.grow_over ?_ _ | refine Grow.grow_via (by assumption) ?_)) <;> omega)
       clear HG
       have HG := HG2
       clear HG2
       clear c5 f5 c7 f7 c9 f9
       apply Grow.have_known (W := W)
       · rw [hW.out]; apply Known.at q5; (repeat (with_reducible first | exact q5 | apply Known.same | apply Known.other | apply Known.alloc | apply Known.drewN)) <;> omega
       clear q5
       intro q5
       (try simp only [List.setIfInBounds_toArray, List.set_cons_zero, List.set_cons_succ] at q5)
       apply Grow.have_known (W := W)
       · rw [hW.out]; apply Known.at q7; (repeat (with_reducible first | exact q7 | apply Known.same | apply Known.other | apply Known.alloc | apply Known.drewN)) <;> omega
       clear q7
       intro q7
       (try simp only [List.setIfInBounds_toArray, List.set_cons_zero, List.set_cons_succ] at q7)
       apply Grow.have_known (W := W)
       · rw [hW.out]; apply Known.at q9; (repeat (with_reducible first | exact q9 | apply Known.same | apply Known.other | apply Known.alloc | apply Known.drewN)) <;> omega
       clear q9
       intro q9
       (try simp only [List.setIfInBounds_toArray, List.set_cons_zero, List.set_cons_succ] at q9)
       apply Grow.have_known (W := W) (b := w1.heap.size)
       · rw [hW.out]; (repeat (with_reducible first | exact Known.new _ _ _ | apply Known.same | apply Known.other | apply Known.alloc | apply Known.drewN)) <;> omega
       intro q16
       (try simp only [World.size_alloc, World.size_setCell, World.heap_drewN] at q16)
       (try simp only [List.setIfInBounds_toArray, List.set_cons_zero, List.set_cons_succ] at q16)
       have m16 := q16.ge (n := w.heap.size) (by omega)
       replace HZ : w.heap.size ≤ W.heap.size := Below.size HG.out
       clear hW
       refine (about_walk _ _ _ _ _).mono ?_
       rintro e w1 hp
       obtain ⟨v, rfl, hp, hB⟩ := hp
       obtain ⟨q, ⟨b1, b2, b3, b4, rfl, g1, g2, g3, g4⟩, hv⟩ := hp
       rw [HX.out] at hv g1 g2 g3 g4; subst hv; have GQ := Lib.hid (q4_eq' (X := R) g1 g2 g3 g4); clear g1 g2 g3 g4
       replace q5 := q5.below hB
       replace q7 := q7.below hB
       replace q9 := q9.below hB
       replace q16 := q16.below hB
       replace HG : Hid (Below w.heap.size w w1) := Lib.hid (Grow.grow_trans HG.out hB)
       replace HZ : w.heap.size ≤ w1.heap.size := Below.size HG.out
       clear hB
       have c5 := q5.cell; have f5 := q5.frozen; have l5 := q5.lt
       have c7 := q7.cell; have f7 := q7.frozen; have l7 := q7.lt
       have c9 := q9.cell; have f9 := q9.frozen; have l9 := q9.lt
       have c16 := q16.cell; have f16 := q16.frozen; have l16 := q16.lt
       have s8 := trivial))
  all_goals
    go_ret
    refine Post.mk (T := fun v => v = _) (by first | rfl | (simp; done) | (simp_all; done)) ?_
    (repeat (with_reducible first
      | exact Grow.grow_refl _
      | refine Grow.grow_setCell ?_ ?_ _
      | refine Grow.grow_alloc ?_ _
      | refine Grow.grow_drewN ?_ _
      | refine Grow.grow_over ?_ _
      | refine Grow.grow_via (by assumption) ?_)) <;> omega

set_option maxRecDepth 100000 in
set_option maxHeartbeats 16000000 in
theorem spinGood_unit (a1 a2 a3 : Nat) (half : Int) (qa qb qc qd v1 v2 v3 : Nat) (R : Q4) (hX : qunit ⟨fl qa, fl qb, fl qc, fl qd⟩ = (R, true)) (H : (Fe.mildF (fl a1) = true ∧ Fe.mildF (fl a2) = true ∧ Fe.mildF (fl a3) = true) → (Fe.mildF (fl v1) = true ∧ Fe.mildF (fl v2) = true ∧ Fe.mildF (fl v3) = true) → (Fe.mildF (fl qb) = true ∧ Fe.mildF (fl qc) = true ∧ Fe.mildF (fl qd) = true) → Fe.mildF (fl qa) = true → Goods R ⟨fl v1, fl v2, fl v3⟩) (w : World) :
    Calls Try.prog 8 #[.agg #[.float .f64 a1, .float .f64 a2, .float .f64 a3], .int .i64 half, .agg #[.float .f64 qa, .float .f64 qb, .float .f64 qc, .float .f64 qd], .bool false, .agg #[.float .f64 v1, .float .f64 v2, .float .f64 v3]] w (Post (fun v => v = .bool true) w) := by
  have HX := Lib.hid hX
  clear hX
  have HH := Lib.hid H
  clear H
  have s0 := trivial
  go_enter Try.func8, Try.ntmps8
  go_wp2_with (first
    | (refine wpList_arith rfl rfl (by rfl) rfl rfl ?_; intro b1 n1 H1)
    | (clear s0
       go_at_call 12
       refine Grow.seal_calls ?_
       intro W hW
       have HG : Hid (Below w.heap.size w W) := Lib.hid (by rw [hW.out]; (repeat (with_reducible first | exact Grow.grow_refl _ | refine Grow.grow_setCell ?_ ?_ _ | refine Grow.grow_alloc ?_ _ | refine Grow.grow_drewN ?_ _ | refine Grow.grow_over ?_ _ | refine Grow.grow_via (by assumption) ?_)) <;> omega)
       have HZ : w.heap.size ≤ W.heap.size := Below.size HG.out
       apply Grow.have_known (W := W)
       · rw [hW.out]; exact ((Known.new _ _ _).alloc _).alloc _
       intro q5
       (try simp only [World.size_alloc] at q5)
       apply Grow.have_known (W := W)
       · rw [hW.out]; exact (Known.new _ _ _).alloc _
       intro q7
       (try simp only [World.size_alloc] at q7)
       apply Grow.have_known (W := W)
       · rw [hW.out]; exact Known.new _ _ _
       intro q9
       (try simp only [World.size_alloc] at q9)
       clear hW
       refine (turns_walk _).mono ?_
       rintro e w1 hp
       obtain ⟨v, rfl, hp, hB⟩ := hp
       subst hp
       skip
       replace q5 := q5.below hB
       replace q7 := q7.below hB
       replace q9 := q9.below hB
       replace HG : Hid (Below w.heap.size w w1) := Lib.hid (Grow.grow_trans HG.out hB)
       replace HZ : w.heap.size ≤ w1.heap.size := Below.size HG.out
       clear hB
       have c5 := q5.cell; have f5 := q5.frozen; have l5 := q5.lt
       have c7 := q7.cell; have f7 := q7.frozen; have l7 := q7.lt
       have c9 := q9.cell; have f9 := q9.frozen; have l9 := q9.lt
       have s1 := trivial)
    | (clear s1
       go_at_call 40
       refine Grow.seal_calls ?_
       intro W hW
       have HG2 : Hid (Below w.heap.size w W) := Lib.hid (by rw [hW.out]; (repeat (with_reducible first | exact Grow.grow_refl _ | refine Grow.grow_setCell ?_ ?_ _ | refine Grow.grow_alloc ?_ _ | refine Grow.grow_drewN ?_ _ | refine Grow.grow_over ?_ _ | refine Grow.grow_via (by assumption) ?_)) <;> omega)
       clear HG
       have HG := HG2
       clear HG2
       clear c5 f5 c7 f7 c9 f9
       apply Grow.have_known (W := W)
       · rw [hW.out]; apply Known.at q5; (repeat (with_reducible first | exact q5 | apply Known.same | apply Known.other | apply Known.alloc | apply Known.drewN)) <;> omega
       clear q5
       intro q5
       (try simp only [List.setIfInBounds_toArray, List.set_cons_zero, List.set_cons_succ] at q5)
       apply Grow.have_known (W := W)
       · rw [hW.out]; apply Known.at q7; (repeat (with_reducible first | exact q7 | apply Known.same | apply Known.other | apply Known.alloc | apply Known.drewN)) <;> omega
       clear q7
       intro q7
       (try simp only [List.setIfInBounds_toArray, List.set_cons_zero, List.set_cons_succ] at q7)
       apply Grow.have_known (W := W)
       · rw [hW.out]; apply Known.at q9; (repeat (with_reducible first | exact q9 | apply Known.same | apply Known.other | apply Known.alloc | apply Known.drewN)) <;> omega
       clear q9
       intro q9
       (try simp only [List.setIfInBounds_toArray, List.set_cons_zero, List.set_cons_succ] at q9)
       replace HZ : w.heap.size ≤ W.heap.size := Below.size HG.out
       clear hW
       refine (mildVec_walk _ _ _ _).mono ?_
       rintro e w1 hp
       obtain ⟨v, rfl, hp, hB⟩ := hp
       obtain ⟨r1, rfl, m1⟩ := hp
       have M1 := Lib.hid m1; clear m1
       replace q5 := q5.below hB
       replace q7 := q7.below hB
       replace q9 := q9.below hB
       replace HG : Hid (Below w.heap.size w w1) := Lib.hid (Grow.grow_trans HG.out hB)
       replace HZ : w.heap.size ≤ w1.heap.size := Below.size HG.out
       clear hB
       have c5 := q5.cell; have f5 := q5.frozen; have l5 := q5.lt
       have c7 := q7.cell; have f7 := q7.frozen; have l7 := q7.lt
       have c9 := q9.cell; have f9 := q9.frozen; have l9 := q9.lt
       have s2 := trivial)
    | (clear s2
       go_at_call 40
       refine Grow.seal_calls ?_
       intro W hW
       have HG2 : Hid (Below w.heap.size w W) := Lib.hid (by rw [hW.out]; (repeat (with_reducible first | exact Grow.grow_refl _ | refine Grow.grow_setCell ?_ ?_ _ | refine Grow.grow_alloc ?_ _ | refine Grow.grow_drewN ?_ _ | refine Grow.grow_over ?_ _ | refine Grow.grow_via (by assumption) ?_)) <;> omega)
       clear HG
       have HG := HG2
       clear HG2
       clear c5 f5 c7 f7 c9 f9
       apply Grow.have_known (W := W)
       · rw [hW.out]; apply Known.at q5; (repeat (with_reducible first | exact q5 | apply Known.same | apply Known.other | apply Known.alloc | apply Known.drewN)) <;> omega
       clear q5
       intro q5
       (try simp only [List.setIfInBounds_toArray, List.set_cons_zero, List.set_cons_succ] at q5)
       apply Grow.have_known (W := W)
       · rw [hW.out]; apply Known.at q7; (repeat (with_reducible first | exact q7 | apply Known.same | apply Known.other | apply Known.alloc | apply Known.drewN)) <;> omega
       clear q7
       intro q7
       (try simp only [List.setIfInBounds_toArray, List.set_cons_zero, List.set_cons_succ] at q7)
       apply Grow.have_known (W := W)
       · rw [hW.out]; apply Known.at q9; (repeat (with_reducible first | exact q9 | apply Known.same | apply Known.other | apply Known.alloc | apply Known.drewN)) <;> omega
       clear q9
       intro q9
       (try simp only [List.setIfInBounds_toArray, List.set_cons_zero, List.set_cons_succ] at q9)
       replace HZ : w.heap.size ≤ W.heap.size := Below.size HG.out
       clear hW
       refine (mildVec_walk _ _ _ _).mono ?_
       rintro e w1 hp
       obtain ⟨v, rfl, hp, hB⟩ := hp
       obtain ⟨r2, rfl, m2⟩ := hp
       have M2 := Lib.hid m2; clear m2
       replace q5 := q5.below hB
       replace q7 := q7.below hB
       replace q9 := q9.below hB
       replace HG : Hid (Below w.heap.size w w1) := Lib.hid (Grow.grow_trans HG.out hB)
       replace HZ : w.heap.size ≤ w1.heap.size := Below.size HG.out
       clear hB
       have c5 := q5.cell; have f5 := q5.frozen; have l5 := q5.lt
       have c7 := q7.cell; have f7 := q7.frozen; have l7 := q7.lt
       have c9 := q9.cell; have f9 := q9.frozen; have l9 := q9.lt
       have s3 := trivial)
    | (clear s3
       go_at_call 40
       refine Grow.seal_calls ?_
       intro W hW
       have HG2 : Hid (Below w.heap.size w W) := Lib.hid (by rw [hW.out]; (repeat (with_reducible first | exact Grow.grow_refl _ | refine Grow.grow_setCell ?_ ?_ _ | refine Grow.grow_alloc ?_ _ | refine Grow.grow_drewN ?_ _ | refine Grow.grow_over ?_ _ | refine Grow.grow_via (by assumption) ?_)) <;> omega)
       clear HG
       have HG := HG2
       clear HG2
       clear c5 f5 c7 f7 c9 f9
       apply Grow.have_known (W := W)
       · rw [hW.out]; apply Known.at q5; (repeat (with_reducible first | exact q5 | apply Known.same | apply Known.other | apply Known.alloc | apply Known.drewN)) <;> omega
       clear q5
       intro q5
       (try simp only [List.setIfInBounds_toArray, List.set_cons_zero, List.set_cons_succ] at q5)
       apply Grow.have_known (W := W)
       · rw [hW.out]; apply Known.at q7; (repeat (with_reducible first | exact q7 | apply Known.same | apply Known.other | apply Known.alloc | apply Known.drewN)) <;> omega
       clear q7
       intro q7
       (try simp only [List.setIfInBounds_toArray, List.set_cons_zero, List.set_cons_succ] at q7)
       apply Grow.have_known (W := W)
       · rw [hW.out]; apply Known.at q9; (repeat (with_reducible first | exact q9 | apply Known.same | apply Known.other | apply Known.alloc | apply Known.drewN)) <;> omega
       clear q9
       intro q9
       (try simp only [List.setIfInBounds_toArray, List.set_cons_zero, List.set_cons_succ] at q9)
       replace HZ : w.heap.size ≤ W.heap.size := Below.size HG.out
       clear hW
       refine (mildVec_walk _ _ _ _).mono ?_
       rintro e w1 hp
       obtain ⟨v, rfl, hp, hB⟩ := hp
       obtain ⟨r3, rfl, m3⟩ := hp
       have M3 := Lib.hid m3; clear m3
       replace q5 := q5.below hB
       replace q7 := q7.below hB
       replace q9 := q9.below hB
       replace HG : Hid (Below w.heap.size w w1) := Lib.hid (Grow.grow_trans HG.out hB)
       replace HZ : w.heap.size ≤ w1.heap.size := Below.size HG.out
       clear hB
       have c5 := q5.cell; have f5 := q5.frozen; have l5 := q5.lt
       have c7 := q7.cell; have f7 := q7.frozen; have l7 := q7.lt
       have c9 := q9.cell; have f9 := q9.frozen; have l9 := q9.lt
       have s4 := trivial)
    | (clear s4
       go_at_call 41
       refine Grow.seal_calls ?_
       intro W hW
       have HG2 : Hid (Below w.heap.size w W) := Lib.hid (by rw [hW.out]; (repeat (with_reducible first | exact Grow.grow_refl _ | refine Grow.grow_setCell ?_ ?_ _ | refine Grow.grow_alloc ?_ _ | refine Grow.grow_drewN ?_ _ | refine Grow.grow_over ?_ _ | refine Grow.grow_via (by assumption) ?_)) <;> omega)
       clear HG
       have HG := HG2
       clear HG2
       clear c5 f5 c7 f7 c9 f9
       apply Grow.have_known (W := W)
       · rw [hW.out]; apply Known.at q5; (repeat (with_reducible first | exact q5 | apply Known.same | apply Known.other | apply Known.alloc | apply Known.drewN)) <;> omega
       clear q5
       intro q5
       (try simp only [List.setIfInBounds_toArray, List.set_cons_zero, List.set_cons_succ] at q5)
       apply Grow.have_known (W := W)
       · rw [hW.out]; apply Known.at q7; (repeat (with_reducible first | exact q7 | apply Known.same | apply Known.other | apply Known.alloc | apply Known.drewN)) <;> omega
       clear q7
       intro q7
       (try simp only [List.setIfInBounds_toArray, List.set_cons_zero, List.set_cons_succ] at q7)
       apply Grow.have_known (W := W)
       · rw [hW.out]; apply Known.at q9; (repeat (with_reducible first | exact q9 | apply Known.same | apply Known.other | apply Known.alloc | apply Known.drewN)) <;> omega
       clear q9
       intro q9
       (try simp only [List.setIfInBounds_toArray, List.set_cons_zero, List.set_cons_succ] at q9)
       replace HZ : w.heap.size ≤ W.heap.size := Below.size HG.out
       clear hW
       refine (mild_walk _ _).mono ?_
       rintro e w1 hp
       obtain ⟨v, rfl, hp, hB⟩ := hp
       obtain ⟨r4, rfl, m4⟩ := hp
       have M4 := Lib.hid m4; clear m4
       replace q5 := q5.below hB
       replace q7 := q7.below hB
       replace q9 := q9.below hB
       replace HG : Hid (Below w.heap.size w w1) := Lib.hid (Grow.grow_trans HG.out hB)
       replace HZ : w.heap.size ≤ w1.heap.size := Below.size HG.out
       clear hB
       have c5 := q5.cell; have f5 := q5.frozen; have l5 := q5.lt
       have c7 := q7.cell; have f7 := q7.frozen; have l7 := q7.lt
       have c9 := q9.cell; have f9 := q9.frozen; have l9 := q9.lt
       have s5 := trivial)
    | (clear s5
       go_at_call 14
       refine Grow.seal_calls ?_
       intro W hW
       have HG2 : Hid (Below w.heap.size w W) := Lib.hid (by rw [hW.out]; (repeat (with_reducible first | exact Grow.grow_refl _ | refine Grow.grow_setCell ?_ ?_ _ | refine Grow.grow_alloc ?_ _ | refine Grow.grow_drewN ?_ _ | refine Grow.grow_over ?_ _ | refine Grow.grow_via (by assumption) ?_)) <;> omega)
       clear HG
       have HG := HG2
       clear HG2
       clear c5 f5 c7 f7 c9 f9
       apply Grow.have_known (W := W)
       · rw [hW.out]; apply Known.at q5; (repeat (with_reducible first | exact q5 | apply Known.same | apply Known.other | apply Known.alloc | apply Known.drewN)) <;> omega
       clear q5
       intro q5
       (try simp only [List.setIfInBounds_toArray, List.set_cons_zero, List.set_cons_succ] at q5)
       apply Grow.have_known (W := W)
       · rw [hW.out]; apply Known.at q7; (repeat (with_reducible first | exact q7 | apply Known.same | apply Known.other | apply Known.alloc | apply Known.drewN)) <;> omega
       clear q7
       intro q7
       (try simp only [List.setIfInBounds_toArray, List.set_cons_zero, List.set_cons_succ] at q7)
       apply Grow.have_known (W := W)
       · rw [hW.out]; apply Known.at q9; (repeat (with_reducible first | exact q9 | apply Known.same | apply Known.other | apply Known.alloc | apply Known.drewN)) <;> omega
       clear q9
       intro q9
       (try simp only [List.setIfInBounds_toArray, List.set_cons_zero, List.set_cons_succ] at q9)
       replace HZ : w.heap.size ≤ W.heap.size := Below.size HG.out
       clear hW
       refine (q_walk _ _ _ _ _).mono ?_
       rintro e w1 hp
       obtain ⟨v, rfl, hp, hB⟩ := hp
       subst hp
       skip
       replace q5 := q5.below hB
       replace q7 := q7.below hB
       replace q9 := q9.below hB
       replace HG : Hid (Below w.heap.size w w1) := Lib.hid (Grow.grow_trans HG.out hB)
       replace HZ : w.heap.size ≤ w1.heap.size := Below.size HG.out
       clear hB
       have c5 := q5.cell; have f5 := q5.frozen; have l5 := q5.lt
       have c7 := q7.cell; have f7 := q7.frozen; have l7 := q7.lt
       have c9 := q9.cell; have f9 := q9.frozen; have l9 := q9.lt
       have s6 := trivial
       have GD := Lib.hid (HH.out (M1.out (by simp_all)) (M2.out (by simp_all)) (M3.out (by simp_all)) (M4.out (by simp_all))); clear HH M1 M2 M3 M4)
    | (clear s6
       go_at_call 21
       refine Grow.seal_calls ?_
       intro W hW
       have HG2 : Hid (Below w.heap.size w W) := Lib.hid (by rw [hW.out]; (repeat (with_reducible first | exact Grow.grow_refl _ | refine Grow.grow_setCell ?_ ?_ _ | refine Grow.grow_alloc ?_ _ | refine Grow.grow_drewN ?_ _ | refine Grow.grow_over ?_ _ | refine Grow.grow_via (by assumption) ?_)) <;> omega)
       clear HG
       have HG := HG2
       clear HG2
       clear c5 f5 c7 f7 c9 f9
       apply Grow.have_known (W := W)
       · rw [hW.out]; apply Known.at q5; (repeat (with_reducible first | exact q5 | apply Known.same | apply Known.other | apply Known.alloc | apply Known.drewN)) <;> omega
       clear q5
       intro q5
       (try simp only [List.setIfInBounds_toArray, List.set_cons_zero, List.set_cons_succ] at q5)
       apply Grow.have_known (W := W)
       · rw [hW.out]; apply Known.at q7; (repeat (with_reducible first | exact q7 | apply Known.same | apply Known.other | apply Known.alloc | apply Known.drewN)) <;> omega
       clear q7
       intro q7
       (try simp only [List.setIfInBounds_toArray, List.set_cons_zero, List.set_cons_succ] at q7)
       apply Grow.have_known (W := W)
       · rw [hW.out]; apply Known.at q9; (repeat (with_reducible first | exact q9 | apply Known.same | apply Known.other | apply Known.alloc | apply Known.drewN)) <;> omega
       clear q9
       intro q9
       (try simp only [List.setIfInBounds_toArray, List.set_cons_zero, List.set_cons_succ] at q9)
       replace HZ : w.heap.size ≤ W.heap.size := Below.size HG.out
       clear hW
       refine (unit_walk _ _ _ _ _).mono ?_
       rintro e w1 hp
       obtain ⟨v, rfl, hp, hB⟩ := hp
       obtain ⟨q, ⟨b1, b2, b3, b4, rfl, g1, g2, g3, g4⟩, hv⟩ := hp
       rw [HX.out] at hv g1 g2 g3 g4; subst hv; have GQ := Lib.hid (q4_eq' (X := R) g1 g2 g3 g4); clear g1 g2 g3 g4
       replace q5 := q5.below hB
       replace q7 := q7.below hB
       replace q9 := q9.below hB
       replace HG : Hid (Below w.heap.size w w1) := Lib.hid (Grow.grow_trans HG.out hB)
       replace HZ : w.heap.size ≤ w1.heap.size := Below.size HG.out
       clear hB
       have c5 := q5.cell; have f5 := q5.frozen; have l5 := q5.lt
       have c7 := q7.cell; have f7 := q7.frozen; have l7 := q7.lt
       have c9 := q9.cell; have f9 := q9.frozen; have l9 := q9.lt
       have s7 := trivial)
    | (clear s7
       go_at_call 30
       refine Grow.seal_calls ?_
       intro W hW
       have HG2 : Hid (Below w.heap.size w W) := Lib.hid (by rw [hW.out]; (repeat (with_reducible first | exact Grow.grow_refl _ | refine Grow.grow_setCell ?_ ?_ _ | refine Grow.grow_alloc ?_ _ | refine Grow.grow_drewN ?_ _ | refine Grow.grow_over ?_ _ | refine Grow.grow_via (by assumption) ?_)) <;> omega)
       clear HG
       have HG := HG2
       clear HG2
       clear c5 f5 c7 f7 c9 f9
       apply Grow.have_known (W := W)
       · rw [hW.out]; apply Known.at q5; (repeat (with_reducible first | exact q5 | apply Known.same | apply Known.other | apply Known.alloc | apply Known.drewN)) <;> omega
       clear q5
       intro q5
       (try simp only [List.setIfInBounds_toArray, List.set_cons_zero, List.set_cons_succ] at q5)
       apply Grow.have_known (W := W)
       · rw [hW.out]; apply Known.at q7; (repeat (with_reducible first | exact q7 | apply Known.same | apply Known.other | apply Known.alloc | apply Known.drewN)) <;> omega
       clear q7
       intro q7
       (try simp only [List.setIfInBounds_toArray, List.set_cons_zero, List.set_cons_succ] at q7)
       apply Grow.have_known (W := W)
       · rw [hW.out]; apply Known.at q9; (repeat (with_reducible first | exact q9 | apply Known.same | apply Known.other | apply Known.alloc | apply Known.drewN)) <;> omega
       clear q9
       intro q9
       (try simp only [List.setIfInBounds_toArray, List.set_cons_zero, List.set_cons_succ] at q9)
       apply Grow.have_known (W := W) (b := w1.heap.size)
       · rw [hW.out]; (repeat (with_reducible first | exact Known.new _ _ _ | apply Known.same | apply Known.other | apply Known.alloc | apply Known.drewN)) <;> omega
       intro q16
       (try simp only [World.size_alloc, World.size_setCell, World.heap_drewN] at q16)
       (try simp only [List.setIfInBounds_toArray, List.set_cons_zero, List.set_cons_succ] at q16)
       have m16 := q16.ge (n := w.heap.size) (by omega)
       replace HZ : w.heap.size ≤ W.heap.size := Below.size HG.out
       clear hW
       refine (matrix_walk _ _ _ _ _).mono ?_
       rintro e w1 hp
       obtain ⟨v, rfl, hp, hB⟩ := hp
       obtain ⟨p1, p2, p3, p4, p5, p6, p7, p8, p9, rfl, g1, g2, g3, g4, g5, g6, g7, g8, g9⟩ := hp
       have GP := Lib.hid ((m3_eq' g1 g2 g3 g4 g5 g6 g7 g8 g9).trans (congrArg mat GQ.out)); clear g1 g2 g3 g4 g5 g6 g7 g8 g9
       replace q5 := q5.below hB
       replace q7 := q7.below hB
       replace q9 := q9.below hB
       replace q16 := q16.below hB
       replace HG : Hid (Below w.heap.size w w1) := Lib.hid (Grow.grow_trans HG.out hB)
       replace HZ : w.heap.size ≤ w1.heap.size := Below.size HG.out
       clear hB
       have c5 := q5.cell; have f5 := q5.frozen; have l5 := q5.lt
       have c7 := q7.cell; have f7 := q7.frozen; have l7 := q7.lt
       have c9 := q9.cell; have f9 := q9.frozen; have l9 := q9.lt
       have c16 := q16.cell; have f16 := q16.frozen; have l16 := q16.lt
       have s8 := trivial
       clear q5 c5 f5 l5 q7 c7 f7 l7)
    | (clear s8
       go_at_call 35
       refine Grow.seal_calls ?_
       intro W hW
       have HG2 : Hid (Below w.heap.size w W) := Lib.hid (by rw [hW.out]; (repeat (with_reducible first | exact Grow.grow_refl _ | refine Grow.grow_setCell ?_ ?_ _ | refine Grow.grow_alloc ?_ _ | refine Grow.grow_drewN ?_ _ | refine Grow.grow_over ?_ _ | refine Grow.grow_via (by assumption) ?_)) <;> omega)
       clear HG
       have HG := HG2
       clear HG2
       clear c9 f9 c16 f16
       apply Grow.have_known (W := W)
       · rw [hW.out]; apply Known.at q9; (repeat (with_reducible first | exact q9 | apply Known.same | apply Known.other | apply Known.alloc | apply Known.drewN)) <;> omega
       clear q9
       intro q9
       (try simp only [List.setIfInBounds_toArray, List.set_cons_zero, List.set_cons_succ] at q9)
       apply Grow.have_known (W := W)
       · rw [hW.out]; apply Known.at q16; (repeat (with_reducible first | exact q16 | apply Known.same | apply Known.other | apply Known.alloc | apply Known.drewN)) <;> omega
       clear q16
       intro q16
       (try simp only [List.setIfInBounds_toArray, List.set_cons_zero, List.set_cons_succ] at q16)
       replace HZ : w.heap.size ≤ W.heap.size := Below.size HG.out
       clear hW
       refine (lmatrix_walk _ _ _ _ _ _ _ _ _ _).mono ?_
       rintro e w1 hp
       obtain ⟨v, rfl, hp, hB⟩ := hp
       subst hp
       skip
       replace q9 := q9.below hB
       replace q16 := q16.below hB
       replace HG : Hid (Below w.heap.size w w1) := Lib.hid (Grow.grow_trans HG.out hB)
       replace HZ : w.heap.size ≤ w1.heap.size := Below.size HG.out
       clear hB
       have c9 := q9.cell; have f9 := q9.frozen; have l9 := q9.lt
       have c16 := q16.cell; have f16 := q16.frozen; have l16 := q16.lt
       have s9 := trivial)
    | (clear s9
       go_at_call 42
       refine Grow.seal_calls ?_
       intro W hW
       have HG2 : Hid (Below w.heap.size w W) := Lib.hid (by rw [hW.out]; (repeat (with_reducible first | exact Grow.grow_refl _ | refine Grow.grow_setCell ?_ ?_ _ | refine Grow.grow_alloc ?_ _ | refine Grow.grow_drewN ?_ _ | refine Grow.grow_over ?_ _ | refine Grow.grow_via (by assumption) ?_)) <;> omega)
       clear HG
       have HG := HG2
       clear HG2
       clear c9 f9 c16 f16
       apply Grow.have_known (W := W)
       · rw [hW.out]; apply Known.at q9; (repeat (with_reducible first | exact q9 | apply Known.same | apply Known.other | apply Known.alloc | apply Known.drewN)) <;> omega
       clear q9
       intro q9
       (try simp only [List.setIfInBounds_toArray, List.set_cons_zero, List.set_cons_succ] at q9)
       apply Grow.have_known (W := W)
       · rw [hW.out]; apply Known.at q16; (repeat (with_reducible first | exact q16 | apply Known.same | apply Known.other | apply Known.alloc | apply Known.drewN)) <;> omega
       clear q16
       intro q16
       (try simp only [List.setIfInBounds_toArray, List.set_cons_zero, List.set_cons_succ] at q16)
       apply Grow.have_known (W := W) (b := w1.heap.size)
       · rw [hW.out]; (repeat (with_reducible first | exact Known.new _ _ _ | apply Known.same | apply Known.other | apply Known.alloc | apply Known.drewN)) <;> omega
       intro q18
       (try simp only [World.size_alloc, World.size_setCell, World.heap_drewN] at q18)
       (try simp only [List.setIfInBounds_toArray, List.set_cons_zero, List.set_cons_succ] at q18)
       have m18 := q18.ge (n := w.heap.size) (by omega)
       replace HZ : w.heap.size ≤ W.heap.size := Below.size HG.out
       clear hW
       refine (dotOf_walk _ _ _ _ _ _ _).mono ?_
       rintro e w1 hp
       obtain ⟨v, rfl, hp, hB⟩ := hp
       obtain ⟨b0, rfl, hb⟩ := hp
       have D1 := Lib.hid (hb.trans (congrArg (fun m => dt m.a m.b) GP.out)); clear hb
       replace q9 := q9.below hB
       replace q16 := q16.below hB
       replace q18 := q18.below hB
       replace HG : Hid (Below w.heap.size w w1) := Lib.hid (Grow.grow_trans HG.out hB)
       replace HZ : w.heap.size ≤ w1.heap.size := Below.size HG.out
       clear hB
       have c9 := q9.cell; have f9 := q9.frozen; have l9 := q9.lt
       have c16 := q16.cell; have f16 := q16.frozen; have l16 := q16.lt
       have c18 := q18.cell; have f18 := q18.frozen; have l18 := q18.lt
       have s10 := trivial)
    | (clear s10
       go_at_call 42
       refine Grow.seal_calls ?_
       intro W hW
       have HG2 : Hid (Below w.heap.size w W) := Lib.hid (by rw [hW.out]; (repeat (with_reducible first | exact Grow.grow_refl _ | refine Grow.grow_setCell ?_ ?_ _ | refine Grow.grow_alloc ?_ _ | refine Grow.grow_drewN ?_ _ | refine Grow.grow_over ?_ _ | refine Grow.grow_via (by assumption) ?_)) <;> omega)
       clear HG
       have HG := HG2
       clear HG2
       clear c9 f9 c16 f16 c18 f18
       apply Grow.have_known (W := W)
       · rw [hW.out]; apply Known.at q9; (repeat (with_reducible first | exact q9 | apply Known.same | apply Known.other | apply Known.alloc | apply Known.drewN)) <;> omega
       clear q9
       intro q9
       (try simp only [List.setIfInBounds_toArray, List.set_cons_zero, List.set_cons_succ] at q9)
       apply Grow.have_known (W := W)
       · rw [hW.out]; apply Known.at q16; (repeat (with_reducible first | exact q16 | apply Known.same | apply Known.other | apply Known.alloc | apply Known.drewN)) <;> omega
       clear q16
       intro q16
       (try simp only [List.setIfInBounds_toArray, List.set_cons_zero, List.set_cons_succ] at q16)
       apply Grow.have_known (W := W)
       · rw [hW.out]; apply Known.at q18; (repeat (with_reducible first | exact q18 | apply Known.same | apply Known.other | apply Known.alloc | apply Known.drewN)) <;> omega
       clear q18
       intro q18
       (try simp only [List.setIfInBounds_toArray, List.set_cons_zero, List.set_cons_succ] at q18)
       replace HZ : w.heap.size ≤ W.heap.size := Below.size HG.out
       clear hW
       refine (dotOf_walk _ _ _ _ _ _ _).mono ?_
       rintro e w1 hp
       obtain ⟨v, rfl, hp, hB⟩ := hp
       obtain ⟨b1, rfl, hb⟩ := hp
       have D2 := Lib.hid (hb.trans (congrArg (fun m => dt m.b m.c) GP.out)); clear hb
       replace q9 := q9.below hB
       replace q16 := q16.below hB
       replace q18 := q18.below hB
       replace HG : Hid (Below w.heap.size w w1) := Lib.hid (Grow.grow_trans HG.out hB)
       replace HZ : w.heap.size ≤ w1.heap.size := Below.size HG.out
       clear hB
       have c9 := q9.cell; have f9 := q9.frozen; have l9 := q9.lt
       have c16 := q16.cell; have f16 := q16.frozen; have l16 := q16.lt
       have c18 := q18.cell; have f18 := q18.frozen; have l18 := q18.lt
       have s11 := trivial)
    | (clear s11
       go_at_call 42
       refine Grow.seal_calls ?_
       intro W hW
       have HG2 : Hid (Below w.heap.size w W) := Lib.hid (by rw [hW.out]; (repeat (with_reducible first | exact Grow.grow_refl _ | refine Grow.grow_setCell ?_ ?_ _ | refine Grow.grow_alloc ?_ _ | refine Grow.grow_drewN ?_ _ | refine Grow.grow_over ?_ _ | refine Grow.grow_via (by assumption) ?_)) <;> omega)
       clear HG
       have HG := HG2
       clear HG2
       clear c9 f9 c16 f16 c18 f18
       apply Grow.have_known (W := W)
       · rw [hW.out]; apply Known.at q9; (repeat (with_reducible first | exact q9 | apply Known.same | apply Known.other | apply Known.alloc | apply Known.drewN)) <;> omega
       clear q9
       intro q9
       (try simp only [List.setIfInBounds_toArray, List.set_cons_zero, List.set_cons_succ] at q9)
       apply Grow.have_known (W := W)
       · rw [hW.out]; apply Known.at q16; (repeat (with_reducible first | exact q16 | apply Known.same | apply Known.other | apply Known.alloc | apply Known.drewN)) <;> omega
       clear q16
       intro q16
       (try simp only [List.setIfInBounds_toArray, List.set_cons_zero, List.set_cons_succ] at q16)
       apply Grow.have_known (W := W)
       · rw [hW.out]; apply Known.at q18; (repeat (with_reducible first | exact q18 | apply Known.same | apply Known.other | apply Known.alloc | apply Known.drewN)) <;> omega
       clear q18
       intro q18
       (try simp only [List.setIfInBounds_toArray, List.set_cons_zero, List.set_cons_succ] at q18)
       replace HZ : w.heap.size ≤ W.heap.size := Below.size HG.out
       clear hW
       refine (dotOf_walk _ _ _ _ _ _ _).mono ?_
       rintro e w1 hp
       obtain ⟨v, rfl, hp, hB⟩ := hp
       obtain ⟨b2, rfl, hb⟩ := hp
       have D3 := Lib.hid (hb.trans (congrArg (fun m => dt m.c m.a) GP.out)); clear hb
       replace q9 := q9.below hB
       replace q16 := q16.below hB
       replace q18 := q18.below hB
       replace HG : Hid (Below w.heap.size w w1) := Lib.hid (Grow.grow_trans HG.out hB)
       replace HZ : w.heap.size ≤ w1.heap.size := Below.size HG.out
       clear hB
       have c9 := q9.cell; have f9 := q9.frozen; have l9 := q9.lt
       have c16 := q16.cell; have f16 := q16.frozen; have l16 := q16.lt
       have c18 := q18.cell; have f18 := q18.frozen; have l18 := q18.lt
       have s12 := trivial)
    | (clear s12
       go_at_call 43
       refine Grow.seal_calls ?_
       intro W hW
       have HG2 : Hid (Below w.heap.size w W) := Lib.hid (by rw [hW.out]; (repeat (with_reducible first | exact Grow.grow_refl _ | refine Grow.grow_setCell ?_ ?_ _ | refine Grow.grow_alloc ?_ _ | refine Grow.grow_drewN ?_ _ | refine Grow.grow_over ?_ _ | refine Grow.grow_via (by assumption) ?_)) <;> omega)
       clear HG
       have HG := HG2
       clear HG2
       clear c9 f9 c16 f16 c18 f18
       apply Grow.have_known (W := W)
       · rw [hW.out]; apply Known.at q9; (repeat (with_reducible first | exact q9 | apply Known.same | apply Known.other | apply Known.alloc | apply Known.drewN)) <;> omega
       clear q9
       intro q9
       (try simp only [List.setIfInBounds_toArray, List.set_cons_zero, List.set_cons_succ] at q9)
       apply Grow.have_known (W := W)
       · rw [hW.out]; apply Known.at q16; (repeat (with_reducible first | exact q16 | apply Known.same | apply Known.other | apply Known.alloc | apply Known.drewN)) <;> omega
       clear q16
       intro q16
       (try simp only [List.setIfInBounds_toArray, List.set_cons_zero, List.set_cons_succ] at q16)
       apply Grow.have_known (W := W)
       · rw [hW.out]; apply Known.at q18; (repeat (with_reducible first | exact q18 | apply Known.same | apply Known.other | apply Known.alloc | apply Known.drewN)) <;> omega
       clear q18
       intro q18
       (try simp only [List.setIfInBounds_toArray, List.set_cons_zero, List.set_cons_succ] at q18)
       replace HZ : w.heap.size ≤ W.heap.size := Below.size HG.out
       clear hW
       refine (within_at _ _ _ _ GD.out.d1 D1.out rfl _).mono ?_
       rintro e w1 hp
       obtain ⟨v, rfl, hp, hB⟩ := hp
       subst hp
       skip
       replace q9 := q9.below hB
       replace q16 := q16.below hB
       replace q18 := q18.below hB
       replace HG : Hid (Below w.heap.size w w1) := Lib.hid (Grow.grow_trans HG.out hB)
       replace HZ : w.heap.size ≤ w1.heap.size := Below.size HG.out
       clear hB
       have c9 := q9.cell; have f9 := q9.frozen; have l9 := q9.lt
       have c16 := q16.cell; have f16 := q16.frozen; have l16 := q16.lt
       have c18 := q18.cell; have f18 := q18.frozen; have l18 := q18.lt
       have s13 := trivial)
    | (clear s13
       go_at_call 43
       refine Grow.seal_calls ?_
       intro W hW
       have HG2 : Hid (Below w.heap.size w W) := Lib.hid (by rw [hW.out]; (repeat (with_reducible first | exact Grow.grow_refl _ | refine Grow.grow_setCell ?_ ?_ _ | refine Grow.grow_alloc ?_ _ | refine Grow.grow_drewN ?_ _ | refine Grow.grow_over ?_ _ | refine Grow.grow_via (by assumption) ?_)) <;> omega)
       clear HG
       have HG := HG2
       clear HG2
       clear c9 f9 c16 f16 c18 f18
       apply Grow.have_known (W := W)
       · rw [hW.out]; apply Known.at q9; (repeat (with_reducible first | exact q9 | apply Known.same | apply Known.other | apply Known.alloc | apply Known.drewN)) <;> omega
       clear q9
       intro q9
       (try simp only [List.setIfInBounds_toArray, List.set_cons_zero, List.set_cons_succ] at q9)
       apply Grow.have_known (W := W)
       · rw [hW.out]; apply Known.at q16; (repeat (with_reducible first | exact q16 | apply Known.same | apply Known.other | apply Known.alloc | apply Known.drewN)) <;> omega
       clear q16
       intro q16
       (try simp only [List.setIfInBounds_toArray, List.set_cons_zero, List.set_cons_succ] at q16)
       apply Grow.have_known (W := W)
       · rw [hW.out]; apply Known.at q18; (repeat (with_reducible first | exact q18 | apply Known.same | apply Known.other | apply Known.alloc | apply Known.drewN)) <;> omega
       clear q18
       intro q18
       (try simp only [List.setIfInBounds_toArray, List.set_cons_zero, List.set_cons_succ] at q18)
       replace HZ : w.heap.size ≤ W.heap.size := Below.size HG.out
       clear hW
       refine (within_at _ _ _ _ GD.out.d2 D2.out rfl _).mono ?_
       rintro e w1 hp
       obtain ⟨v, rfl, hp, hB⟩ := hp
       subst hp
       skip
       replace q9 := q9.below hB
       replace q16 := q16.below hB
       replace q18 := q18.below hB
       replace HG : Hid (Below w.heap.size w w1) := Lib.hid (Grow.grow_trans HG.out hB)
       replace HZ : w.heap.size ≤ w1.heap.size := Below.size HG.out
       clear hB
       have c9 := q9.cell; have f9 := q9.frozen; have l9 := q9.lt
       have c16 := q16.cell; have f16 := q16.frozen; have l16 := q16.lt
       have c18 := q18.cell; have f18 := q18.frozen; have l18 := q18.lt
       have s14 := trivial)
    | (clear s14
       go_at_call 43
       refine Grow.seal_calls ?_
       intro W hW
       have HG2 : Hid (Below w.heap.size w W) := Lib.hid (by rw [hW.out]; (repeat (with_reducible first | exact Grow.grow_refl _ | refine Grow.grow_setCell ?_ ?_ _ | refine Grow.grow_alloc ?_ _ | refine Grow.grow_drewN ?_ _ | refine Grow.grow_over ?_ _ | refine Grow.grow_via (by assumption) ?_)) <;> omega)
       clear HG
       have HG := HG2
       clear HG2
       clear c9 f9 c16 f16 c18 f18
       apply Grow.have_known (W := W)
       · rw [hW.out]; apply Known.at q9; (repeat (with_reducible first | exact q9 | apply Known.same | apply Known.other | apply Known.alloc | apply Known.drewN)) <;> omega
       clear q9
       intro q9
       (try simp only [List.setIfInBounds_toArray, List.set_cons_zero, List.set_cons_succ] at q9)
       apply Grow.have_known (W := W)
       · rw [hW.out]; apply Known.at q16; (repeat (with_reducible first | exact q16 | apply Known.same | apply Known.other | apply Known.alloc | apply Known.drewN)) <;> omega
       clear q16
       intro q16
       (try simp only [List.setIfInBounds_toArray, List.set_cons_zero, List.set_cons_succ] at q16)
       apply Grow.have_known (W := W)
       · rw [hW.out]; apply Known.at q18; (repeat (with_reducible first | exact q18 | apply Known.same | apply Known.other | apply Known.alloc | apply Known.drewN)) <;> omega
       clear q18
       intro q18
       (try simp only [List.setIfInBounds_toArray, List.set_cons_zero, List.set_cons_succ] at q18)
       replace HZ : w.heap.size ≤ W.heap.size := Below.size HG.out
       clear hW
       refine (within_at _ _ _ _ GD.out.d3 D3.out rfl _).mono ?_
       rintro e w1 hp
       obtain ⟨v, rfl, hp, hB⟩ := hp
       subst hp
       skip
       replace q9 := q9.below hB
       replace q16 := q16.below hB
       replace q18 := q18.below hB
       replace HG : Hid (Below w.heap.size w w1) := Lib.hid (Grow.grow_trans HG.out hB)
       replace HZ : w.heap.size ≤ w1.heap.size := Below.size HG.out
       clear hB
       have c9 := q9.cell; have f9 := q9.frozen; have l9 := q9.lt
       have c16 := q16.cell; have f16 := q16.frozen; have l16 := q16.lt
       have c18 := q18.cell; have f18 := q18.frozen; have l18 := q18.lt
       have s15 := trivial)
    | (clear s15
       go_at_call 44
       refine Grow.seal_calls ?_
       intro W hW
       have HG2 : Hid (Below w.heap.size w W) := Lib.hid (by rw [hW.out]; (repeat (with_reducible first | exact Grow.grow_refl _ | refine Grow.grow_setCell ?_ ?_ _ | refine Grow.grow_alloc ?_ _ | refine Grow.grow_drewN ?_ _ | refine Grow.grow_over ?_ _ | refine Grow.grow_via (by assumption) ?_)) <;> omega)
       clear HG
       have HG := HG2
       clear HG2
       clear c9 f9 c16 f16 c18 f18
       apply Grow.have_known (W := W)
       · rw [hW.out]; apply Known.at q9; (repeat (with_reducible first | exact q9 | apply Known.same | apply Known.other | apply Known.alloc | apply Known.drewN)) <;> omega
       clear q9
       intro q9
       (try simp only [List.setIfInBounds_toArray, List.set_cons_zero, List.set_cons_succ] at q9)
       apply Grow.have_known (W := W)
       · rw [hW.out]; apply Known.at q16; (repeat (with_reducible first | exact q16 | apply Known.same | apply Known.other | apply Known.alloc | apply Known.drewN)) <;> omega
       clear q16
       intro q16
       (try simp only [List.setIfInBounds_toArray, List.set_cons_zero, List.set_cons_succ] at q16)
       apply Grow.have_known (W := W)
       · rw [hW.out]; apply Known.at q18; (repeat (with_reducible first | exact q18 | apply Known.same | apply Known.other | apply Known.alloc | apply Known.drewN)) <;> omega
       clear q18
       intro q18
       (try simp only [List.setIfInBounds_toArray, List.set_cons_zero, List.set_cons_succ] at q18)
       replace HZ : w.heap.size ≤ W.heap.size := Below.size HG.out
       clear hW
       refine (lengthOf_walk _ _ _ _).mono ?_
       rintro e w1 hp
       obtain ⟨v, rfl, hp, hB⟩ := hp
       obtain ⟨e1, rfl, hb⟩ := hp
       have E1 := Lib.hid (hb.trans (congrArg (fun m => vlen m.a) GP.out)); clear hb
       replace q9 := q9.below hB
       replace q16 := q16.below hB
       replace q18 := q18.below hB
       replace HG : Hid (Below w.heap.size w w1) := Lib.hid (Grow.grow_trans HG.out hB)
       replace HZ : w.heap.size ≤ w1.heap.size := Below.size HG.out
       clear hB
       have c9 := q9.cell; have f9 := q9.frozen; have l9 := q9.lt
       have c16 := q16.cell; have f16 := q16.frozen; have l16 := q16.lt
       have c18 := q18.cell; have f18 := q18.frozen; have l18 := q18.lt
       have s16 := trivial)
    | (clear s16
       go_at_call 43
       refine Grow.seal_calls ?_
       intro W hW
       have HG2 : Hid (Below w.heap.size w W) := Lib.hid (by rw [hW.out]; (repeat (with_reducible first | exact Grow.grow_refl _ | refine Grow.grow_setCell ?_ ?_ _ | refine Grow.grow_alloc ?_ _ | refine Grow.grow_drewN ?_ _ | refine Grow.grow_over ?_ _ | refine Grow.grow_via (by assumption) ?_)) <;> omega)
       clear HG
       have HG := HG2
       clear HG2
       clear c9 f9 c16 f16 c18 f18
       apply Grow.have_known (W := W)
       · rw [hW.out]; apply Known.at q9; (repeat (with_reducible first | exact q9 | apply Known.same | apply Known.other | apply Known.alloc | apply Known.drewN)) <;> omega
       clear q9
       intro q9
       (try simp only [List.setIfInBounds_toArray, List.set_cons_zero, List.set_cons_succ] at q9)
       apply Grow.have_known (W := W)
       · rw [hW.out]; apply Known.at q16; (repeat (with_reducible first | exact q16 | apply Known.same | apply Known.other | apply Known.alloc | apply Known.drewN)) <;> omega
       clear q16
       intro q16
       (try simp only [List.setIfInBounds_toArray, List.set_cons_zero, List.set_cons_succ] at q16)
       apply Grow.have_known (W := W)
       · rw [hW.out]; apply Known.at q18; (repeat (with_reducible first | exact q18 | apply Known.same | apply Known.other | apply Known.alloc | apply Known.drewN)) <;> omega
       clear q18
       intro q18
       (try simp only [List.setIfInBounds_toArray, List.set_cons_zero, List.set_cons_succ] at q18)
       replace HZ : w.heap.size ≤ W.heap.size := Below.size HG.out
       clear hW
       refine (within_at _ _ _ _ GD.out.l1 (H1.trans (congrArg (fun t => fsub t _) E1.out)) rfl _).mono ?_
       rintro e w1 hp
       obtain ⟨v, rfl, hp, hB⟩ := hp
       subst hp
       skip
       replace q9 := q9.below hB
       replace q16 := q16.below hB
       replace q18 := q18.below hB
       replace HG : Hid (Below w.heap.size w w1) := Lib.hid (Grow.grow_trans HG.out hB)
       replace HZ : w.heap.size ≤ w1.heap.size := Below.size HG.out
       clear hB
       have c9 := q9.cell; have f9 := q9.frozen; have l9 := q9.lt
       have c16 := q16.cell; have f16 := q16.frozen; have l16 := q16.lt
       have c18 := q18.cell; have f18 := q18.frozen; have l18 := q18.lt
       have s17 := trivial
       clear H1 E1 D1)
    | (clear s17
       go_at_call 44
       refine Grow.seal_calls ?_
       intro W hW
       have HG2 : Hid (Below w.heap.size w W) := Lib.hid (by rw [hW.out]; (repeat (with_reducible first | exact Grow.grow_refl _ | refine Grow.grow_setCell ?_ ?_ _ | refine Grow.grow_alloc ?_ _ | refine Grow.grow_drewN ?_ _ | refine Grow.grow_over ?_ _ | refine Grow.grow_via (by assumption) ?_)) <;> omega)
       clear HG
       have HG := HG2
       clear HG2
       clear c9 f9 c16 f16 c18 f18
       apply Grow.have_known (W := W)
       · rw [hW.out]; apply Known.at q9; (repeat (with_reducible first | exact q9 | apply Known.same | apply Known.other | apply Known.alloc | apply Known.drewN)) <;> omega
       clear q9
       intro q9
       (try simp only [List.setIfInBounds_toArray, List.set_cons_zero, List.set_cons_succ] at q9)
       apply Grow.have_known (W := W)
       · rw [hW.out]; apply Known.at q16; (repeat (with_reducible first | exact q16 | apply Known.same | apply Known.other | apply Known.alloc | apply Known.drewN)) <;> omega
       clear q16
       intro q16
       (try simp only [List.setIfInBounds_toArray, List.set_cons_zero, List.set_cons_succ] at q16)
       apply Grow.have_known (W := W)
       · rw [hW.out]; apply Known.at q18; (repeat (with_reducible first | exact q18 | apply Known.same | apply Known.other | apply Known.alloc | apply Known.drewN)) <;> omega
       clear q18
       intro q18
       (try simp only [List.setIfInBounds_toArray, List.set_cons_zero, List.set_cons_succ] at q18)
       replace HZ : w.heap.size ≤ W.heap.size := Below.size HG.out
       clear hW
       refine (lengthOf_walk _ _ _ _).mono ?_
       rintro e w1 hp
       obtain ⟨v, rfl, hp, hB⟩ := hp
       obtain ⟨e2, rfl, hb⟩ := hp
       have E2 := Lib.hid (hb.trans (congrArg (fun m => vlen m.b) GP.out)); clear hb
       replace q9 := q9.below hB
       replace q16 := q16.below hB
       replace q18 := q18.below hB
       replace HG : Hid (Below w.heap.size w w1) := Lib.hid (Grow.grow_trans HG.out hB)
       replace HZ : w.heap.size ≤ w1.heap.size := Below.size HG.out
       clear hB
       have c9 := q9.cell; have f9 := q9.frozen; have l9 := q9.lt
       have c16 := q16.cell; have f16 := q16.frozen; have l16 := q16.lt
       have c18 := q18.cell; have f18 := q18.frozen; have l18 := q18.lt
       have s18 := trivial)
    | (clear s18
       go_at_call 43
       refine Grow.seal_calls ?_
       intro W hW
       have HG2 : Hid (Below w.heap.size w W) := Lib.hid (by rw [hW.out]; (repeat (with_reducible first | exact Grow.grow_refl _ | refine Grow.grow_setCell ?_ ?_ _ | refine Grow.grow_alloc ?_ _ | refine Grow.grow_drewN ?_ _ | refine Grow.grow_over ?_ _ | refine Grow.grow_via (by assumption) ?_)) <;> omega)
       clear HG
       have HG := HG2
       clear HG2
       clear c9 f9 c16 f16 c18 f18
       apply Grow.have_known (W := W)
       · rw [hW.out]; apply Known.at q9; (repeat (with_reducible first | exact q9 | apply Known.same | apply Known.other | apply Known.alloc | apply Known.drewN)) <;> omega
       clear q9
       intro q9
       (try simp only [List.setIfInBounds_toArray, List.set_cons_zero, List.set_cons_succ] at q9)
       apply Grow.have_known (W := W)
       · rw [hW.out]; apply Known.at q16; (repeat (with_reducible first | exact q16 | apply Known.same | apply Known.other | apply Known.alloc | apply Known.drewN)) <;> omega
       clear q16
       intro q16
       (try simp only [List.setIfInBounds_toArray, List.set_cons_zero, List.set_cons_succ] at q16)
       apply Grow.have_known (W := W)
       · rw [hW.out]; apply Known.at q18; (repeat (with_reducible first | exact q18 | apply Known.same | apply Known.other | apply Known.alloc | apply Known.drewN)) <;> omega
       clear q18
       intro q18
       (try simp only [List.setIfInBounds_toArray, List.set_cons_zero, List.set_cons_succ] at q18)
       replace HZ : w.heap.size ≤ W.heap.size := Below.size HG.out
       clear hW
       refine (within_at _ _ _ _ GD.out.l2 (H1.trans (congrArg (fun t => fsub t _) E2.out)) rfl _).mono ?_
       rintro e w1 hp
       obtain ⟨v, rfl, hp, hB⟩ := hp
       subst hp
       skip
       replace q9 := q9.below hB
       replace q16 := q16.below hB
       replace q18 := q18.below hB
       replace HG : Hid (Below w.heap.size w w1) := Lib.hid (Grow.grow_trans HG.out hB)
       replace HZ : w.heap.size ≤ w1.heap.size := Below.size HG.out
       clear hB
       have c9 := q9.cell; have f9 := q9.frozen; have l9 := q9.lt
       have c16 := q16.cell; have f16 := q16.frozen; have l16 := q16.lt
       have c18 := q18.cell; have f18 := q18.frozen; have l18 := q18.lt
       have s19 := trivial
       clear H1 E2 D2)
    | (clear s19
       go_at_call 44
       refine Grow.seal_calls ?_
       intro W hW
       have HG2 : Hid (Below w.heap.size w W) := Lib.hid (by rw [hW.out]; (repeat (with_reducible first | exact Grow.grow_refl _ | refine Grow.grow_setCell ?_ ?_ _ | refine Grow.grow_alloc ?_ _ | refine Grow.grow_drewN ?_ _ | refine Grow.grow_over ?_ _ | refine Grow.grow_via (by assumption) ?_)) <;> omega)
       clear HG
       have HG := HG2
       clear HG2
       clear c9 f9 c16 f16 c18 f18
       apply Grow.have_known (W := W)
       · rw [hW.out]; apply Known.at q9; (repeat (with_reducible first | exact q9 | apply Known.same | apply Known.other | apply Known.alloc | apply Known.drewN)) <;> omega
       clear q9
       intro q9
       (try simp only [List.setIfInBounds_toArray, List.set_cons_zero, List.set_cons_succ] at q9)
       apply Grow.have_known (W := W)
       · rw [hW.out]; apply Known.at q16; (repeat (with_reducible first | exact q16 | apply Known.same | apply Known.other | apply Known.alloc | apply Known.drewN)) <;> omega
       clear q16
       intro q16
       (try simp only [List.setIfInBounds_toArray, List.set_cons_zero, List.set_cons_succ] at q16)
       apply Grow.have_known (W := W)
       · rw [hW.out]; apply Known.at q18; (repeat (with_reducible first | exact q18 | apply Known.same | apply Known.other | apply Known.alloc | apply Known.drewN)) <;> omega
       clear q18
       intro q18
       (try simp only [List.setIfInBounds_toArray, List.set_cons_zero, List.set_cons_succ] at q18)
       replace HZ : w.heap.size ≤ W.heap.size := Below.size HG.out
       clear hW
       refine (lengthOf_walk _ _ _ _).mono ?_
       rintro e w1 hp
       obtain ⟨v, rfl, hp, hB⟩ := hp
       obtain ⟨e3, rfl, hb⟩ := hp
       have E3 := Lib.hid (hb.trans (congrArg (fun m => vlen m.c) GP.out)); clear hb
       replace q9 := q9.below hB
       replace q16 := q16.below hB
       replace q18 := q18.below hB
       replace HG : Hid (Below w.heap.size w w1) := Lib.hid (Grow.grow_trans HG.out hB)
       replace HZ : w.heap.size ≤ w1.heap.size := Below.size HG.out
       clear hB
       have c9 := q9.cell; have f9 := q9.frozen; have l9 := q9.lt
       have c16 := q16.cell; have f16 := q16.frozen; have l16 := q16.lt
       have c18 := q18.cell; have f18 := q18.frozen; have l18 := q18.lt
       have s20 := trivial)
    | (clear s20
       go_at_call 43
       refine Grow.seal_calls ?_
       intro W hW
       have HG2 : Hid (Below w.heap.size w W) := Lib.hid (by rw [hW.out]; (repeat (with_reducible first | exact Grow.grow_refl _ | refine Grow.grow_setCell ?_ ?_ _ | refine Grow.grow_alloc ?_ _ | refine Grow.grow_drewN ?_ _ | refine Grow.grow_over ?_ _ | refine Grow.grow_via (by assumption) ?_)) <;> omega)
       clear HG
       have HG := HG2
       clear HG2
       clear c9 f9 c16 f16 c18 f18
       apply Grow.have_known (W := W)
       · rw [hW.out]; apply Known.at q9; (repeat (with_reducible first | exact q9 | apply Known.same | apply Known.other | apply Known.alloc | apply Known.drewN)) <;> omega
       clear q9
       intro q9
       (try simp only [List.setIfInBounds_toArray, List.set_cons_zero, List.set_cons_succ] at q9)
       apply Grow.have_known (W := W)
       · rw [hW.out]; apply Known.at q16; (repeat (with_reducible first | exact q16 | apply Known.same | apply Known.other | apply Known.alloc | apply Known.drewN)) <;> omega
       clear q16
       intro q16
       (try simp only [List.setIfInBounds_toArray, List.set_cons_zero, List.set_cons_succ] at q16)
       apply Grow.have_known (W := W)
       · rw [hW.out]; apply Known.at q18; (repeat (with_reducible first | exact q18 | apply Known.same | apply Known.other | apply Known.alloc | apply Known.drewN)) <;> omega
       clear q18
       intro q18
       (try simp only [List.setIfInBounds_toArray, List.set_cons_zero, List.set_cons_succ] at q18)
       replace HZ : w.heap.size ≤ W.heap.size := Below.size HG.out
       clear hW
       refine (within_at _ _ _ _ GD.out.l3 (H1.trans (congrArg (fun t => fsub t _) E3.out)) rfl _).mono ?_
       rintro e w1 hp
       obtain ⟨v, rfl, hp, hB⟩ := hp
       subst hp
       skip
       replace q9 := q9.below hB
       replace q16 := q16.below hB
       replace q18 := q18.below hB
       replace HG : Hid (Below w.heap.size w w1) := Lib.hid (Grow.grow_trans HG.out hB)
       replace HZ : w.heap.size ≤ w1.heap.size := Below.size HG.out
       clear hB
       have c9 := q9.cell; have f9 := q9.frozen; have l9 := q9.lt
       have c16 := q16.cell; have f16 := q16.frozen; have l16 := q16.lt
       have c18 := q18.cell; have f18 := q18.frozen; have l18 := q18.lt
       have s21 := trivial
       clear H1 E3 D3)
    | (clear s21
       go_at_call 44
       refine Grow.seal_calls ?_
       intro W hW
       have HG2 : Hid (Below w.heap.size w W) := Lib.hid (by rw [hW.out]; (repeat (with_reducible first | exact Grow.grow_refl _ | refine Grow.grow_setCell ?_ ?_ _ | refine Grow.grow_alloc ?_ _ | refine Grow.grow_drewN ?_ _ | refine Grow.grow_over ?_ _ | refine Grow.grow_via (by assumption) ?_)) <;> omega)
       clear HG
       have HG := HG2
       clear HG2
       clear c9 f9 c16 f16 c18 f18
       apply Grow.have_known (W := W)
       · rw [hW.out]; apply Known.at q9; (repeat (with_reducible first | exact q9 | apply Known.same | apply Known.other | apply Known.alloc | apply Known.drewN)) <;> omega
       clear q9
       intro q9
       (try simp only [List.setIfInBounds_toArray, List.set_cons_zero, List.set_cons_succ] at q9)
       apply Grow.have_known (W := W)
       · rw [hW.out]; apply Known.at q16; (repeat (with_reducible first | exact q16 | apply Known.same | apply Known.other | apply Known.alloc | apply Known.drewN)) <;> omega
       clear q16
       intro q16
       (try simp only [List.setIfInBounds_toArray, List.set_cons_zero, List.set_cons_succ] at q16)
       apply Grow.have_known (W := W)
       · rw [hW.out]; apply Known.at q18; (repeat (with_reducible first | exact q18 | apply Known.same | apply Known.other | apply Known.alloc | apply Known.drewN)) <;> omega
       clear q18
       intro q18
       (try simp only [List.setIfInBounds_toArray, List.set_cons_zero, List.set_cons_succ] at q18)
       replace HZ : w.heap.size ≤ W.heap.size := Below.size HG.out
       clear hW
       refine (lengthOf_walk _ _ _ _).mono ?_
       rintro e w1 hp
       obtain ⟨v, rfl, hp, hB⟩ := hp
       obtain ⟨nn, rfl, hb⟩ := hp
       have NN := Lib.hid hb; clear hb
       replace q9 := q9.below hB
       replace q16 := q16.below hB
       replace q18 := q18.below hB
       replace HG : Hid (Below w.heap.size w w1) := Lib.hid (Grow.grow_trans HG.out hB)
       replace HZ : w.heap.size ≤ w1.heap.size := Below.size HG.out
       clear hB
       have c9 := q9.cell; have f9 := q9.frozen; have l9 := q9.lt
       have c16 := q16.cell; have f16 := q16.frozen; have l16 := q16.lt
       have c18 := q18.cell; have f18 := q18.frozen; have l18 := q18.lt
       have s22 := trivial
       clear q18 c18 f18 l18)
    | (clear s22
       go_at_call 32
       refine Grow.seal_calls ?_
       intro W hW
       have HG2 : Hid (Below w.heap.size w W) := Lib.hid (by rw [hW.out]; (repeat (with_reducible first | exact Grow.grow_refl _ | refine Grow.grow_setCell ?_ ?_ _ | refine Grow.grow_alloc ?_ _ | refine Grow.grow_drewN ?_ _ | refine Grow.grow_over ?_ _ | refine Grow.grow_via (by assumption) ?_)) <;> omega)
       clear HG
       have HG := HG2
       clear HG2
       clear c9 f9 c16 f16
       apply Grow.have_known (W := W)
       · rw [hW.out]; apply Known.at q9; (repeat (with_reducible first | exact q9 | apply Known.same | apply Known.other | apply Known.alloc | apply Known.drewN)) <;> omega
       clear q9
       intro q9
       (try simp only [List.setIfInBounds_toArray, List.set_cons_zero, List.set_cons_succ] at q9)
       apply Grow.have_known (W := W)
       · rw [hW.out]; apply Known.at q16; (repeat (with_reducible first | exact q16 | apply Known.same | apply Known.other | apply Known.alloc | apply Known.drewN)) <;> omega
       clear q16
       intro q16
       (try simp only [List.setIfInBounds_toArray, List.set_cons_zero, List.set_cons_succ] at q16)
       replace HZ : w.heap.size ≤ W.heap.size := Below.size HG.out
       clear hW
       refine (turn_walk _ _ _ _ _ _ _ _).mono ?_
       rintro e w1 hp
       obtain ⟨v, rfl, hp, hB⟩ := hp
       obtain ⟨t1, t2, t3, rfl, g1, g2, g3⟩ := hp
       have GT := Lib.hid ((v3_eq' g1 g2 g3).trans (congrArg (fun q => app (mat q) _) GQ.out)); clear g1 g2 g3
       replace q9 := q9.below hB
       replace q16 := q16.below hB
       replace HG : Hid (Below w.heap.size w w1) := Lib.hid (Grow.grow_trans HG.out hB)
       replace HZ : w.heap.size ≤ w1.heap.size := Below.size HG.out
       clear hB
       have c9 := q9.cell; have f9 := q9.frozen; have l9 := q9.lt
       have c16 := q16.cell; have f16 := q16.frozen; have l16 := q16.lt
       have s23 := trivial))
  all_goals (try (go_ret; refine Post.mk (T := fun v => v = _) (by first | rfl | (simp; done) | (simp_all; done)) ?_; (repeat (with_reducible first | exact Grow.grow_refl _ | refine Grow.grow_setCell ?_ ?_ _ | refine Grow.grow_alloc ?_ _ | refine Grow.grow_drewN ?_ _ | refine Grow.grow_over ?_ _ | refine Grow.grow_via (by assumption) ?_)) <;> omega; done))
  refine Grow.seal_wp ?_
  intro W hW
  have HG2 : Hid (Below w.heap.size w W) := Lib.hid (by rw [hW.out]; (repeat (with_reducible first | exact Grow.grow_refl _ | refine Grow.grow_setCell ?_ ?_ _ | refine Grow.grow_alloc ?_ _ | refine Grow.grow_drewN ?_ _ | refine Grow.grow_over ?_ _ | refine Grow.grow_via (by assumption) ?_)) <;> omega)
  clear HG
  have HG := HG2
  clear HG2
  clear c9 f9 c16 f16
  apply Grow.have_known (W := W)
  · rw [hW.out]; apply Known.at q9; (repeat (with_reducible first | exact q9 | apply Known.same | apply Known.other | apply Known.alloc | apply Known.drewN)) <;> omega
  clear q9
  intro q9
  (try simp only [List.setIfInBounds_toArray, List.set_cons_zero, List.set_cons_succ] at q9)
  apply Grow.have_known (W := W)
  · rw [hW.out]; apply Known.at q16; (repeat (with_reducible first | exact q16 | apply Known.same | apply Known.other | apply Known.alloc | apply Known.drewN)) <;> omega
  clear q16
  intro q16
  (try simp only [List.setIfInBounds_toArray, List.set_cons_zero, List.set_cons_succ] at q16)
  apply Grow.have_known (W := W) (b := w1.heap.size)
  · rw [hW.out]; (repeat (with_reducible first | exact Known.new _ _ _ | apply Known.same | apply Known.other | apply Known.alloc | apply Known.drewN)) <;> omega
  intro q27
  (try simp only [World.size_alloc, World.size_setCell, World.heap_drewN] at q27)
  (try simp only [List.setIfInBounds_toArray, List.set_cons_zero, List.set_cons_succ] at q27)
  have m27 := q27.ge (n := w.heap.size) (by omega)
  replace HZ : w.heap.size ≤ W.heap.size := Below.size HG.out
  clear hW
  have c9 := q9.cell; have f9 := q9.frozen; have l9 := q9.lt
  have c16 := q16.cell; have f16 := q16.frozen; have l16 := q16.lt
  have c27 := q27.cell; have f27 := q27.frozen; have l27 := q27.lt
  refine Rel.wp_region_rel_tail SpecGood 5 (by kernel_rfl) (lexTailB_of_fast (by kernel_rfl) (by kernel_rfl) (by kernel_rfl)) ?_
  simp only [List.append_eq, List.cons_append, List.nil_append, List.take_succ_cons, List.take_zero, List.drop_succ_cons, List.drop_zero]
  repeat (first
    | (refine rel_arith (by rfl) rfl (by rfl) rfl rfl ?_; intro b1 H1; simp only [Act.put, List.setIfInBounds_toArray, List.set_cons_zero, List.set_cons_succ])
    | (refine rel_call (f := 20) (args := #[.agg #[.float .f64 _, .float .f64 _, .float .f64 _, .float .f64 _]]) (by rfl) rfl (callAt_func rfl Try.func20 (by kernel_rfl) (by kernel_rfl) rfl) (keeps_over (fun v h => h) fun x => back_walk _ _ _ _ _) ?_; rintro _ rfl; skip; simp only [Act.put, List.setIfInBounds_toArray, List.set_cons_zero, List.set_cons_succ])
    | (refine rel_call (f := 32) (args := #[.agg #[.float .f64 _, .float .f64 _, .float .f64 _, .float .f64 _], .agg #[.float .f64 _, .float .f64 _, .float .f64 _]]) (by rfl) rfl (callAt_func rfl Try.func32 (by kernel_rfl) (by kernel_rfl) rfl) (keeps_over (fun v h => h) fun x => turn_walk _ _ _ _ _ _ _ _) ?_; rintro _ ⟨u1, u2, u3, rfl, g1, g2, g3⟩; have GU := Lib.hid (((v3_eq' g1 g2 g3).trans (congrArg (fun q => app (mat q) _) (qback_eq GQ.out))).trans (congrArg (fun v => app (mat (qback R)) v) GT.out)); clear g1 g2 g3; simp only [Act.put, List.setIfInBounds_toArray, List.set_cons_zero, List.set_cons_succ])
    | (refine rel_alloc (by rfl) rfl alloc41 ?_; intro k hk; have hk1 := hk.1; have hk2 := hk.2; clear hk; (try simp only [World.size_alloc, World.size_setCell, World.heap_drewN] at hk1); (try simp only [List.forall_mem_cons] at hk2); (try obtain ⟨hk2, hk3⟩ := hk2); (try obtain ⟨hk3, hk4⟩ := hk3); (try obtain ⟨hk4, hk5⟩ := hk4); simp only [Act.put, List.setIfInBounds_toArray, List.set_cons_zero, List.set_cons_succ])
    | (refine rel_plain (by rfl) rfl ?_; intro K hK; go_big_quiet_op; go_big_quiet_on)
    | (refine rel_skip (by rfl) ?_; simp only [Act.put, List.setIfInBounds_toArray, List.set_cons_zero, List.set_cons_succ]))
  refine Rel.wpRel_nil ?_
  intro w9 hB9 hG9
  clear c9 f9 c16 f16 c27 f27
  replace q9 := q9.below hB9
  replace q16 := q16.below hB9
  replace q27 := q27.below hB9
  simp only [Rel.holds, List.forall_mem_cons] at hG9
  obtain ⟨hx0, -⟩ := hG9
  have q28 := Known.held hx0
  clear hx0
  have m28 := q28.ge (n := w.heap.size) (by omega)
  replace HG : Hid (Below w.heap.size w w9) := Lib.hid (Grow.grow_trans HG.out hB9)
  replace HZ : w.heap.size ≤ w9.heap.size := Below.size HG.out
  clear hB9
  have c9 := q9.cell
  have f9 := q9.frozen
  have l9 := q9.lt
  have c16 := q16.cell
  have f16 := q16.frozen
  have l16 := q16.lt
  have c27 := q27.cell
  have f27 := q27.frozen
  have l27 := q27.lt
  have c28 := q28.cell
  have f28 := q28.frozen
  have l28 := q28.lt
  have s23 := trivial
  go_wp2_with (first
    | (refine wpList_arith rfl rfl (by rfl) rfl rfl ?_; intro c1 n1 H1)
    | (refine wpList_arith_on (by rfl) rfl (by rfl) rfl rfl ?_; intro c1 n1 H1)
    | (clear s23
       go_at_call 44
       refine Grow.seal_calls ?_
       intro W hW
       have HG2 : Hid (Below w.heap.size w W) := Lib.hid (by rw [hW.out]; (repeat (with_reducible first | exact Grow.grow_refl _ | refine Grow.grow_setCell ?_ ?_ _ | refine Grow.grow_alloc ?_ _ | refine Grow.grow_drewN ?_ _ | refine Grow.grow_over ?_ _ | refine Grow.grow_via (by assumption) ?_)) <;> omega)
       clear HG
       have HG := HG2
       clear HG2
       clear c9 f9 c16 f16 c27 f27 c28 f28
       apply Grow.have_known (W := W)
       · rw [hW.out]; apply Known.at q9; (repeat (with_reducible first | exact q9 | apply Known.same | apply Known.other | apply Known.alloc | apply Known.drewN)) <;> omega
       clear q9
       intro q9
       (try simp only [List.setIfInBounds_toArray, List.set_cons_zero, List.set_cons_succ] at q9)
       apply Grow.have_known (W := W)
       · rw [hW.out]; apply Known.at q16; (repeat (with_reducible first | exact q16 | apply Known.same | apply Known.other | apply Known.alloc | apply Known.drewN)) <;> omega
       clear q16
       intro q16
       (try simp only [List.setIfInBounds_toArray, List.set_cons_zero, List.set_cons_succ] at q16)
       apply Grow.have_known (W := W)
       · rw [hW.out]; apply Known.at q27; (repeat (with_reducible first | exact q27 | apply Known.same | apply Known.other | apply Known.alloc | apply Known.drewN)) <;> omega
       clear q27
       intro q27
       (try simp only [List.setIfInBounds_toArray, List.set_cons_zero, List.set_cons_succ] at q27)
       apply Grow.have_known (W := W)
       · rw [hW.out]; apply Known.at q28; (repeat (with_reducible first | exact q28 | apply Known.same | apply Known.other | apply Known.alloc | apply Known.drewN)) <;> omega
       clear q28
       intro q28
       (try simp only [List.setIfInBounds_toArray, List.set_cons_zero, List.set_cons_succ] at q28)
       replace HZ : w.heap.size ≤ W.heap.size := Below.size HG.out
       clear hW
       refine (lengthOf_walk _ _ _ _).mono ?_
       rintro e w1 hp
       obtain ⟨v, rfl, hp, hB⟩ := hp
       obtain ⟨e1, rfl, hb⟩ := hp
       have MO := Lib.hid (H1.trans (congrArg (fun t => fmul _ t) NN.out)); have EE := Lib.hid (hb.trans (congrArg vlen GT.out)); clear hb H1
       replace q9 := q9.below hB
       replace q16 := q16.below hB
       replace q27 := q27.below hB
       replace q28 := q28.below hB
       replace HG : Hid (Below w.heap.size w w1) := Lib.hid (Grow.grow_trans HG.out hB)
       replace HZ : w.heap.size ≤ w1.heap.size := Below.size HG.out
       clear hB
       have c9 := q9.cell; have f9 := q9.frozen; have l9 := q9.lt
       have c16 := q16.cell; have f16 := q16.frozen; have l16 := q16.lt
       have c27 := q27.cell; have f27 := q27.frozen; have l27 := q27.lt
       have c28 := q28.cell; have f28 := q28.frozen; have l28 := q28.lt
       have s24 := trivial)
    | (clear s24
       go_at_call 43
       refine Grow.seal_calls ?_
       intro W hW
       have HG2 : Hid (Below w.heap.size w W) := Lib.hid (by rw [hW.out]; (repeat (with_reducible first | exact Grow.grow_refl _ | refine Grow.grow_setCell ?_ ?_ _ | refine Grow.grow_alloc ?_ _ | refine Grow.grow_drewN ?_ _ | refine Grow.grow_over ?_ _ | refine Grow.grow_via (by assumption) ?_)) <;> omega)
       clear HG
       have HG := HG2
       clear HG2
       clear c9 f9 c16 f16 c27 f27 c28 f28
       apply Grow.have_known (W := W)
       · rw [hW.out]; apply Known.at q9; (repeat (with_reducible first | exact q9 | apply Known.same | apply Known.other | apply Known.alloc | apply Known.drewN)) <;> omega
       clear q9
       intro q9
       (try simp only [List.setIfInBounds_toArray, List.set_cons_zero, List.set_cons_succ] at q9)
       apply Grow.have_known (W := W)
       · rw [hW.out]; apply Known.at q16; (repeat (with_reducible first | exact q16 | apply Known.same | apply Known.other | apply Known.alloc | apply Known.drewN)) <;> omega
       clear q16
       intro q16
       (try simp only [List.setIfInBounds_toArray, List.set_cons_zero, List.set_cons_succ] at q16)
       apply Grow.have_known (W := W)
       · rw [hW.out]; apply Known.at q27; (repeat (with_reducible first | exact q27 | apply Known.same | apply Known.other | apply Known.alloc | apply Known.drewN)) <;> omega
       clear q27
       intro q27
       (try simp only [List.setIfInBounds_toArray, List.set_cons_zero, List.set_cons_succ] at q27)
       apply Grow.have_known (W := W)
       · rw [hW.out]; apply Known.at q28; (repeat (with_reducible first | exact q28 | apply Known.same | apply Known.other | apply Known.alloc | apply Known.drewN)) <;> omega
       clear q28
       intro q28
       (try simp only [List.setIfInBounds_toArray, List.set_cons_zero, List.set_cons_succ] at q28)
       replace HZ : w.heap.size ≤ W.heap.size := Below.size HG.out
       clear hW
       refine (within_at _ _ _ _ GD.out.n (H1.trans ((congrArg (fun t => fsub t _) EE.out).trans (congrArg (fun t => fsub _ t) NN.out))) MO.out _).mono ?_
       rintro e w1 hp
       obtain ⟨v, rfl, hp, hB⟩ := hp
       subst hp
       skip
       replace q9 := q9.below hB
       replace q16 := q16.below hB
       replace q27 := q27.below hB
       replace q28 := q28.below hB
       replace HG : Hid (Below w.heap.size w w1) := Lib.hid (Grow.grow_trans HG.out hB)
       replace HZ : w.heap.size ≤ w1.heap.size := Below.size HG.out
       clear hB
       have c9 := q9.cell; have f9 := q9.frozen; have l9 := q9.lt
       have c16 := q16.cell; have f16 := q16.frozen; have l16 := q16.lt
       have c27 := q27.cell; have f27 := q27.frozen; have l27 := q27.lt
       have c28 := q28.cell; have f28 := q28.frozen; have l28 := q28.lt
       have s25 := trivial
       clear H1)
    | (clear s25
       go_at_call 43
       refine Grow.seal_calls ?_
       intro W hW
       have HG2 : Hid (Below w.heap.size w W) := Lib.hid (by rw [hW.out]; (repeat (with_reducible first | exact Grow.grow_refl _ | refine Grow.grow_setCell ?_ ?_ _ | refine Grow.grow_alloc ?_ _ | refine Grow.grow_drewN ?_ _ | refine Grow.grow_over ?_ _ | refine Grow.grow_via (by assumption) ?_)) <;> omega)
       clear HG
       have HG := HG2
       clear HG2
       clear c9 f9 c16 f16 c27 f27 c28 f28
       apply Grow.have_known (W := W)
       · rw [hW.out]; apply Known.at q9; (repeat (with_reducible first | exact q9 | apply Known.same | apply Known.other | apply Known.alloc | apply Known.drewN)) <;> omega
       clear q9
       intro q9
       (try simp only [List.setIfInBounds_toArray, List.set_cons_zero, List.set_cons_succ] at q9)
       apply Grow.have_known (W := W)
       · rw [hW.out]; apply Known.at q16; (repeat (with_reducible first | exact q16 | apply Known.same | apply Known.other | apply Known.alloc | apply Known.drewN)) <;> omega
       clear q16
       intro q16
       (try simp only [List.setIfInBounds_toArray, List.set_cons_zero, List.set_cons_succ] at q16)
       apply Grow.have_known (W := W)
       · rw [hW.out]; apply Known.at q27; (repeat (with_reducible first | exact q27 | apply Known.same | apply Known.other | apply Known.alloc | apply Known.drewN)) <;> omega
       clear q27
       intro q27
       (try simp only [List.setIfInBounds_toArray, List.set_cons_zero, List.set_cons_succ] at q27)
       apply Grow.have_known (W := W)
       · rw [hW.out]; apply Known.at q28; (repeat (with_reducible first | exact q28 | apply Known.same | apply Known.other | apply Known.alloc | apply Known.drewN)) <;> omega
       clear q28
       intro q28
       (try simp only [List.setIfInBounds_toArray, List.set_cons_zero, List.set_cons_succ] at q28)
       replace HZ : w.heap.size ≤ W.heap.size := Below.size HG.out
       clear hW
       refine (within_at _ _ _ _ GD.out.b1 (H1.trans (congrArg (fun t => fsub t _) (congrArg V3.x GU.out))) MO.out _).mono ?_
       rintro e w1 hp
       obtain ⟨v, rfl, hp, hB⟩ := hp
       subst hp
       skip
       replace q9 := q9.below hB
       replace q16 := q16.below hB
       replace q27 := q27.below hB
       replace q28 := q28.below hB
       replace HG : Hid (Below w.heap.size w w1) := Lib.hid (Grow.grow_trans HG.out hB)
       replace HZ : w.heap.size ≤ w1.heap.size := Below.size HG.out
       clear hB
       have c9 := q9.cell; have f9 := q9.frozen; have l9 := q9.lt
       have c16 := q16.cell; have f16 := q16.frozen; have l16 := q16.lt
       have c27 := q27.cell; have f27 := q27.frozen; have l27 := q27.lt
       have c28 := q28.cell; have f28 := q28.frozen; have l28 := q28.lt
       have s26 := trivial
       clear H1)
    | (clear s26
       go_at_call 43
       refine Grow.seal_calls ?_
       intro W hW
       have HG2 : Hid (Below w.heap.size w W) := Lib.hid (by rw [hW.out]; (repeat (with_reducible first | exact Grow.grow_refl _ | refine Grow.grow_setCell ?_ ?_ _ | refine Grow.grow_alloc ?_ _ | refine Grow.grow_drewN ?_ _ | refine Grow.grow_over ?_ _ | refine Grow.grow_via (by assumption) ?_)) <;> omega)
       clear HG
       have HG := HG2
       clear HG2
       clear c9 f9 c16 f16 c27 f27 c28 f28
       apply Grow.have_known (W := W)
       · rw [hW.out]; apply Known.at q9; (repeat (with_reducible first | exact q9 | apply Known.same | apply Known.other | apply Known.alloc | apply Known.drewN)) <;> omega
       clear q9
       intro q9
       (try simp only [List.setIfInBounds_toArray, List.set_cons_zero, List.set_cons_succ] at q9)
       apply Grow.have_known (W := W)
       · rw [hW.out]; apply Known.at q16; (repeat (with_reducible first | exact q16 | apply Known.same | apply Known.other | apply Known.alloc | apply Known.drewN)) <;> omega
       clear q16
       intro q16
       (try simp only [List.setIfInBounds_toArray, List.set_cons_zero, List.set_cons_succ] at q16)
       apply Grow.have_known (W := W)
       · rw [hW.out]; apply Known.at q27; (repeat (with_reducible first | exact q27 | apply Known.same | apply Known.other | apply Known.alloc | apply Known.drewN)) <;> omega
       clear q27
       intro q27
       (try simp only [List.setIfInBounds_toArray, List.set_cons_zero, List.set_cons_succ] at q27)
       apply Grow.have_known (W := W)
       · rw [hW.out]; apply Known.at q28; (repeat (with_reducible first | exact q28 | apply Known.same | apply Known.other | apply Known.alloc | apply Known.drewN)) <;> omega
       clear q28
       intro q28
       (try simp only [List.setIfInBounds_toArray, List.set_cons_zero, List.set_cons_succ] at q28)
       replace HZ : w.heap.size ≤ W.heap.size := Below.size HG.out
       clear hW
       refine (within_at _ _ _ _ GD.out.b2 (H1.trans (congrArg (fun t => fsub t _) (congrArg V3.y GU.out))) MO.out _).mono ?_
       rintro e w1 hp
       obtain ⟨v, rfl, hp, hB⟩ := hp
       subst hp
       skip
       replace q9 := q9.below hB
       replace q16 := q16.below hB
       replace q27 := q27.below hB
       replace q28 := q28.below hB
       replace HG : Hid (Below w.heap.size w w1) := Lib.hid (Grow.grow_trans HG.out hB)
       replace HZ : w.heap.size ≤ w1.heap.size := Below.size HG.out
       clear hB
       have c9 := q9.cell; have f9 := q9.frozen; have l9 := q9.lt
       have c16 := q16.cell; have f16 := q16.frozen; have l16 := q16.lt
       have c27 := q27.cell; have f27 := q27.frozen; have l27 := q27.lt
       have c28 := q28.cell; have f28 := q28.frozen; have l28 := q28.lt
       have s27 := trivial
       clear H1)
    | (clear s27
       go_at_call 43
       refine Grow.seal_calls ?_
       intro W hW
       have HG2 : Hid (Below w.heap.size w W) := Lib.hid (by rw [hW.out]; (repeat (with_reducible first | exact Grow.grow_refl _ | refine Grow.grow_setCell ?_ ?_ _ | refine Grow.grow_alloc ?_ _ | refine Grow.grow_drewN ?_ _ | refine Grow.grow_over ?_ _ | refine Grow.grow_via (by assumption) ?_)) <;> omega)
       clear HG
       have HG := HG2
       clear HG2
       clear c9 f9 c16 f16 c27 f27 c28 f28
       apply Grow.have_known (W := W)
       · rw [hW.out]; apply Known.at q9; (repeat (with_reducible first | exact q9 | apply Known.same | apply Known.other | apply Known.alloc | apply Known.drewN)) <;> omega
       clear q9
       intro q9
       (try simp only [List.setIfInBounds_toArray, List.set_cons_zero, List.set_cons_succ] at q9)
       apply Grow.have_known (W := W)
       · rw [hW.out]; apply Known.at q16; (repeat (with_reducible first | exact q16 | apply Known.same | apply Known.other | apply Known.alloc | apply Known.drewN)) <;> omega
       clear q16
       intro q16
       (try simp only [List.setIfInBounds_toArray, List.set_cons_zero, List.set_cons_succ] at q16)
       apply Grow.have_known (W := W)
       · rw [hW.out]; apply Known.at q27; (repeat (with_reducible first | exact q27 | apply Known.same | apply Known.other | apply Known.alloc | apply Known.drewN)) <;> omega
       clear q27
       intro q27
       (try simp only [List.setIfInBounds_toArray, List.set_cons_zero, List.set_cons_succ] at q27)
       apply Grow.have_known (W := W)
       · rw [hW.out]; apply Known.at q28; (repeat (with_reducible first | exact q28 | apply Known.same | apply Known.other | apply Known.alloc | apply Known.drewN)) <;> omega
       clear q28
       intro q28
       (try simp only [List.setIfInBounds_toArray, List.set_cons_zero, List.set_cons_succ] at q28)
       replace HZ : w.heap.size ≤ W.heap.size := Below.size HG.out
       clear hW
       refine (within_at _ _ _ _ GD.out.b3 (H1.trans (congrArg (fun t => fsub t _) (congrArg V3.z GU.out))) MO.out _).mono ?_
       rintro e w1 hp
       obtain ⟨v, rfl, hp, hB⟩ := hp
       subst hp
       skip
       replace q9 := q9.below hB
       replace q16 := q16.below hB
       replace q27 := q27.below hB
       replace q28 := q28.below hB
       replace HG : Hid (Below w.heap.size w w1) := Lib.hid (Grow.grow_trans HG.out hB)
       replace HZ : w.heap.size ≤ w1.heap.size := Below.size HG.out
       clear hB
       have c9 := q9.cell; have f9 := q9.frozen; have l9 := q9.lt
       have c16 := q16.cell; have f16 := q16.frozen; have l16 := q16.lt
       have c27 := q27.cell; have f27 := q27.frozen; have l27 := q27.lt
       have c28 := q28.cell; have f28 := q28.frozen; have l28 := q28.lt
       have s28 := trivial
       clear H1))
  all_goals
    go_ret
    refine Post.mk (T := fun v => v = _) (by first | rfl | (simp; done) | (simp_all; done)) ?_
    (repeat (with_reducible first
      | exact Grow.grow_refl _
      | refine Grow.grow_setCell ?_ ?_ _
      | refine Grow.grow_alloc ?_ _
      | refine Grow.grow_drewN ?_ _
      | refine Grow.grow_over ?_ _
      | refine Grow.grow_via (by assumption) ?_)) <;> omega

set_option maxRecDepth 100000 in
set_option maxHeartbeats 16000000 in
theorem spinGood_about (a1 a2 a3 : Nat) (half : Int) (qa qb qc qd v1 v2 v3 : Nat) (R : Q4) (hX : abt ⟨fl a1, fl a2, fl a3⟩ half = (R, true)) (H : (Fe.mildF (fl a1) = true ∧ Fe.mildF (fl a2) = true ∧ Fe.mildF (fl a3) = true) → (Fe.mildF (fl v1) = true ∧ Fe.mildF (fl v2) = true ∧ Fe.mildF (fl v3) = true) → (Fe.mildF (fl qb) = true ∧ Fe.mildF (fl qc) = true ∧ Fe.mildF (fl qd) = true) → Fe.mildF (fl qa) = true → Goods R ⟨fl v1, fl v2, fl v3⟩) (w : World) :
    Calls Try.prog 8 #[.agg #[.float .f64 a1, .float .f64 a2, .float .f64 a3], .int .i64 half, .agg #[.float .f64 qa, .float .f64 qb, .float .f64 qc, .float .f64 qd], .bool true, .agg #[.float .f64 v1, .float .f64 v2, .float .f64 v3]] w (Post (fun v => v = .bool true) w) := by
  have HX := Lib.hid hX
  clear hX
  have HH := Lib.hid H
  clear H
  have s0 := trivial
  go_enter Try.func8, Try.ntmps8
  go_wp2_with (first
    | (refine wpList_arith rfl rfl (by rfl) rfl rfl ?_; intro b1 n1 H1)
    | (clear s0
       go_at_call 12
       refine Grow.seal_calls ?_
       intro W hW
       have HG : Hid (Below w.heap.size w W) := Lib.hid (by rw [hW.out]; (repeat (with_reducible first | exact Grow.grow_refl _ | refine Grow.grow_setCell ?_ ?_ _ | refine Grow.grow_alloc ?_ _ | refine Grow.grow_drewN ?_ _ | refine Grow.grow_over ?_ _ | refine Grow.grow_via (by assumption) ?_)) <;> omega)
       have HZ : w.heap.size ≤ W.heap.size := Below.size HG.out
       apply Grow.have_known (W := W)
       · rw [hW.out]; exact ((Known.new _ _ _).alloc _).alloc _
       intro q5
       (try simp only [World.size_alloc] at q5)
       apply Grow.have_known (W := W)
       · rw [hW.out]; exact (Known.new _ _ _).alloc _
       intro q7
       (try simp only [World.size_alloc] at q7)
       apply Grow.have_known (W := W)
       · rw [hW.out]; exact Known.new _ _ _
       intro q9
       (try simp only [World.size_alloc] at q9)
       clear hW
       refine (turns_walk _).mono ?_
       rintro e w1 hp
       obtain ⟨v, rfl, hp, hB⟩ := hp
       subst hp
       skip
       replace q5 := q5.below hB
       replace q7 := q7.below hB
       replace q9 := q9.below hB
       replace HG : Hid (Below w.heap.size w w1) := Lib.hid (Grow.grow_trans HG.out hB)
       replace HZ : w.heap.size ≤ w1.heap.size := Below.size HG.out
       clear hB
       have c5 := q5.cell; have f5 := q5.frozen; have l5 := q5.lt
       have c7 := q7.cell; have f7 := q7.frozen; have l7 := q7.lt
       have c9 := q9.cell; have f9 := q9.frozen; have l9 := q9.lt
       have s1 := trivial)
    | (clear s1
       go_at_call 40
       refine Grow.seal_calls ?_
       intro W hW
       have HG2 : Hid (Below w.heap.size w W) := Lib.hid (by rw [hW.out]; (repeat (with_reducible first | exact Grow.grow_refl _ | refine Grow.grow_setCell ?_ ?_ _ | refine Grow.grow_alloc ?_ _ | refine Grow.grow_drewN ?_ _ | refine Grow.grow_over ?_ _ | refine Grow.grow_via (by assumption) ?_)) <;> omega)
       clear HG
       have HG := HG2
       clear HG2
       clear c5 f5 c7 f7 c9 f9
       apply Grow.have_known (W := W)
       · rw [hW.out]; apply Known.at q5; (repeat (with_reducible first | exact q5 | apply Known.same | apply Known.other | apply Known.alloc | apply Known.drewN)) <;> omega
       clear q5
       intro q5
       (try simp only [List.setIfInBounds_toArray, List.set_cons_zero, List.set_cons_succ] at q5)
       apply Grow.have_known (W := W)
       · rw [hW.out]; apply Known.at q7; (repeat (with_reducible first | exact q7 | apply Known.same | apply Known.other | apply Known.alloc | apply Known.drewN)) <;> omega
       clear q7
       intro q7
       (try simp only [List.setIfInBounds_toArray, List.set_cons_zero, List.set_cons_succ] at q7)
       apply Grow.have_known (W := W)
       · rw [hW.out]; apply Known.at q9; (repeat (with_reducible first | exact q9 | apply Known.same | apply Known.other | apply Known.alloc | apply Known.drewN)) <;> omega
       clear q9
       intro q9
       (try simp only [List.setIfInBounds_toArray, List.set_cons_zero, List.set_cons_succ] at q9)
       replace HZ : w.heap.size ≤ W.heap.size := Below.size HG.out
       clear hW
       refine (mildVec_walk _ _ _ _).mono ?_
       rintro e w1 hp
       obtain ⟨v, rfl, hp, hB⟩ := hp
       obtain ⟨r1, rfl, m1⟩ := hp
       have M1 := Lib.hid m1; clear m1
       replace q5 := q5.below hB
       replace q7 := q7.below hB
       replace q9 := q9.below hB
       replace HG : Hid (Below w.heap.size w w1) := Lib.hid (Grow.grow_trans HG.out hB)
       replace HZ : w.heap.size ≤ w1.heap.size := Below.size HG.out
       clear hB
       have c5 := q5.cell; have f5 := q5.frozen; have l5 := q5.lt
       have c7 := q7.cell; have f7 := q7.frozen; have l7 := q7.lt
       have c9 := q9.cell; have f9 := q9.frozen; have l9 := q9.lt
       have s2 := trivial)
    | (clear s2
       go_at_call 40
       refine Grow.seal_calls ?_
       intro W hW
       have HG2 : Hid (Below w.heap.size w W) := Lib.hid (by rw [hW.out]; (repeat (with_reducible first | exact Grow.grow_refl _ | refine Grow.grow_setCell ?_ ?_ _ | refine Grow.grow_alloc ?_ _ | refine Grow.grow_drewN ?_ _ | refine Grow.grow_over ?_ _ | refine Grow.grow_via (by assumption) ?_)) <;> omega)
       clear HG
       have HG := HG2
       clear HG2
       clear c5 f5 c7 f7 c9 f9
       apply Grow.have_known (W := W)
       · rw [hW.out]; apply Known.at q5; (repeat (with_reducible first | exact q5 | apply Known.same | apply Known.other | apply Known.alloc | apply Known.drewN)) <;> omega
       clear q5
       intro q5
       (try simp only [List.setIfInBounds_toArray, List.set_cons_zero, List.set_cons_succ] at q5)
       apply Grow.have_known (W := W)
       · rw [hW.out]; apply Known.at q7; (repeat (with_reducible first | exact q7 | apply Known.same | apply Known.other | apply Known.alloc | apply Known.drewN)) <;> omega
       clear q7
       intro q7
       (try simp only [List.setIfInBounds_toArray, List.set_cons_zero, List.set_cons_succ] at q7)
       apply Grow.have_known (W := W)
       · rw [hW.out]; apply Known.at q9; (repeat (with_reducible first | exact q9 | apply Known.same | apply Known.other | apply Known.alloc | apply Known.drewN)) <;> omega
       clear q9
       intro q9
       (try simp only [List.setIfInBounds_toArray, List.set_cons_zero, List.set_cons_succ] at q9)
       replace HZ : w.heap.size ≤ W.heap.size := Below.size HG.out
       clear hW
       refine (mildVec_walk _ _ _ _).mono ?_
       rintro e w1 hp
       obtain ⟨v, rfl, hp, hB⟩ := hp
       obtain ⟨r2, rfl, m2⟩ := hp
       have M2 := Lib.hid m2; clear m2
       replace q5 := q5.below hB
       replace q7 := q7.below hB
       replace q9 := q9.below hB
       replace HG : Hid (Below w.heap.size w w1) := Lib.hid (Grow.grow_trans HG.out hB)
       replace HZ : w.heap.size ≤ w1.heap.size := Below.size HG.out
       clear hB
       have c5 := q5.cell; have f5 := q5.frozen; have l5 := q5.lt
       have c7 := q7.cell; have f7 := q7.frozen; have l7 := q7.lt
       have c9 := q9.cell; have f9 := q9.frozen; have l9 := q9.lt
       have s3 := trivial)
    | (clear s3
       go_at_call 40
       refine Grow.seal_calls ?_
       intro W hW
       have HG2 : Hid (Below w.heap.size w W) := Lib.hid (by rw [hW.out]; (repeat (with_reducible first | exact Grow.grow_refl _ | refine Grow.grow_setCell ?_ ?_ _ | refine Grow.grow_alloc ?_ _ | refine Grow.grow_drewN ?_ _ | refine Grow.grow_over ?_ _ | refine Grow.grow_via (by assumption) ?_)) <;> omega)
       clear HG
       have HG := HG2
       clear HG2
       clear c5 f5 c7 f7 c9 f9
       apply Grow.have_known (W := W)
       · rw [hW.out]; apply Known.at q5; (repeat (with_reducible first | exact q5 | apply Known.same | apply Known.other | apply Known.alloc | apply Known.drewN)) <;> omega
       clear q5
       intro q5
       (try simp only [List.setIfInBounds_toArray, List.set_cons_zero, List.set_cons_succ] at q5)
       apply Grow.have_known (W := W)
       · rw [hW.out]; apply Known.at q7; (repeat (with_reducible first | exact q7 | apply Known.same | apply Known.other | apply Known.alloc | apply Known.drewN)) <;> omega
       clear q7
       intro q7
       (try simp only [List.setIfInBounds_toArray, List.set_cons_zero, List.set_cons_succ] at q7)
       apply Grow.have_known (W := W)
       · rw [hW.out]; apply Known.at q9; (repeat (with_reducible first | exact q9 | apply Known.same | apply Known.other | apply Known.alloc | apply Known.drewN)) <;> omega
       clear q9
       intro q9
       (try simp only [List.setIfInBounds_toArray, List.set_cons_zero, List.set_cons_succ] at q9)
       replace HZ : w.heap.size ≤ W.heap.size := Below.size HG.out
       clear hW
       refine (mildVec_walk _ _ _ _).mono ?_
       rintro e w1 hp
       obtain ⟨v, rfl, hp, hB⟩ := hp
       obtain ⟨r3, rfl, m3⟩ := hp
       have M3 := Lib.hid m3; clear m3
       replace q5 := q5.below hB
       replace q7 := q7.below hB
       replace q9 := q9.below hB
       replace HG : Hid (Below w.heap.size w w1) := Lib.hid (Grow.grow_trans HG.out hB)
       replace HZ : w.heap.size ≤ w1.heap.size := Below.size HG.out
       clear hB
       have c5 := q5.cell; have f5 := q5.frozen; have l5 := q5.lt
       have c7 := q7.cell; have f7 := q7.frozen; have l7 := q7.lt
       have c9 := q9.cell; have f9 := q9.frozen; have l9 := q9.lt
       have s4 := trivial)
    | (clear s4
       go_at_call 41
       refine Grow.seal_calls ?_
       intro W hW
       have HG2 : Hid (Below w.heap.size w W) := Lib.hid (by rw [hW.out]; (repeat (with_reducible first | exact Grow.grow_refl _ | refine Grow.grow_setCell ?_ ?_ _ | refine Grow.grow_alloc ?_ _ | refine Grow.grow_drewN ?_ _ | refine Grow.grow_over ?_ _ | refine Grow.grow_via (by assumption) ?_)) <;> omega)
       clear HG
       have HG := HG2
       clear HG2
       clear c5 f5 c7 f7 c9 f9
       apply Grow.have_known (W := W)
       · rw [hW.out]; apply Known.at q5; (repeat (with_reducible first | exact q5 | apply Known.same | apply Known.other | apply Known.alloc | apply Known.drewN)) <;> omega
       clear q5
       intro q5
       (try simp only [List.setIfInBounds_toArray, List.set_cons_zero, List.set_cons_succ] at q5)
       apply Grow.have_known (W := W)
       · rw [hW.out]; apply Known.at q7; (repeat (with_reducible first | exact q7 | apply Known.same | apply Known.other | apply Known.alloc | apply Known.drewN)) <;> omega
       clear q7
       intro q7
       (try simp only [List.setIfInBounds_toArray, List.set_cons_zero, List.set_cons_succ] at q7)
       apply Grow.have_known (W := W)
       · rw [hW.out]; apply Known.at q9; (repeat (with_reducible first | exact q9 | apply Known.same | apply Known.other | apply Known.alloc | apply Known.drewN)) <;> omega
       clear q9
       intro q9
       (try simp only [List.setIfInBounds_toArray, List.set_cons_zero, List.set_cons_succ] at q9)
       replace HZ : w.heap.size ≤ W.heap.size := Below.size HG.out
       clear hW
       refine (mild_walk _ _).mono ?_
       rintro e w1 hp
       obtain ⟨v, rfl, hp, hB⟩ := hp
       obtain ⟨r4, rfl, m4⟩ := hp
       have M4 := Lib.hid m4; clear m4
       replace q5 := q5.below hB
       replace q7 := q7.below hB
       replace q9 := q9.below hB
       replace HG : Hid (Below w.heap.size w w1) := Lib.hid (Grow.grow_trans HG.out hB)
       replace HZ : w.heap.size ≤ w1.heap.size := Below.size HG.out
       clear hB
       have c5 := q5.cell; have f5 := q5.frozen; have l5 := q5.lt
       have c7 := q7.cell; have f7 := q7.frozen; have l7 := q7.lt
       have c9 := q9.cell; have f9 := q9.frozen; have l9 := q9.lt
       have s5 := trivial)
    | (clear s5
       go_at_call 14
       refine Grow.seal_calls ?_
       intro W hW
       have HG2 : Hid (Below w.heap.size w W) := Lib.hid (by rw [hW.out]; (repeat (with_reducible first | exact Grow.grow_refl _ | refine Grow.grow_setCell ?_ ?_ _ | refine Grow.grow_alloc ?_ _ | refine Grow.grow_drewN ?_ _ | refine Grow.grow_over ?_ _ | refine Grow.grow_via (by assumption) ?_)) <;> omega)
       clear HG
       have HG := HG2
       clear HG2
       clear c5 f5 c7 f7 c9 f9
       apply Grow.have_known (W := W)
       · rw [hW.out]; apply Known.at q5; (repeat (with_reducible first | exact q5 | apply Known.same | apply Known.other | apply Known.alloc | apply Known.drewN)) <;> omega
       clear q5
       intro q5
       (try simp only [List.setIfInBounds_toArray, List.set_cons_zero, List.set_cons_succ] at q5)
       apply Grow.have_known (W := W)
       · rw [hW.out]; apply Known.at q7; (repeat (with_reducible first | exact q7 | apply Known.same | apply Known.other | apply Known.alloc | apply Known.drewN)) <;> omega
       clear q7
       intro q7
       (try simp only [List.setIfInBounds_toArray, List.set_cons_zero, List.set_cons_succ] at q7)
       apply Grow.have_known (W := W)
       · rw [hW.out]; apply Known.at q9; (repeat (with_reducible first | exact q9 | apply Known.same | apply Known.other | apply Known.alloc | apply Known.drewN)) <;> omega
       clear q9
       intro q9
       (try simp only [List.setIfInBounds_toArray, List.set_cons_zero, List.set_cons_succ] at q9)
       replace HZ : w.heap.size ≤ W.heap.size := Below.size HG.out
       clear hW
       refine (q_walk _ _ _ _ _).mono ?_
       rintro e w1 hp
       obtain ⟨v, rfl, hp, hB⟩ := hp
       subst hp
       skip
       replace q5 := q5.below hB
       replace q7 := q7.below hB
       replace q9 := q9.below hB
       replace HG : Hid (Below w.heap.size w w1) := Lib.hid (Grow.grow_trans HG.out hB)
       replace HZ : w.heap.size ≤ w1.heap.size := Below.size HG.out
       clear hB
       have c5 := q5.cell; have f5 := q5.frozen; have l5 := q5.lt
       have c7 := q7.cell; have f7 := q7.frozen; have l7 := q7.lt
       have c9 := q9.cell; have f9 := q9.frozen; have l9 := q9.lt
       have s6 := trivial
       have GD := Lib.hid (HH.out (M1.out (by simp_all)) (M2.out (by simp_all)) (M3.out (by simp_all)) (M4.out (by simp_all))); clear HH M1 M2 M3 M4)
    | (clear s6
       go_at_call 21
       refine Grow.seal_calls ?_
       intro W hW
       have HG2 : Hid (Below w.heap.size w W) := Lib.hid (by rw [hW.out]; (repeat (with_reducible first | exact Grow.grow_refl _ | refine Grow.grow_setCell ?_ ?_ _ | refine Grow.grow_alloc ?_ _ | refine Grow.grow_drewN ?_ _ | refine Grow.grow_over ?_ _ | refine Grow.grow_via (by assumption) ?_)) <;> omega)
       clear HG
       have HG := HG2
       clear HG2
       clear c5 f5 c7 f7 c9 f9
       apply Grow.have_known (W := W)
       · rw [hW.out]; apply Known.at q5; (repeat (with_reducible first | exact q5 | apply Known.same | apply Known.other | apply Known.alloc | apply Known.drewN)) <;> omega
       clear q5
       intro q5
       (try simp only [List.setIfInBounds_toArray, List.set_cons_zero, List.set_cons_succ] at q5)
       apply Grow.have_known (W := W)
       · rw [hW.out]; apply Known.at q7; (repeat (with_reducible first | exact q7 | apply Known.same | apply Known.other | apply Known.alloc | apply Known.drewN)) <;> omega
       clear q7
       intro q7
       (try simp only [List.setIfInBounds_toArray, List.set_cons_zero, List.set_cons_succ] at q7)
       apply Grow.have_known (W := W)
       · rw [hW.out]; apply Known.at q9; (repeat (with_reducible first | exact q9 | apply Known.same | apply Known.other | apply Known.alloc | apply Known.drewN)) <;> omega
       clear q9
       intro q9
       (try simp only [List.setIfInBounds_toArray, List.set_cons_zero, List.set_cons_succ] at q9)
       replace HZ : w.heap.size ≤ W.heap.size := Below.size HG.out
       clear hW
       refine (unit_walk _ _ _ _ _).mono ?_
       rintro e w1 hp
       obtain ⟨v, rfl, hp, hB⟩ := hp
       obtain ⟨q, ⟨b1, b2, b3, b4, rfl, g1, g2, g3, g4⟩, hv⟩ := hp
       subst hv; clear g1 g2 g3 g4; generalize (qunit _).2 = hb0
       replace q5 := q5.below hB
       replace q7 := q7.below hB
       replace q9 := q9.below hB
       replace HG : Hid (Below w.heap.size w w1) := Lib.hid (Grow.grow_trans HG.out hB)
       replace HZ : w.heap.size ≤ w1.heap.size := Below.size HG.out
       clear hB
       have c5 := q5.cell; have f5 := q5.frozen; have l5 := q5.lt
       have c7 := q7.cell; have f7 := q7.frozen; have l7 := q7.lt
       have c9 := q9.cell; have f9 := q9.frozen; have l9 := q9.lt
       have s7 := trivial)
    | (clear s7
       go_at_call 28
       refine Grow.seal_calls ?_
       intro W hW
       have HG2 : Hid (Below w.heap.size w W) := Lib.hid (by rw [hW.out]; (repeat (with_reducible first | exact Grow.grow_refl _ | refine Grow.grow_setCell ?_ ?_ _ | refine Grow.grow_alloc ?_ _ | refine Grow.grow_drewN ?_ _ | refine Grow.grow_over ?_ _ | refine Grow.grow_via (by assumption) ?_)) <;> omega)
       clear HG
       have HG := HG2
       clear HG2
       clear c5 f5 c7 f7 c9 f9
       apply Grow.have_known (W := W)
       · rw [hW.out]; apply Known.at q5; (repeat (with_reducible first | exact q5 | apply Known.same | apply Known.other | apply Known.alloc | apply Known.drewN)) <;> omega
       clear q5
       intro q5
       (try simp only [List.setIfInBounds_toArray, List.set_cons_zero, List.set_cons_succ] at q5)
       apply Grow.have_known (W := W)
       · rw [hW.out]; apply Known.at q7; (repeat (with_reducible first | exact q7 | apply Known.same | apply Known.other | apply Known.alloc | apply Known.drewN)) <;> omega
       clear q7
       intro q7
       (try simp only [List.setIfInBounds_toArray, List.set_cons_zero, List.set_cons_succ] at q7)
       apply Grow.have_known (W := W)
       · rw [hW.out]; apply Known.at q9; (repeat (with_reducible first | exact q9 | apply Known.same | apply Known.other | apply Known.alloc | apply Known.drewN)) <;> omega
       clear q9
       intro q9
       (try simp only [List.setIfInBounds_toArray, List.set_cons_zero, List.set_cons_succ] at q9)
       apply Grow.have_known (W := W) (b := w1.heap.size)
       · rw [hW.out]; (repeat (with_reducible first | exact Known.new _ _ _ | apply Known.same | apply Known.other | apply Known.alloc | apply Known.drewN)) <;> omega
       intro q16
       (try simp only [World.size_alloc, World.size_setCell, World.heap_drewN] at q16)
       (try simp only [List.setIfInBounds_toArray, List.set_cons_zero, List.set_cons_succ] at q16)
       have m16 := q16.ge (n := w.heap.size) (by omega)
       replace HZ : w.heap.size ≤ W.heap.size := Below.size HG.out
       clear hW
       refine (about_walk _ _ _ _ _).mono ?_
       rintro e w1 hp
       obtain ⟨v, rfl, hp, hB⟩ := hp
       obtain ⟨q, ⟨b1, b2, b3, b4, rfl, g1, g2, g3, g4⟩, hv⟩ := hp
       rw [HX.out] at hv g1 g2 g3 g4; subst hv; have GQ := Lib.hid (q4_eq' (X := R) g1 g2 g3 g4); clear g1 g2 g3 g4
       replace q5 := q5.below hB
       replace q7 := q7.below hB
       replace q9 := q9.below hB
       replace q16 := q16.below hB
       replace HG : Hid (Below w.heap.size w w1) := Lib.hid (Grow.grow_trans HG.out hB)
       replace HZ : w.heap.size ≤ w1.heap.size := Below.size HG.out
       clear hB
       have c5 := q5.cell; have f5 := q5.frozen; have l5 := q5.lt
       have c7 := q7.cell; have f7 := q7.frozen; have l7 := q7.lt
       have c9 := q9.cell; have f9 := q9.frozen; have l9 := q9.lt
       have c16 := q16.cell; have f16 := q16.frozen; have l16 := q16.lt
       have s8 := trivial)
    | (clear s8
       go_at_call 30
       refine Grow.seal_calls ?_
       intro W hW
       have HG2 : Hid (Below w.heap.size w W) := Lib.hid (by rw [hW.out]; (repeat (with_reducible first | exact Grow.grow_refl _ | refine Grow.grow_setCell ?_ ?_ _ | refine Grow.grow_alloc ?_ _ | refine Grow.grow_drewN ?_ _ | refine Grow.grow_over ?_ _ | refine Grow.grow_via (by assumption) ?_)) <;> omega)
       clear HG
       have HG := HG2
       clear HG2
       clear c5 f5 c7 f7 c9 f9 c16 f16
       apply Grow.have_known (W := W)
       · rw [hW.out]; apply Known.at q5; (repeat (with_reducible first | exact q5 | apply Known.same | apply Known.other | apply Known.alloc | apply Known.drewN)) <;> omega
       clear q5
       intro q5
       (try simp only [List.setIfInBounds_toArray, List.set_cons_zero, List.set_cons_succ] at q5)
       apply Grow.have_known (W := W)
       · rw [hW.out]; apply Known.at q7; (repeat (with_reducible first | exact q7 | apply Known.same | apply Known.other | apply Known.alloc | apply Known.drewN)) <;> omega
       clear q7
       intro q7
       (try simp only [List.setIfInBounds_toArray, List.set_cons_zero, List.set_cons_succ] at q7)
       apply Grow.have_known (W := W)
       · rw [hW.out]; apply Known.at q9; (repeat (with_reducible first | exact q9 | apply Known.same | apply Known.other | apply Known.alloc | apply Known.drewN)) <;> omega
       clear q9
       intro q9
       (try simp only [List.setIfInBounds_toArray, List.set_cons_zero, List.set_cons_succ] at q9)
       apply Grow.have_known (W := W)
       · rw [hW.out]; apply Known.at q16; (repeat (with_reducible first | exact q16 | apply Known.same | apply Known.other | apply Known.alloc | apply Known.drewN)) <;> omega
       clear q16
       intro q16
       (try simp only [List.setIfInBounds_toArray, List.set_cons_zero, List.set_cons_succ] at q16)
       replace HZ : w.heap.size ≤ W.heap.size := Below.size HG.out
       clear hW
       refine (matrix_walk _ _ _ _ _).mono ?_
       rintro e w1 hp
       obtain ⟨v, rfl, hp, hB⟩ := hp
       obtain ⟨p1, p2, p3, p4, p5, p6, p7, p8, p9, rfl, g1, g2, g3, g4, g5, g6, g7, g8, g9⟩ := hp
       have GP := Lib.hid ((m3_eq' g1 g2 g3 g4 g5 g6 g7 g8 g9).trans (congrArg mat GQ.out)); clear g1 g2 g3 g4 g5 g6 g7 g8 g9
       replace q5 := q5.below hB
       replace q7 := q7.below hB
       replace q9 := q9.below hB
       replace q16 := q16.below hB
       replace HG : Hid (Below w.heap.size w w1) := Lib.hid (Grow.grow_trans HG.out hB)
       replace HZ : w.heap.size ≤ w1.heap.size := Below.size HG.out
       clear hB
       have c5 := q5.cell; have f5 := q5.frozen; have l5 := q5.lt
       have c7 := q7.cell; have f7 := q7.frozen; have l7 := q7.lt
       have c9 := q9.cell; have f9 := q9.frozen; have l9 := q9.lt
       have c16 := q16.cell; have f16 := q16.frozen; have l16 := q16.lt
       have s9 := trivial
       clear q5 c5 f5 l5 q7 c7 f7 l7)
    | (clear s9
       go_at_call 35
       refine Grow.seal_calls ?_
       intro W hW
       have HG2 : Hid (Below w.heap.size w W) := Lib.hid (by rw [hW.out]; (repeat (with_reducible first | exact Grow.grow_refl _ | refine Grow.grow_setCell ?_ ?_ _ | refine Grow.grow_alloc ?_ _ | refine Grow.grow_drewN ?_ _ | refine Grow.grow_over ?_ _ | refine Grow.grow_via (by assumption) ?_)) <;> omega)
       clear HG
       have HG := HG2
       clear HG2
       clear c9 f9 c16 f16
       apply Grow.have_known (W := W)
       · rw [hW.out]; apply Known.at q9; (repeat (with_reducible first | exact q9 | apply Known.same | apply Known.other | apply Known.alloc | apply Known.drewN)) <;> omega
       clear q9
       intro q9
       (try simp only [List.setIfInBounds_toArray, List.set_cons_zero, List.set_cons_succ] at q9)
       apply Grow.have_known (W := W)
       · rw [hW.out]; apply Known.at q16; (repeat (with_reducible first | exact q16 | apply Known.same | apply Known.other | apply Known.alloc | apply Known.drewN)) <;> omega
       clear q16
       intro q16
       (try simp only [List.setIfInBounds_toArray, List.set_cons_zero, List.set_cons_succ] at q16)
       replace HZ : w.heap.size ≤ W.heap.size := Below.size HG.out
       clear hW
       refine (lmatrix_walk _ _ _ _ _ _ _ _ _ _).mono ?_
       rintro e w1 hp
       obtain ⟨v, rfl, hp, hB⟩ := hp
       subst hp
       skip
       replace q9 := q9.below hB
       replace q16 := q16.below hB
       replace HG : Hid (Below w.heap.size w w1) := Lib.hid (Grow.grow_trans HG.out hB)
       replace HZ : w.heap.size ≤ w1.heap.size := Below.size HG.out
       clear hB
       have c9 := q9.cell; have f9 := q9.frozen; have l9 := q9.lt
       have c16 := q16.cell; have f16 := q16.frozen; have l16 := q16.lt
       have s10 := trivial)
    | (clear s10
       go_at_call 42
       refine Grow.seal_calls ?_
       intro W hW
       have HG2 : Hid (Below w.heap.size w W) := Lib.hid (by rw [hW.out]; (repeat (with_reducible first | exact Grow.grow_refl _ | refine Grow.grow_setCell ?_ ?_ _ | refine Grow.grow_alloc ?_ _ | refine Grow.grow_drewN ?_ _ | refine Grow.grow_over ?_ _ | refine Grow.grow_via (by assumption) ?_)) <;> omega)
       clear HG
       have HG := HG2
       clear HG2
       clear c9 f9 c16 f16
       apply Grow.have_known (W := W)
       · rw [hW.out]; apply Known.at q9; (repeat (with_reducible first | exact q9 | apply Known.same | apply Known.other | apply Known.alloc | apply Known.drewN)) <;> omega
       clear q9
       intro q9
       (try simp only [List.setIfInBounds_toArray, List.set_cons_zero, List.set_cons_succ] at q9)
       apply Grow.have_known (W := W)
       · rw [hW.out]; apply Known.at q16; (repeat (with_reducible first | exact q16 | apply Known.same | apply Known.other | apply Known.alloc | apply Known.drewN)) <;> omega
       clear q16
       intro q16
       (try simp only [List.setIfInBounds_toArray, List.set_cons_zero, List.set_cons_succ] at q16)
       apply Grow.have_known (W := W) (b := w1.heap.size)
       · rw [hW.out]; (repeat (with_reducible first | exact Known.new _ _ _ | apply Known.same | apply Known.other | apply Known.alloc | apply Known.drewN)) <;> omega
       intro q18
       (try simp only [World.size_alloc, World.size_setCell, World.heap_drewN] at q18)
       (try simp only [List.setIfInBounds_toArray, List.set_cons_zero, List.set_cons_succ] at q18)
       have m18 := q18.ge (n := w.heap.size) (by omega)
       replace HZ : w.heap.size ≤ W.heap.size := Below.size HG.out
       clear hW
       refine (dotOf_walk _ _ _ _ _ _ _).mono ?_
       rintro e w1 hp
       obtain ⟨v, rfl, hp, hB⟩ := hp
       obtain ⟨b0, rfl, hb⟩ := hp
       have D1 := Lib.hid (hb.trans (congrArg (fun m => dt m.a m.b) GP.out)); clear hb
       replace q9 := q9.below hB
       replace q16 := q16.below hB
       replace q18 := q18.below hB
       replace HG : Hid (Below w.heap.size w w1) := Lib.hid (Grow.grow_trans HG.out hB)
       replace HZ : w.heap.size ≤ w1.heap.size := Below.size HG.out
       clear hB
       have c9 := q9.cell; have f9 := q9.frozen; have l9 := q9.lt
       have c16 := q16.cell; have f16 := q16.frozen; have l16 := q16.lt
       have c18 := q18.cell; have f18 := q18.frozen; have l18 := q18.lt
       have s11 := trivial)
    | (clear s11
       go_at_call 42
       refine Grow.seal_calls ?_
       intro W hW
       have HG2 : Hid (Below w.heap.size w W) := Lib.hid (by rw [hW.out]; (repeat (with_reducible first | exact Grow.grow_refl _ | refine Grow.grow_setCell ?_ ?_ _ | refine Grow.grow_alloc ?_ _ | refine Grow.grow_drewN ?_ _ | refine Grow.grow_over ?_ _ | refine Grow.grow_via (by assumption) ?_)) <;> omega)
       clear HG
       have HG := HG2
       clear HG2
       clear c9 f9 c16 f16 c18 f18
       apply Grow.have_known (W := W)
       · rw [hW.out]; apply Known.at q9; (repeat (with_reducible first | exact q9 | apply Known.same | apply Known.other | apply Known.alloc | apply Known.drewN)) <;> omega
       clear q9
       intro q9
       (try simp only [List.setIfInBounds_toArray, List.set_cons_zero, List.set_cons_succ] at q9)
       apply Grow.have_known (W := W)
       · rw [hW.out]; apply Known.at q16; (repeat (with_reducible first | exact q16 | apply Known.same | apply Known.other | apply Known.alloc | apply Known.drewN)) <;> omega
       clear q16
       intro q16
       (try simp only [List.setIfInBounds_toArray, List.set_cons_zero, List.set_cons_succ] at q16)
       apply Grow.have_known (W := W)
       · rw [hW.out]; apply Known.at q18; (repeat (with_reducible first | exact q18 | apply Known.same | apply Known.other | apply Known.alloc | apply Known.drewN)) <;> omega
       clear q18
       intro q18
       (try simp only [List.setIfInBounds_toArray, List.set_cons_zero, List.set_cons_succ] at q18)
       replace HZ : w.heap.size ≤ W.heap.size := Below.size HG.out
       clear hW
       refine (dotOf_walk _ _ _ _ _ _ _).mono ?_
       rintro e w1 hp
       obtain ⟨v, rfl, hp, hB⟩ := hp
       obtain ⟨b1, rfl, hb⟩ := hp
       have D2 := Lib.hid (hb.trans (congrArg (fun m => dt m.b m.c) GP.out)); clear hb
       replace q9 := q9.below hB
       replace q16 := q16.below hB
       replace q18 := q18.below hB
       replace HG : Hid (Below w.heap.size w w1) := Lib.hid (Grow.grow_trans HG.out hB)
       replace HZ : w.heap.size ≤ w1.heap.size := Below.size HG.out
       clear hB
       have c9 := q9.cell; have f9 := q9.frozen; have l9 := q9.lt
       have c16 := q16.cell; have f16 := q16.frozen; have l16 := q16.lt
       have c18 := q18.cell; have f18 := q18.frozen; have l18 := q18.lt
       have s12 := trivial)
    | (clear s12
       go_at_call 42
       refine Grow.seal_calls ?_
       intro W hW
       have HG2 : Hid (Below w.heap.size w W) := Lib.hid (by rw [hW.out]; (repeat (with_reducible first | exact Grow.grow_refl _ | refine Grow.grow_setCell ?_ ?_ _ | refine Grow.grow_alloc ?_ _ | refine Grow.grow_drewN ?_ _ | refine Grow.grow_over ?_ _ | refine Grow.grow_via (by assumption) ?_)) <;> omega)
       clear HG
       have HG := HG2
       clear HG2
       clear c9 f9 c16 f16 c18 f18
       apply Grow.have_known (W := W)
       · rw [hW.out]; apply Known.at q9; (repeat (with_reducible first | exact q9 | apply Known.same | apply Known.other | apply Known.alloc | apply Known.drewN)) <;> omega
       clear q9
       intro q9
       (try simp only [List.setIfInBounds_toArray, List.set_cons_zero, List.set_cons_succ] at q9)
       apply Grow.have_known (W := W)
       · rw [hW.out]; apply Known.at q16; (repeat (with_reducible first | exact q16 | apply Known.same | apply Known.other | apply Known.alloc | apply Known.drewN)) <;> omega
       clear q16
       intro q16
       (try simp only [List.setIfInBounds_toArray, List.set_cons_zero, List.set_cons_succ] at q16)
       apply Grow.have_known (W := W)
       · rw [hW.out]; apply Known.at q18; (repeat (with_reducible first | exact q18 | apply Known.same | apply Known.other | apply Known.alloc | apply Known.drewN)) <;> omega
       clear q18
       intro q18
       (try simp only [List.setIfInBounds_toArray, List.set_cons_zero, List.set_cons_succ] at q18)
       replace HZ : w.heap.size ≤ W.heap.size := Below.size HG.out
       clear hW
       refine (dotOf_walk _ _ _ _ _ _ _).mono ?_
       rintro e w1 hp
       obtain ⟨v, rfl, hp, hB⟩ := hp
       obtain ⟨b2, rfl, hb⟩ := hp
       have D3 := Lib.hid (hb.trans (congrArg (fun m => dt m.c m.a) GP.out)); clear hb
       replace q9 := q9.below hB
       replace q16 := q16.below hB
       replace q18 := q18.below hB
       replace HG : Hid (Below w.heap.size w w1) := Lib.hid (Grow.grow_trans HG.out hB)
       replace HZ : w.heap.size ≤ w1.heap.size := Below.size HG.out
       clear hB
       have c9 := q9.cell; have f9 := q9.frozen; have l9 := q9.lt
       have c16 := q16.cell; have f16 := q16.frozen; have l16 := q16.lt
       have c18 := q18.cell; have f18 := q18.frozen; have l18 := q18.lt
       have s13 := trivial)
    | (clear s13
       go_at_call 43
       refine Grow.seal_calls ?_
       intro W hW
       have HG2 : Hid (Below w.heap.size w W) := Lib.hid (by rw [hW.out]; (repeat (with_reducible first | exact Grow.grow_refl _ | refine Grow.grow_setCell ?_ ?_ _ | refine Grow.grow_alloc ?_ _ | refine Grow.grow_drewN ?_ _ | refine Grow.grow_over ?_ _ | refine Grow.grow_via (by assumption) ?_)) <;> omega)
       clear HG
       have HG := HG2
       clear HG2
       clear c9 f9 c16 f16 c18 f18
       apply Grow.have_known (W := W)
       · rw [hW.out]; apply Known.at q9; (repeat (with_reducible first | exact q9 | apply Known.same | apply Known.other | apply Known.alloc | apply Known.drewN)) <;> omega
       clear q9
       intro q9
       (try simp only [List.setIfInBounds_toArray, List.set_cons_zero, List.set_cons_succ] at q9)
       apply Grow.have_known (W := W)
       · rw [hW.out]; apply Known.at q16; (repeat (with_reducible first | exact q16 | apply Known.same | apply Known.other | apply Known.alloc | apply Known.drewN)) <;> omega
       clear q16
       intro q16
       (try simp only [List.setIfInBounds_toArray, List.set_cons_zero, List.set_cons_succ] at q16)
       apply Grow.have_known (W := W)
       · rw [hW.out]; apply Known.at q18; (repeat (with_reducible first | exact q18 | apply Known.same | apply Known.other | apply Known.alloc | apply Known.drewN)) <;> omega
       clear q18
       intro q18
       (try simp only [List.setIfInBounds_toArray, List.set_cons_zero, List.set_cons_succ] at q18)
       replace HZ : w.heap.size ≤ W.heap.size := Below.size HG.out
       clear hW
       refine (within_at _ _ _ _ GD.out.d1 D1.out rfl _).mono ?_
       rintro e w1 hp
       obtain ⟨v, rfl, hp, hB⟩ := hp
       subst hp
       skip
       replace q9 := q9.below hB
       replace q16 := q16.below hB
       replace q18 := q18.below hB
       replace HG : Hid (Below w.heap.size w w1) := Lib.hid (Grow.grow_trans HG.out hB)
       replace HZ : w.heap.size ≤ w1.heap.size := Below.size HG.out
       clear hB
       have c9 := q9.cell; have f9 := q9.frozen; have l9 := q9.lt
       have c16 := q16.cell; have f16 := q16.frozen; have l16 := q16.lt
       have c18 := q18.cell; have f18 := q18.frozen; have l18 := q18.lt
       have s14 := trivial)
    | (clear s14
       go_at_call 43
       refine Grow.seal_calls ?_
       intro W hW
       have HG2 : Hid (Below w.heap.size w W) := Lib.hid (by rw [hW.out]; (repeat (with_reducible first | exact Grow.grow_refl _ | refine Grow.grow_setCell ?_ ?_ _ | refine Grow.grow_alloc ?_ _ | refine Grow.grow_drewN ?_ _ | refine Grow.grow_over ?_ _ | refine Grow.grow_via (by assumption) ?_)) <;> omega)
       clear HG
       have HG := HG2
       clear HG2
       clear c9 f9 c16 f16 c18 f18
       apply Grow.have_known (W := W)
       · rw [hW.out]; apply Known.at q9; (repeat (with_reducible first | exact q9 | apply Known.same | apply Known.other | apply Known.alloc | apply Known.drewN)) <;> omega
       clear q9
       intro q9
       (try simp only [List.setIfInBounds_toArray, List.set_cons_zero, List.set_cons_succ] at q9)
       apply Grow.have_known (W := W)
       · rw [hW.out]; apply Known.at q16; (repeat (with_reducible first | exact q16 | apply Known.same | apply Known.other | apply Known.alloc | apply Known.drewN)) <;> omega
       clear q16
       intro q16
       (try simp only [List.setIfInBounds_toArray, List.set_cons_zero, List.set_cons_succ] at q16)
       apply Grow.have_known (W := W)
       · rw [hW.out]; apply Known.at q18; (repeat (with_reducible first | exact q18 | apply Known.same | apply Known.other | apply Known.alloc | apply Known.drewN)) <;> omega
       clear q18
       intro q18
       (try simp only [List.setIfInBounds_toArray, List.set_cons_zero, List.set_cons_succ] at q18)
       replace HZ : w.heap.size ≤ W.heap.size := Below.size HG.out
       clear hW
       refine (within_at _ _ _ _ GD.out.d2 D2.out rfl _).mono ?_
       rintro e w1 hp
       obtain ⟨v, rfl, hp, hB⟩ := hp
       subst hp
       skip
       replace q9 := q9.below hB
       replace q16 := q16.below hB
       replace q18 := q18.below hB
       replace HG : Hid (Below w.heap.size w w1) := Lib.hid (Grow.grow_trans HG.out hB)
       replace HZ : w.heap.size ≤ w1.heap.size := Below.size HG.out
       clear hB
       have c9 := q9.cell; have f9 := q9.frozen; have l9 := q9.lt
       have c16 := q16.cell; have f16 := q16.frozen; have l16 := q16.lt
       have c18 := q18.cell; have f18 := q18.frozen; have l18 := q18.lt
       have s15 := trivial)
    | (clear s15
       go_at_call 43
       refine Grow.seal_calls ?_
       intro W hW
       have HG2 : Hid (Below w.heap.size w W) := Lib.hid (by rw [hW.out]; (repeat (with_reducible first | exact Grow.grow_refl _ | refine Grow.grow_setCell ?_ ?_ _ | refine Grow.grow_alloc ?_ _ | refine Grow.grow_drewN ?_ _ | refine Grow.grow_over ?_ _ | refine Grow.grow_via (by assumption) ?_)) <;> omega)
       clear HG
       have HG := HG2
       clear HG2
       clear c9 f9 c16 f16 c18 f18
       apply Grow.have_known (W := W)
       · rw [hW.out]; apply Known.at q9; (repeat (with_reducible first | exact q9 | apply Known.same | apply Known.other | apply Known.alloc | apply Known.drewN)) <;> omega
       clear q9
       intro q9
       (try simp only [List.setIfInBounds_toArray, List.set_cons_zero, List.set_cons_succ] at q9)
       apply Grow.have_known (W := W)
       · rw [hW.out]; apply Known.at q16; (repeat (with_reducible first | exact q16 | apply Known.same | apply Known.other | apply Known.alloc | apply Known.drewN)) <;> omega
       clear q16
       intro q16
       (try simp only [List.setIfInBounds_toArray, List.set_cons_zero, List.set_cons_succ] at q16)
       apply Grow.have_known (W := W)
       · rw [hW.out]; apply Known.at q18; (repeat (with_reducible first | exact q18 | apply Known.same | apply Known.other | apply Known.alloc | apply Known.drewN)) <;> omega
       clear q18
       intro q18
       (try simp only [List.setIfInBounds_toArray, List.set_cons_zero, List.set_cons_succ] at q18)
       replace HZ : w.heap.size ≤ W.heap.size := Below.size HG.out
       clear hW
       refine (within_at _ _ _ _ GD.out.d3 D3.out rfl _).mono ?_
       rintro e w1 hp
       obtain ⟨v, rfl, hp, hB⟩ := hp
       subst hp
       skip
       replace q9 := q9.below hB
       replace q16 := q16.below hB
       replace q18 := q18.below hB
       replace HG : Hid (Below w.heap.size w w1) := Lib.hid (Grow.grow_trans HG.out hB)
       replace HZ : w.heap.size ≤ w1.heap.size := Below.size HG.out
       clear hB
       have c9 := q9.cell; have f9 := q9.frozen; have l9 := q9.lt
       have c16 := q16.cell; have f16 := q16.frozen; have l16 := q16.lt
       have c18 := q18.cell; have f18 := q18.frozen; have l18 := q18.lt
       have s16 := trivial)
    | (clear s16
       go_at_call 44
       refine Grow.seal_calls ?_
       intro W hW
       have HG2 : Hid (Below w.heap.size w W) := Lib.hid (by rw [hW.out]; (repeat (with_reducible first | exact Grow.grow_refl _ | refine Grow.grow_setCell ?_ ?_ _ | refine Grow.grow_alloc ?_ _ | refine Grow.grow_drewN ?_ _ | refine Grow.grow_over ?_ _ | refine Grow.grow_via (by assumption) ?_)) <;> omega)
       clear HG
       have HG := HG2
       clear HG2
       clear c9 f9 c16 f16 c18 f18
       apply Grow.have_known (W := W)
       · rw [hW.out]; apply Known.at q9; (repeat (with_reducible first | exact q9 | apply Known.same | apply Known.other | apply Known.alloc | apply Known.drewN)) <;> omega
       clear q9
       intro q9
       (try simp only [List.setIfInBounds_toArray, List.set_cons_zero, List.set_cons_succ] at q9)
       apply Grow.have_known (W := W)
       · rw [hW.out]; apply Known.at q16; (repeat (with_reducible first | exact q16 | apply Known.same | apply Known.other | apply Known.alloc | apply Known.drewN)) <;> omega
       clear q16
       intro q16
       (try simp only [List.setIfInBounds_toArray, List.set_cons_zero, List.set_cons_succ] at q16)
       apply Grow.have_known (W := W)
       · rw [hW.out]; apply Known.at q18; (repeat (with_reducible first | exact q18 | apply Known.same | apply Known.other | apply Known.alloc | apply Known.drewN)) <;> omega
       clear q18
       intro q18
       (try simp only [List.setIfInBounds_toArray, List.set_cons_zero, List.set_cons_succ] at q18)
       replace HZ : w.heap.size ≤ W.heap.size := Below.size HG.out
       clear hW
       refine (lengthOf_walk _ _ _ _).mono ?_
       rintro e w1 hp
       obtain ⟨v, rfl, hp, hB⟩ := hp
       obtain ⟨e1, rfl, hb⟩ := hp
       have E1 := Lib.hid (hb.trans (congrArg (fun m => vlen m.a) GP.out)); clear hb
       replace q9 := q9.below hB
       replace q16 := q16.below hB
       replace q18 := q18.below hB
       replace HG : Hid (Below w.heap.size w w1) := Lib.hid (Grow.grow_trans HG.out hB)
       replace HZ : w.heap.size ≤ w1.heap.size := Below.size HG.out
       clear hB
       have c9 := q9.cell; have f9 := q9.frozen; have l9 := q9.lt
       have c16 := q16.cell; have f16 := q16.frozen; have l16 := q16.lt
       have c18 := q18.cell; have f18 := q18.frozen; have l18 := q18.lt
       have s17 := trivial)
    | (clear s17
       go_at_call 43
       refine Grow.seal_calls ?_
       intro W hW
       have HG2 : Hid (Below w.heap.size w W) := Lib.hid (by rw [hW.out]; (repeat (with_reducible first | exact Grow.grow_refl _ | refine Grow.grow_setCell ?_ ?_ _ | refine Grow.grow_alloc ?_ _ | refine Grow.grow_drewN ?_ _ | refine Grow.grow_over ?_ _ | refine Grow.grow_via (by assumption) ?_)) <;> omega)
       clear HG
       have HG := HG2
       clear HG2
       clear c9 f9 c16 f16 c18 f18
       apply Grow.have_known (W := W)
       · rw [hW.out]; apply Known.at q9; (repeat (with_reducible first | exact q9 | apply Known.same | apply Known.other | apply Known.alloc | apply Known.drewN)) <;> omega
       clear q9
       intro q9
       (try simp only [List.setIfInBounds_toArray, List.set_cons_zero, List.set_cons_succ] at q9)
       apply Grow.have_known (W := W)
       · rw [hW.out]; apply Known.at q16; (repeat (with_reducible first | exact q16 | apply Known.same | apply Known.other | apply Known.alloc | apply Known.drewN)) <;> omega
       clear q16
       intro q16
       (try simp only [List.setIfInBounds_toArray, List.set_cons_zero, List.set_cons_succ] at q16)
       apply Grow.have_known (W := W)
       · rw [hW.out]; apply Known.at q18; (repeat (with_reducible first | exact q18 | apply Known.same | apply Known.other | apply Known.alloc | apply Known.drewN)) <;> omega
       clear q18
       intro q18
       (try simp only [List.setIfInBounds_toArray, List.set_cons_zero, List.set_cons_succ] at q18)
       replace HZ : w.heap.size ≤ W.heap.size := Below.size HG.out
       clear hW
       refine (within_at _ _ _ _ GD.out.l1 (H1.trans (congrArg (fun t => fsub t _) E1.out)) rfl _).mono ?_
       rintro e w1 hp
       obtain ⟨v, rfl, hp, hB⟩ := hp
       subst hp
       skip
       replace q9 := q9.below hB
       replace q16 := q16.below hB
       replace q18 := q18.below hB
       replace HG : Hid (Below w.heap.size w w1) := Lib.hid (Grow.grow_trans HG.out hB)
       replace HZ : w.heap.size ≤ w1.heap.size := Below.size HG.out
       clear hB
       have c9 := q9.cell; have f9 := q9.frozen; have l9 := q9.lt
       have c16 := q16.cell; have f16 := q16.frozen; have l16 := q16.lt
       have c18 := q18.cell; have f18 := q18.frozen; have l18 := q18.lt
       have s18 := trivial
       clear H1 E1 D1)
    | (clear s18
       go_at_call 44
       refine Grow.seal_calls ?_
       intro W hW
       have HG2 : Hid (Below w.heap.size w W) := Lib.hid (by rw [hW.out]; (repeat (with_reducible first | exact Grow.grow_refl _ | refine Grow.grow_setCell ?_ ?_ _ | refine Grow.grow_alloc ?_ _ | refine Grow.grow_drewN ?_ _ | refine Grow.grow_over ?_ _ | refine Grow.grow_via (by assumption) ?_)) <;> omega)
       clear HG
       have HG := HG2
       clear HG2
       clear c9 f9 c16 f16 c18 f18
       apply Grow.have_known (W := W)
       · rw [hW.out]; apply Known.at q9; (repeat (with_reducible first | exact q9 | apply Known.same | apply Known.other | apply Known.alloc | apply Known.drewN)) <;> omega
       clear q9
       intro q9
       (try simp only [List.setIfInBounds_toArray, List.set_cons_zero, List.set_cons_succ] at q9)
       apply Grow.have_known (W := W)
       · rw [hW.out]; apply Known.at q16; (repeat (with_reducible first | exact q16 | apply Known.same | apply Known.other | apply Known.alloc | apply Known.drewN)) <;> omega
       clear q16
       intro q16
       (try simp only [List.setIfInBounds_toArray, List.set_cons_zero, List.set_cons_succ] at q16)
       apply Grow.have_known (W := W)
       · rw [hW.out]; apply Known.at q18; (repeat (with_reducible first | exact q18 | apply Known.same | apply Known.other | apply Known.alloc | apply Known.drewN)) <;> omega
       clear q18
       intro q18
       (try simp only [List.setIfInBounds_toArray, List.set_cons_zero, List.set_cons_succ] at q18)
       replace HZ : w.heap.size ≤ W.heap.size := Below.size HG.out
       clear hW
       refine (lengthOf_walk _ _ _ _).mono ?_
       rintro e w1 hp
       obtain ⟨v, rfl, hp, hB⟩ := hp
       obtain ⟨e2, rfl, hb⟩ := hp
       have E2 := Lib.hid (hb.trans (congrArg (fun m => vlen m.b) GP.out)); clear hb
       replace q9 := q9.below hB
       replace q16 := q16.below hB
       replace q18 := q18.below hB
       replace HG : Hid (Below w.heap.size w w1) := Lib.hid (Grow.grow_trans HG.out hB)
       replace HZ : w.heap.size ≤ w1.heap.size := Below.size HG.out
       clear hB
       have c9 := q9.cell; have f9 := q9.frozen; have l9 := q9.lt
       have c16 := q16.cell; have f16 := q16.frozen; have l16 := q16.lt
       have c18 := q18.cell; have f18 := q18.frozen; have l18 := q18.lt
       have s19 := trivial)
    | (clear s19
       go_at_call 43
       refine Grow.seal_calls ?_
       intro W hW
       have HG2 : Hid (Below w.heap.size w W) := Lib.hid (by rw [hW.out]; (repeat (with_reducible first | exact Grow.grow_refl _ | refine Grow.grow_setCell ?_ ?_ _ | refine Grow.grow_alloc ?_ _ | refine Grow.grow_drewN ?_ _ | refine Grow.grow_over ?_ _ | refine Grow.grow_via (by assumption) ?_)) <;> omega)
       clear HG
       have HG := HG2
       clear HG2
       clear c9 f9 c16 f16 c18 f18
       apply Grow.have_known (W := W)
       · rw [hW.out]; apply Known.at q9; (repeat (with_reducible first | exact q9 | apply Known.same | apply Known.other | apply Known.alloc | apply Known.drewN)) <;> omega
       clear q9
       intro q9
       (try simp only [List.setIfInBounds_toArray, List.set_cons_zero, List.set_cons_succ] at q9)
       apply Grow.have_known (W := W)
       · rw [hW.out]; apply Known.at q16; (repeat (with_reducible first | exact q16 | apply Known.same | apply Known.other | apply Known.alloc | apply Known.drewN)) <;> omega
       clear q16
       intro q16
       (try simp only [List.setIfInBounds_toArray, List.set_cons_zero, List.set_cons_succ] at q16)
       apply Grow.have_known (W := W)
       · rw [hW.out]; apply Known.at q18; (repeat (with_reducible first | exact q18 | apply Known.same | apply Known.other | apply Known.alloc | apply Known.drewN)) <;> omega
       clear q18
       intro q18
       (try simp only [List.setIfInBounds_toArray, List.set_cons_zero, List.set_cons_succ] at q18)
       replace HZ : w.heap.size ≤ W.heap.size := Below.size HG.out
       clear hW
       refine (within_at _ _ _ _ GD.out.l2 (H1.trans (congrArg (fun t => fsub t _) E2.out)) rfl _).mono ?_
       rintro e w1 hp
       obtain ⟨v, rfl, hp, hB⟩ := hp
       subst hp
       skip
       replace q9 := q9.below hB
       replace q16 := q16.below hB
       replace q18 := q18.below hB
       replace HG : Hid (Below w.heap.size w w1) := Lib.hid (Grow.grow_trans HG.out hB)
       replace HZ : w.heap.size ≤ w1.heap.size := Below.size HG.out
       clear hB
       have c9 := q9.cell; have f9 := q9.frozen; have l9 := q9.lt
       have c16 := q16.cell; have f16 := q16.frozen; have l16 := q16.lt
       have c18 := q18.cell; have f18 := q18.frozen; have l18 := q18.lt
       have s20 := trivial
       clear H1 E2 D2)
    | (clear s20
       go_at_call 44
       refine Grow.seal_calls ?_
       intro W hW
       have HG2 : Hid (Below w.heap.size w W) := Lib.hid (by rw [hW.out]; (repeat (with_reducible first | exact Grow.grow_refl _ | refine Grow.grow_setCell ?_ ?_ _ | refine Grow.grow_alloc ?_ _ | refine Grow.grow_drewN ?_ _ | refine Grow.grow_over ?_ _ | refine Grow.grow_via (by assumption) ?_)) <;> omega)
       clear HG
       have HG := HG2
       clear HG2
       clear c9 f9 c16 f16 c18 f18
       apply Grow.have_known (W := W)
       · rw [hW.out]; apply Known.at q9; (repeat (with_reducible first | exact q9 | apply Known.same | apply Known.other | apply Known.alloc | apply Known.drewN)) <;> omega
       clear q9
       intro q9
       (try simp only [List.setIfInBounds_toArray, List.set_cons_zero, List.set_cons_succ] at q9)
       apply Grow.have_known (W := W)
       · rw [hW.out]; apply Known.at q16; (repeat (with_reducible first | exact q16 | apply Known.same | apply Known.other | apply Known.alloc | apply Known.drewN)) <;> omega
       clear q16
       intro q16
       (try simp only [List.setIfInBounds_toArray, List.set_cons_zero, List.set_cons_succ] at q16)
       apply Grow.have_known (W := W)
       · rw [hW.out]; apply Known.at q18; (repeat (with_reducible first | exact q18 | apply Known.same | apply Known.other | apply Known.alloc | apply Known.drewN)) <;> omega
       clear q18
       intro q18
       (try simp only [List.setIfInBounds_toArray, List.set_cons_zero, List.set_cons_succ] at q18)
       replace HZ : w.heap.size ≤ W.heap.size := Below.size HG.out
       clear hW
       refine (lengthOf_walk _ _ _ _).mono ?_
       rintro e w1 hp
       obtain ⟨v, rfl, hp, hB⟩ := hp
       obtain ⟨e3, rfl, hb⟩ := hp
       have E3 := Lib.hid (hb.trans (congrArg (fun m => vlen m.c) GP.out)); clear hb
       replace q9 := q9.below hB
       replace q16 := q16.below hB
       replace q18 := q18.below hB
       replace HG : Hid (Below w.heap.size w w1) := Lib.hid (Grow.grow_trans HG.out hB)
       replace HZ : w.heap.size ≤ w1.heap.size := Below.size HG.out
       clear hB
       have c9 := q9.cell; have f9 := q9.frozen; have l9 := q9.lt
       have c16 := q16.cell; have f16 := q16.frozen; have l16 := q16.lt
       have c18 := q18.cell; have f18 := q18.frozen; have l18 := q18.lt
       have s21 := trivial)
    | (clear s21
       go_at_call 43
       refine Grow.seal_calls ?_
       intro W hW
       have HG2 : Hid (Below w.heap.size w W) := Lib.hid (by rw [hW.out]; (repeat (with_reducible first | exact Grow.grow_refl _ | refine Grow.grow_setCell ?_ ?_ _ | refine Grow.grow_alloc ?_ _ | refine Grow.grow_drewN ?_ _ | refine Grow.grow_over ?_ _ | refine Grow.grow_via (by assumption) ?_)) <;> omega)
       clear HG
       have HG := HG2
       clear HG2
       clear c9 f9 c16 f16 c18 f18
       apply Grow.have_known (W := W)
       · rw [hW.out]; apply Known.at q9; (repeat (with_reducible first | exact q9 | apply Known.same | apply Known.other | apply Known.alloc | apply Known.drewN)) <;> omega
       clear q9
       intro q9
       (try simp only [List.setIfInBounds_toArray, List.set_cons_zero, List.set_cons_succ] at q9)
       apply Grow.have_known (W := W)
       · rw [hW.out]; apply Known.at q16; (repeat (with_reducible first | exact q16 | apply Known.same | apply Known.other | apply Known.alloc | apply Known.drewN)) <;> omega
       clear q16
       intro q16
       (try simp only [List.setIfInBounds_toArray, List.set_cons_zero, List.set_cons_succ] at q16)
       apply Grow.have_known (W := W)
       · rw [hW.out]; apply Known.at q18; (repeat (with_reducible first | exact q18 | apply Known.same | apply Known.other | apply Known.alloc | apply Known.drewN)) <;> omega
       clear q18
       intro q18
       (try simp only [List.setIfInBounds_toArray, List.set_cons_zero, List.set_cons_succ] at q18)
       replace HZ : w.heap.size ≤ W.heap.size := Below.size HG.out
       clear hW
       refine (within_at _ _ _ _ GD.out.l3 (H1.trans (congrArg (fun t => fsub t _) E3.out)) rfl _).mono ?_
       rintro e w1 hp
       obtain ⟨v, rfl, hp, hB⟩ := hp
       subst hp
       skip
       replace q9 := q9.below hB
       replace q16 := q16.below hB
       replace q18 := q18.below hB
       replace HG : Hid (Below w.heap.size w w1) := Lib.hid (Grow.grow_trans HG.out hB)
       replace HZ : w.heap.size ≤ w1.heap.size := Below.size HG.out
       clear hB
       have c9 := q9.cell; have f9 := q9.frozen; have l9 := q9.lt
       have c16 := q16.cell; have f16 := q16.frozen; have l16 := q16.lt
       have c18 := q18.cell; have f18 := q18.frozen; have l18 := q18.lt
       have s22 := trivial
       clear H1 E3 D3)
    | (clear s22
       go_at_call 44
       refine Grow.seal_calls ?_
       intro W hW
       have HG2 : Hid (Below w.heap.size w W) := Lib.hid (by rw [hW.out]; (repeat (with_reducible first | exact Grow.grow_refl _ | refine Grow.grow_setCell ?_ ?_ _ | refine Grow.grow_alloc ?_ _ | refine Grow.grow_drewN ?_ _ | refine Grow.grow_over ?_ _ | refine Grow.grow_via (by assumption) ?_)) <;> omega)
       clear HG
       have HG := HG2
       clear HG2
       clear c9 f9 c16 f16 c18 f18
       apply Grow.have_known (W := W)
       · rw [hW.out]; apply Known.at q9; (repeat (with_reducible first | exact q9 | apply Known.same | apply Known.other | apply Known.alloc | apply Known.drewN)) <;> omega
       clear q9
       intro q9
       (try simp only [List.setIfInBounds_toArray, List.set_cons_zero, List.set_cons_succ] at q9)
       apply Grow.have_known (W := W)
       · rw [hW.out]; apply Known.at q16; (repeat (with_reducible first | exact q16 | apply Known.same | apply Known.other | apply Known.alloc | apply Known.drewN)) <;> omega
       clear q16
       intro q16
       (try simp only [List.setIfInBounds_toArray, List.set_cons_zero, List.set_cons_succ] at q16)
       apply Grow.have_known (W := W)
       · rw [hW.out]; apply Known.at q18; (repeat (with_reducible first | exact q18 | apply Known.same | apply Known.other | apply Known.alloc | apply Known.drewN)) <;> omega
       clear q18
       intro q18
       (try simp only [List.setIfInBounds_toArray, List.set_cons_zero, List.set_cons_succ] at q18)
       replace HZ : w.heap.size ≤ W.heap.size := Below.size HG.out
       clear hW
       refine (lengthOf_walk _ _ _ _).mono ?_
       rintro e w1 hp
       obtain ⟨v, rfl, hp, hB⟩ := hp
       obtain ⟨nn, rfl, hb⟩ := hp
       have NN := Lib.hid hb; clear hb
       replace q9 := q9.below hB
       replace q16 := q16.below hB
       replace q18 := q18.below hB
       replace HG : Hid (Below w.heap.size w w1) := Lib.hid (Grow.grow_trans HG.out hB)
       replace HZ : w.heap.size ≤ w1.heap.size := Below.size HG.out
       clear hB
       have c9 := q9.cell; have f9 := q9.frozen; have l9 := q9.lt
       have c16 := q16.cell; have f16 := q16.frozen; have l16 := q16.lt
       have c18 := q18.cell; have f18 := q18.frozen; have l18 := q18.lt
       have s23 := trivial
       clear q18 c18 f18 l18)
    | (clear s23
       go_at_call 32
       refine Grow.seal_calls ?_
       intro W hW
       have HG2 : Hid (Below w.heap.size w W) := Lib.hid (by rw [hW.out]; (repeat (with_reducible first | exact Grow.grow_refl _ | refine Grow.grow_setCell ?_ ?_ _ | refine Grow.grow_alloc ?_ _ | refine Grow.grow_drewN ?_ _ | refine Grow.grow_over ?_ _ | refine Grow.grow_via (by assumption) ?_)) <;> omega)
       clear HG
       have HG := HG2
       clear HG2
       clear c9 f9 c16 f16
       apply Grow.have_known (W := W)
       · rw [hW.out]; apply Known.at q9; (repeat (with_reducible first | exact q9 | apply Known.same | apply Known.other | apply Known.alloc | apply Known.drewN)) <;> omega
       clear q9
       intro q9
       (try simp only [List.setIfInBounds_toArray, List.set_cons_zero, List.set_cons_succ] at q9)
       apply Grow.have_known (W := W)
       · rw [hW.out]; apply Known.at q16; (repeat (with_reducible first | exact q16 | apply Known.same | apply Known.other | apply Known.alloc | apply Known.drewN)) <;> omega
       clear q16
       intro q16
       (try simp only [List.setIfInBounds_toArray, List.set_cons_zero, List.set_cons_succ] at q16)
       replace HZ : w.heap.size ≤ W.heap.size := Below.size HG.out
       clear hW
       refine (turn_walk _ _ _ _ _ _ _ _).mono ?_
       rintro e w1 hp
       obtain ⟨v, rfl, hp, hB⟩ := hp
       obtain ⟨t1, t2, t3, rfl, g1, g2, g3⟩ := hp
       have GT := Lib.hid ((v3_eq' g1 g2 g3).trans (congrArg (fun q => app (mat q) _) GQ.out)); clear g1 g2 g3
       replace q9 := q9.below hB
       replace q16 := q16.below hB
       replace HG : Hid (Below w.heap.size w w1) := Lib.hid (Grow.grow_trans HG.out hB)
       replace HZ : w.heap.size ≤ w1.heap.size := Below.size HG.out
       clear hB
       have c9 := q9.cell; have f9 := q9.frozen; have l9 := q9.lt
       have c16 := q16.cell; have f16 := q16.frozen; have l16 := q16.lt
       have s24 := trivial))
  all_goals (try (go_ret; refine Post.mk (T := fun v => v = _) (by first | rfl | (simp; done) | (simp_all; done)) ?_; (repeat (with_reducible first | exact Grow.grow_refl _ | refine Grow.grow_setCell ?_ ?_ _ | refine Grow.grow_alloc ?_ _ | refine Grow.grow_drewN ?_ _ | refine Grow.grow_over ?_ _ | refine Grow.grow_via (by assumption) ?_)) <;> omega; done))
  refine Grow.seal_wp ?_
  intro W hW
  have HG2 : Hid (Below w.heap.size w W) := Lib.hid (by rw [hW.out]; (repeat (with_reducible first | exact Grow.grow_refl _ | refine Grow.grow_setCell ?_ ?_ _ | refine Grow.grow_alloc ?_ _ | refine Grow.grow_drewN ?_ _ | refine Grow.grow_over ?_ _ | refine Grow.grow_via (by assumption) ?_)) <;> omega)
  clear HG
  have HG := HG2
  clear HG2
  clear c9 f9 c16 f16
  apply Grow.have_known (W := W)
  · rw [hW.out]; apply Known.at q9; (repeat (with_reducible first | exact q9 | apply Known.same | apply Known.other | apply Known.alloc | apply Known.drewN)) <;> omega
  clear q9
  intro q9
  (try simp only [List.setIfInBounds_toArray, List.set_cons_zero, List.set_cons_succ] at q9)
  apply Grow.have_known (W := W)
  · rw [hW.out]; apply Known.at q16; (repeat (with_reducible first | exact q16 | apply Known.same | apply Known.other | apply Known.alloc | apply Known.drewN)) <;> omega
  clear q16
  intro q16
  (try simp only [List.setIfInBounds_toArray, List.set_cons_zero, List.set_cons_succ] at q16)
  apply Grow.have_known (W := W) (b := w1.heap.size)
  · rw [hW.out]; (repeat (with_reducible first | exact Known.new _ _ _ | apply Known.same | apply Known.other | apply Known.alloc | apply Known.drewN)) <;> omega
  intro q27
  (try simp only [World.size_alloc, World.size_setCell, World.heap_drewN] at q27)
  (try simp only [List.setIfInBounds_toArray, List.set_cons_zero, List.set_cons_succ] at q27)
  have m27 := q27.ge (n := w.heap.size) (by omega)
  replace HZ : w.heap.size ≤ W.heap.size := Below.size HG.out
  clear hW
  have c9 := q9.cell; have f9 := q9.frozen; have l9 := q9.lt
  have c16 := q16.cell; have f16 := q16.frozen; have l16 := q16.lt
  have c27 := q27.cell; have f27 := q27.frozen; have l27 := q27.lt
  refine Rel.wp_region_rel_tail SpecGood 5 (by kernel_rfl) (lexTailB_of_fast (by kernel_rfl) (by kernel_rfl) (by kernel_rfl)) ?_
  simp only [List.append_eq, List.cons_append, List.nil_append, List.take_succ_cons, List.take_zero, List.drop_succ_cons, List.drop_zero]
  repeat (first
    | (refine rel_arith (by rfl) rfl (by rfl) rfl rfl ?_; intro b1 H1; simp only [Act.put, List.setIfInBounds_toArray, List.set_cons_zero, List.set_cons_succ])
    | (refine rel_call (f := 20) (args := #[.agg #[.float .f64 _, .float .f64 _, .float .f64 _, .float .f64 _]]) (by rfl) rfl (callAt_func rfl Try.func20 (by kernel_rfl) (by kernel_rfl) rfl) (keeps_over (fun v h => h) fun x => back_walk _ _ _ _ _) ?_; rintro _ rfl; skip; simp only [Act.put, List.setIfInBounds_toArray, List.set_cons_zero, List.set_cons_succ])
    | (refine rel_call (f := 32) (args := #[.agg #[.float .f64 _, .float .f64 _, .float .f64 _, .float .f64 _], .agg #[.float .f64 _, .float .f64 _, .float .f64 _]]) (by rfl) rfl (callAt_func rfl Try.func32 (by kernel_rfl) (by kernel_rfl) rfl) (keeps_over (fun v h => h) fun x => turn_walk _ _ _ _ _ _ _ _) ?_; rintro _ ⟨u1, u2, u3, rfl, g1, g2, g3⟩; have GU := Lib.hid (((v3_eq' g1 g2 g3).trans (congrArg (fun q => app (mat q) _) (qback_eq GQ.out))).trans (congrArg (fun v => app (mat (qback R)) v) GT.out)); clear g1 g2 g3; simp only [Act.put, List.setIfInBounds_toArray, List.set_cons_zero, List.set_cons_succ])
    | (refine rel_alloc (by rfl) rfl alloc41 ?_; intro k hk; have hk1 := hk.1; have hk2 := hk.2; clear hk; (try simp only [World.size_alloc, World.size_setCell, World.heap_drewN] at hk1); (try simp only [List.forall_mem_cons] at hk2); (try obtain ⟨hk2, hk3⟩ := hk2); (try obtain ⟨hk3, hk4⟩ := hk3); (try obtain ⟨hk4, hk5⟩ := hk4); simp only [Act.put, List.setIfInBounds_toArray, List.set_cons_zero, List.set_cons_succ])
    | (refine rel_plain (by rfl) rfl ?_; intro K hK; go_big_quiet_op; go_big_quiet_on)
    | (refine rel_skip (by rfl) ?_; simp only [Act.put, List.setIfInBounds_toArray, List.set_cons_zero, List.set_cons_succ]))
  refine Rel.wpRel_nil ?_
  intro w9 hB9 hG9
  clear c9 f9 c16 f16 c27 f27
  replace q9 := q9.below hB9
  replace q16 := q16.below hB9
  replace q27 := q27.below hB9
  simp only [Rel.holds, List.forall_mem_cons] at hG9
  obtain ⟨hx0, -⟩ := hG9
  have q28 := Known.held hx0
  clear hx0
  have m28 := q28.ge (n := w.heap.size) (by omega)
  replace HG : Hid (Below w.heap.size w w9) := Lib.hid (Grow.grow_trans HG.out hB9)
  replace HZ : w.heap.size ≤ w9.heap.size := Below.size HG.out
  clear hB9
  have c9 := q9.cell
  have f9 := q9.frozen
  have l9 := q9.lt
  have c16 := q16.cell
  have f16 := q16.frozen
  have l16 := q16.lt
  have c27 := q27.cell
  have f27 := q27.frozen
  have l27 := q27.lt
  have c28 := q28.cell
  have f28 := q28.frozen
  have l28 := q28.lt
  have s24 := trivial
  go_wp2_with (first
    | (refine wpList_arith rfl rfl (by rfl) rfl rfl ?_; intro c1 n1 H1)
    | (refine wpList_arith_on (by rfl) rfl (by rfl) rfl rfl ?_; intro c1 n1 H1)
    | (clear s24
       go_at_call 44
       refine Grow.seal_calls ?_
       intro W hW
       have HG2 : Hid (Below w.heap.size w W) := Lib.hid (by rw [hW.out]; (repeat (with_reducible first | exact Grow.grow_refl _ | refine Grow.grow_setCell ?_ ?_ _ | refine Grow.grow_alloc ?_ _ | refine Grow.grow_drewN ?_ _ | refine Grow.grow_over ?_ _ | refine Grow.grow_via (by assumption) ?_)) <;> omega)
       clear HG
       have HG := HG2
       clear HG2
       clear c9 f9 c16 f16 c27 f27 c28 f28
       apply Grow.have_known (W := W)
       · rw [hW.out]; apply Known.at q9; (repeat (with_reducible first | exact q9 | apply Known.same | apply Known.other | apply Known.alloc | apply Known.drewN)) <;> omega
       clear q9
       intro q9
       (try simp only [List.setIfInBounds_toArray, List.set_cons_zero, List.set_cons_succ] at q9)
       apply Grow.have_known (W := W)
       · rw [hW.out]; apply Known.at q16; (repeat (with_reducible first | exact q16 | apply Known.same | apply Known.other | apply Known.alloc | apply Known.drewN)) <;> omega
       clear q16
       intro q16
       (try simp only [List.setIfInBounds_toArray, List.set_cons_zero, List.set_cons_succ] at q16)
       apply Grow.have_known (W := W)
       · rw [hW.out]; apply Known.at q27; (repeat (with_reducible first | exact q27 | apply Known.same | apply Known.other | apply Known.alloc | apply Known.drewN)) <;> omega
       clear q27
       intro q27
       (try simp only [List.setIfInBounds_toArray, List.set_cons_zero, List.set_cons_succ] at q27)
       apply Grow.have_known (W := W)
       · rw [hW.out]; apply Known.at q28; (repeat (with_reducible first | exact q28 | apply Known.same | apply Known.other | apply Known.alloc | apply Known.drewN)) <;> omega
       clear q28
       intro q28
       (try simp only [List.setIfInBounds_toArray, List.set_cons_zero, List.set_cons_succ] at q28)
       replace HZ : w.heap.size ≤ W.heap.size := Below.size HG.out
       clear hW
       refine (lengthOf_walk _ _ _ _).mono ?_
       rintro e w1 hp
       obtain ⟨v, rfl, hp, hB⟩ := hp
       obtain ⟨e1, rfl, hb⟩ := hp
       have MO := Lib.hid (H1.trans (congrArg (fun t => fmul _ t) NN.out)); have EE := Lib.hid (hb.trans (congrArg vlen GT.out)); clear hb H1
       replace q9 := q9.below hB
       replace q16 := q16.below hB
       replace q27 := q27.below hB
       replace q28 := q28.below hB
       replace HG : Hid (Below w.heap.size w w1) := Lib.hid (Grow.grow_trans HG.out hB)
       replace HZ : w.heap.size ≤ w1.heap.size := Below.size HG.out
       clear hB
       have c9 := q9.cell; have f9 := q9.frozen; have l9 := q9.lt
       have c16 := q16.cell; have f16 := q16.frozen; have l16 := q16.lt
       have c27 := q27.cell; have f27 := q27.frozen; have l27 := q27.lt
       have c28 := q28.cell; have f28 := q28.frozen; have l28 := q28.lt
       have s25 := trivial)
    | (clear s25
       go_at_call 43
       refine Grow.seal_calls ?_
       intro W hW
       have HG2 : Hid (Below w.heap.size w W) := Lib.hid (by rw [hW.out]; (repeat (with_reducible first | exact Grow.grow_refl _ | refine Grow.grow_setCell ?_ ?_ _ | refine Grow.grow_alloc ?_ _ | refine Grow.grow_drewN ?_ _ | refine Grow.grow_over ?_ _ | refine Grow.grow_via (by assumption) ?_)) <;> omega)
       clear HG
       have HG := HG2
       clear HG2
       clear c9 f9 c16 f16 c27 f27 c28 f28
       apply Grow.have_known (W := W)
       · rw [hW.out]; apply Known.at q9; (repeat (with_reducible first | exact q9 | apply Known.same | apply Known.other | apply Known.alloc | apply Known.drewN)) <;> omega
       clear q9
       intro q9
       (try simp only [List.setIfInBounds_toArray, List.set_cons_zero, List.set_cons_succ] at q9)
       apply Grow.have_known (W := W)
       · rw [hW.out]; apply Known.at q16; (repeat (with_reducible first | exact q16 | apply Known.same | apply Known.other | apply Known.alloc | apply Known.drewN)) <;> omega
       clear q16
       intro q16
       (try simp only [List.setIfInBounds_toArray, List.set_cons_zero, List.set_cons_succ] at q16)
       apply Grow.have_known (W := W)
       · rw [hW.out]; apply Known.at q27; (repeat (with_reducible first | exact q27 | apply Known.same | apply Known.other | apply Known.alloc | apply Known.drewN)) <;> omega
       clear q27
       intro q27
       (try simp only [List.setIfInBounds_toArray, List.set_cons_zero, List.set_cons_succ] at q27)
       apply Grow.have_known (W := W)
       · rw [hW.out]; apply Known.at q28; (repeat (with_reducible first | exact q28 | apply Known.same | apply Known.other | apply Known.alloc | apply Known.drewN)) <;> omega
       clear q28
       intro q28
       (try simp only [List.setIfInBounds_toArray, List.set_cons_zero, List.set_cons_succ] at q28)
       replace HZ : w.heap.size ≤ W.heap.size := Below.size HG.out
       clear hW
       refine (within_at _ _ _ _ GD.out.n (H1.trans ((congrArg (fun t => fsub t _) EE.out).trans (congrArg (fun t => fsub _ t) NN.out))) MO.out _).mono ?_
       rintro e w1 hp
       obtain ⟨v, rfl, hp, hB⟩ := hp
       subst hp
       skip
       replace q9 := q9.below hB
       replace q16 := q16.below hB
       replace q27 := q27.below hB
       replace q28 := q28.below hB
       replace HG : Hid (Below w.heap.size w w1) := Lib.hid (Grow.grow_trans HG.out hB)
       replace HZ : w.heap.size ≤ w1.heap.size := Below.size HG.out
       clear hB
       have c9 := q9.cell; have f9 := q9.frozen; have l9 := q9.lt
       have c16 := q16.cell; have f16 := q16.frozen; have l16 := q16.lt
       have c27 := q27.cell; have f27 := q27.frozen; have l27 := q27.lt
       have c28 := q28.cell; have f28 := q28.frozen; have l28 := q28.lt
       have s26 := trivial
       clear H1)
    | (clear s26
       go_at_call 43
       refine Grow.seal_calls ?_
       intro W hW
       have HG2 : Hid (Below w.heap.size w W) := Lib.hid (by rw [hW.out]; (repeat (with_reducible first | exact Grow.grow_refl _ | refine Grow.grow_setCell ?_ ?_ _ | refine Grow.grow_alloc ?_ _ | refine Grow.grow_drewN ?_ _ | refine Grow.grow_over ?_ _ | refine Grow.grow_via (by assumption) ?_)) <;> omega)
       clear HG
       have HG := HG2
       clear HG2
       clear c9 f9 c16 f16 c27 f27 c28 f28
       apply Grow.have_known (W := W)
       · rw [hW.out]; apply Known.at q9; (repeat (with_reducible first | exact q9 | apply Known.same | apply Known.other | apply Known.alloc | apply Known.drewN)) <;> omega
       clear q9
       intro q9
       (try simp only [List.setIfInBounds_toArray, List.set_cons_zero, List.set_cons_succ] at q9)
       apply Grow.have_known (W := W)
       · rw [hW.out]; apply Known.at q16; (repeat (with_reducible first | exact q16 | apply Known.same | apply Known.other | apply Known.alloc | apply Known.drewN)) <;> omega
       clear q16
       intro q16
       (try simp only [List.setIfInBounds_toArray, List.set_cons_zero, List.set_cons_succ] at q16)
       apply Grow.have_known (W := W)
       · rw [hW.out]; apply Known.at q27; (repeat (with_reducible first | exact q27 | apply Known.same | apply Known.other | apply Known.alloc | apply Known.drewN)) <;> omega
       clear q27
       intro q27
       (try simp only [List.setIfInBounds_toArray, List.set_cons_zero, List.set_cons_succ] at q27)
       apply Grow.have_known (W := W)
       · rw [hW.out]; apply Known.at q28; (repeat (with_reducible first | exact q28 | apply Known.same | apply Known.other | apply Known.alloc | apply Known.drewN)) <;> omega
       clear q28
       intro q28
       (try simp only [List.setIfInBounds_toArray, List.set_cons_zero, List.set_cons_succ] at q28)
       replace HZ : w.heap.size ≤ W.heap.size := Below.size HG.out
       clear hW
       refine (within_at _ _ _ _ GD.out.b1 (H1.trans (congrArg (fun t => fsub t _) (congrArg V3.x GU.out))) MO.out _).mono ?_
       rintro e w1 hp
       obtain ⟨v, rfl, hp, hB⟩ := hp
       subst hp
       skip
       replace q9 := q9.below hB
       replace q16 := q16.below hB
       replace q27 := q27.below hB
       replace q28 := q28.below hB
       replace HG : Hid (Below w.heap.size w w1) := Lib.hid (Grow.grow_trans HG.out hB)
       replace HZ : w.heap.size ≤ w1.heap.size := Below.size HG.out
       clear hB
       have c9 := q9.cell; have f9 := q9.frozen; have l9 := q9.lt
       have c16 := q16.cell; have f16 := q16.frozen; have l16 := q16.lt
       have c27 := q27.cell; have f27 := q27.frozen; have l27 := q27.lt
       have c28 := q28.cell; have f28 := q28.frozen; have l28 := q28.lt
       have s27 := trivial
       clear H1)
    | (clear s27
       go_at_call 43
       refine Grow.seal_calls ?_
       intro W hW
       have HG2 : Hid (Below w.heap.size w W) := Lib.hid (by rw [hW.out]; (repeat (with_reducible first | exact Grow.grow_refl _ | refine Grow.grow_setCell ?_ ?_ _ | refine Grow.grow_alloc ?_ _ | refine Grow.grow_drewN ?_ _ | refine Grow.grow_over ?_ _ | refine Grow.grow_via (by assumption) ?_)) <;> omega)
       clear HG
       have HG := HG2
       clear HG2
       clear c9 f9 c16 f16 c27 f27 c28 f28
       apply Grow.have_known (W := W)
       · rw [hW.out]; apply Known.at q9; (repeat (with_reducible first | exact q9 | apply Known.same | apply Known.other | apply Known.alloc | apply Known.drewN)) <;> omega
       clear q9
       intro q9
       (try simp only [List.setIfInBounds_toArray, List.set_cons_zero, List.set_cons_succ] at q9)
       apply Grow.have_known (W := W)
       · rw [hW.out]; apply Known.at q16; (repeat (with_reducible first | exact q16 | apply Known.same | apply Known.other | apply Known.alloc | apply Known.drewN)) <;> omega
       clear q16
       intro q16
       (try simp only [List.setIfInBounds_toArray, List.set_cons_zero, List.set_cons_succ] at q16)
       apply Grow.have_known (W := W)
       · rw [hW.out]; apply Known.at q27; (repeat (with_reducible first | exact q27 | apply Known.same | apply Known.other | apply Known.alloc | apply Known.drewN)) <;> omega
       clear q27
       intro q27
       (try simp only [List.setIfInBounds_toArray, List.set_cons_zero, List.set_cons_succ] at q27)
       apply Grow.have_known (W := W)
       · rw [hW.out]; apply Known.at q28; (repeat (with_reducible first | exact q28 | apply Known.same | apply Known.other | apply Known.alloc | apply Known.drewN)) <;> omega
       clear q28
       intro q28
       (try simp only [List.setIfInBounds_toArray, List.set_cons_zero, List.set_cons_succ] at q28)
       replace HZ : w.heap.size ≤ W.heap.size := Below.size HG.out
       clear hW
       refine (within_at _ _ _ _ GD.out.b2 (H1.trans (congrArg (fun t => fsub t _) (congrArg V3.y GU.out))) MO.out _).mono ?_
       rintro e w1 hp
       obtain ⟨v, rfl, hp, hB⟩ := hp
       subst hp
       skip
       replace q9 := q9.below hB
       replace q16 := q16.below hB
       replace q27 := q27.below hB
       replace q28 := q28.below hB
       replace HG : Hid (Below w.heap.size w w1) := Lib.hid (Grow.grow_trans HG.out hB)
       replace HZ : w.heap.size ≤ w1.heap.size := Below.size HG.out
       clear hB
       have c9 := q9.cell; have f9 := q9.frozen; have l9 := q9.lt
       have c16 := q16.cell; have f16 := q16.frozen; have l16 := q16.lt
       have c27 := q27.cell; have f27 := q27.frozen; have l27 := q27.lt
       have c28 := q28.cell; have f28 := q28.frozen; have l28 := q28.lt
       have s28 := trivial
       clear H1)
    | (clear s28
       go_at_call 43
       refine Grow.seal_calls ?_
       intro W hW
       have HG2 : Hid (Below w.heap.size w W) := Lib.hid (by rw [hW.out]; (repeat (with_reducible first | exact Grow.grow_refl _ | refine Grow.grow_setCell ?_ ?_ _ | refine Grow.grow_alloc ?_ _ | refine Grow.grow_drewN ?_ _ | refine Grow.grow_over ?_ _ | refine Grow.grow_via (by assumption) ?_)) <;> omega)
       clear HG
       have HG := HG2
       clear HG2
       clear c9 f9 c16 f16 c27 f27 c28 f28
       apply Grow.have_known (W := W)
       · rw [hW.out]; apply Known.at q9; (repeat (with_reducible first | exact q9 | apply Known.same | apply Known.other | apply Known.alloc | apply Known.drewN)) <;> omega
       clear q9
       intro q9
       (try simp only [List.setIfInBounds_toArray, List.set_cons_zero, List.set_cons_succ] at q9)
       apply Grow.have_known (W := W)
       · rw [hW.out]; apply Known.at q16; (repeat (with_reducible first | exact q16 | apply Known.same | apply Known.other | apply Known.alloc | apply Known.drewN)) <;> omega
       clear q16
       intro q16
       (try simp only [List.setIfInBounds_toArray, List.set_cons_zero, List.set_cons_succ] at q16)
       apply Grow.have_known (W := W)
       · rw [hW.out]; apply Known.at q27; (repeat (with_reducible first | exact q27 | apply Known.same | apply Known.other | apply Known.alloc | apply Known.drewN)) <;> omega
       clear q27
       intro q27
       (try simp only [List.setIfInBounds_toArray, List.set_cons_zero, List.set_cons_succ] at q27)
       apply Grow.have_known (W := W)
       · rw [hW.out]; apply Known.at q28; (repeat (with_reducible first | exact q28 | apply Known.same | apply Known.other | apply Known.alloc | apply Known.drewN)) <;> omega
       clear q28
       intro q28
       (try simp only [List.setIfInBounds_toArray, List.set_cons_zero, List.set_cons_succ] at q28)
       replace HZ : w.heap.size ≤ W.heap.size := Below.size HG.out
       clear hW
       refine (within_at _ _ _ _ GD.out.b3 (H1.trans (congrArg (fun t => fsub t _) (congrArg V3.z GU.out))) MO.out _).mono ?_
       rintro e w1 hp
       obtain ⟨v, rfl, hp, hB⟩ := hp
       subst hp
       skip
       replace q9 := q9.below hB
       replace q16 := q16.below hB
       replace q27 := q27.below hB
       replace q28 := q28.below hB
       replace HG : Hid (Below w.heap.size w w1) := Lib.hid (Grow.grow_trans HG.out hB)
       replace HZ : w.heap.size ≤ w1.heap.size := Below.size HG.out
       clear hB
       have c9 := q9.cell; have f9 := q9.frozen; have l9 := q9.lt
       have c16 := q16.cell; have f16 := q16.frozen; have l16 := q16.lt
       have c27 := q27.cell; have f27 := q27.frozen; have l27 := q27.lt
       have c28 := q28.cell; have f28 := q28.frozen; have l28 := q28.lt
       have s29 := trivial
       clear H1))
  all_goals
    go_ret
    refine Post.mk (T := fun v => v = _) (by first | rfl | (simp; done) | (simp_all; done)) ?_
    (repeat (with_reducible first
      | exact Grow.grow_refl _
      | refine Grow.grow_setCell ?_ ?_ _
      | refine Grow.grow_alloc ?_ _
      | refine Grow.grow_drewN ?_ _
      | refine Grow.grow_over ?_ _
      | refine Grow.grow_via (by assumption) ?_)) <;> omega

end Go.Proofs.Ytdnclgpjcgamgaa
