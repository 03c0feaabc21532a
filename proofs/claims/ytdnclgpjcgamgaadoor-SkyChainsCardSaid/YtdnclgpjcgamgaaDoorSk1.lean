/- Walks that the chains of turns lean on: vectors alike, lengths, points, mild floats, tests. -/
import Derived.Test.YtdnclgpjcgamgaaDoorS11
import Derived.Test.YtdnclgpjcgamgaaDoorFe42
set_option linter.unusedSimpArgs false
set_option linter.unusedVariables false
namespace Go.Proofs.YtdnclgpjcgamgaaDoor
open Go.RowKit Go.Fl Go.Grow Go.Tr

set_option maxRecDepth 100000 in
set_option maxHeartbeats 4000000 in
theorem sameVec_walk (a b c d e f : Nat) (h1 : fl a = fl d) (h2 : fl b = fl e) (h3 : fl c = fl f) (w : World) :
    Calls Tryd.prog 15 #[.agg #[.float .f64 a, .float .f64 b, .float .f64 c], .agg #[.float .f64 d, .float .f64 e, .float .f64 f]] w (Post (fun v => v = .bool true) w) := by
  have H1 := Lib.hid h1
  have H2 := Lib.hid h2
  have H3 := Lib.hid h3
  clear h1 h2 h3
  go_enter Tryd.func15, Tryd.ntmps15
  go_wp2_with (go_at_call 28; (first
    | ((with_reducible refine (sameBits_walk _ _ H1.out _).mono ?_))
    | ((with_reducible refine (sameBits_walk _ _ H2.out _).mono ?_))
    | ((with_reducible refine (sameBits_walk _ _ H3.out _).mono ?_))); rintro e w1 ⟨v, rfl, rfl, n, rfl⟩)
  go_ret
  refine Post.mk (T := fun v => v = _) rfl ?_
  (repeat (with_reducible first
        | exact Grow.grow_refl _
        | refine Grow.grow_setCell ?_ ?_ _
        | refine Grow.grow_alloc ?_ _
        | refine Grow.grow_drewN ?_ _
        | refine Grow.grow_over ?_ _
        | refine Grow.grow_via (by assumption) ?_)) <;> omega
/-- What the callees give. -/
def SpecT : FuncId → Array Value → Value → Prop
  | 21, ⟨[.int .i64 a]⟩, v => IsF (sinA a) v
  | 37, ⟨[.int .i64 a]⟩, v => IsF (cosA a) v
  | _, _, _ => False
set_option maxRecDepth 10000 in
set_option maxHeartbeats 4000000 in
theorem point_walk (x y : Int) (w : World) : Calls Tryd.prog 25 #[.agg #[.int .i64 x, .int .i64 y]] w (Post (IsV (pnt x y)) w) := by
  have s0 := trivial
  go_enter Tryd.func25, Tryd.ntmps25
  go_wp2_with (first
    | (refine wpList_arith rfl rfl (by rfl) rfl rfl ?_; intro b1 n1 H1)
    | (clear s0
       go_at_call 37
       refine Grow.seal_calls ?_
       intro W hW
       have HG : Hid (Below w.heap.size w W) := Lib.hid (by rw [hW.out]; (repeat (with_reducible first | exact Grow.grow_refl _ | refine Grow.grow_setCell ?_ ?_ _ | refine Grow.grow_alloc ?_ _ | refine Grow.grow_drewN ?_ _ | refine Grow.grow_over ?_ _ | refine Grow.grow_via (by assumption) ?_)) <;> omega)
       have HZ : w.heap.size ≤ W.heap.size := Below.size HG.out
       apply Grow.have_known (W := W)
       · rw [hW.out]; exact (Known.new _ _ _).alloc _
       intro q1
       (try simp only [World.size_alloc] at q1)
       apply Grow.have_known (W := W)
       · rw [hW.out]; exact Known.new _ _ _
       intro q2
       (try simp only [World.size_alloc] at q2)
       clear hW
       refine (cos_walk _ _).mono ?_
       rintro e w1 hp
       obtain ⟨v, rfl, hp, hB⟩ := hp
       obtain ⟨b, rfl, hb⟩ := hp
       have H := Lib.hid hb; clear hb
       replace q1 := q1.below hB
       replace q2 := q2.below hB
       replace HG : Hid (Below w.heap.size w w1) := Lib.hid (Grow.grow_trans HG.out hB)
       replace HZ : w.heap.size ≤ w1.heap.size := Below.size HG.out
       clear hB
       have c1 := q1.cell; have f1 := q1.frozen; have l1 := q1.lt
       have c2 := q2.cell; have f2 := q2.frozen; have l2 := q2.lt
       have s1 := trivial))
  refine Rel.wp_region_rel_tail SpecT 14 (by kernel_rfl) (lexTailB_of_fast (by kernel_rfl) (by kernel_rfl) (by kernel_rfl)) ?_
  simp only [List.append_eq, List.cons_append, List.nil_append, List.take_succ_cons, List.take_zero, List.drop_succ_cons, List.drop_zero]
  repeat (first
    | (refine rel_arith (by rfl) rfl (by rfl) rfl rfl ?_; intro b1 H1; simp only [Act.put, List.setIfInBounds_toArray, List.set_cons_zero, List.set_cons_succ])
    | (refine rel_call (f := 21) (args := #[.int .i64 _]) (by rfl) rfl (callAt_func rfl Tryd.func21 (by kernel_rfl) (by kernel_rfl) rfl) (keeps_over (fun v h => h) fun x => sin_walk _ _) ?_; rintro _ ⟨b, rfl, hb⟩; have H := Lib.hid hb; clear hb; simp only [Act.put, List.setIfInBounds_toArray, List.set_cons_zero, List.set_cons_succ])
    | (refine rel_call (f := 37) (args := #[.int .i64 _]) (by rfl) rfl (callAt_func rfl Tryd.func37 (by kernel_rfl) (by kernel_rfl) rfl) (keeps_over (fun v h => h) fun x => cos_walk _ _) ?_; rintro _ ⟨b, rfl, hb⟩; have H := Lib.hid hb; clear hb; simp only [Act.put, List.setIfInBounds_toArray, List.set_cons_zero, List.set_cons_succ])
    | (refine rel_plain (by rfl) rfl ?_; intro K hK; go_big_quiet_op; go_big_quiet_on)
    | (refine rel_skip (by rfl) ?_; simp only [Act.put, List.setIfInBounds_toArray, List.set_cons_zero, List.set_cons_succ]))
  refine Rel.wpRel_nil ?_
  intro w9 hB9 hG9
  clear c1 f1 c2 f2
  replace q1 := q1.below hB9
  replace q2 := q2.below hB9
  clear hG9
  replace HG : Hid (Below w.heap.size w w9) := Lib.hid (Grow.grow_trans HG.out hB9)
  replace HZ : w.heap.size ≤ w9.heap.size := Below.size HG.out
  clear hB9
  have c1 := q1.cell
  have f1 := q1.frozen
  have l1 := q1.lt
  have c2 := q2.cell
  have f2 := q2.frozen
  have l2 := q2.lt
  go_wp2
  apply bodyPost_ret
  · simp [results, Tryd.results25, go_sem, *]; rfl
  · rfl
  · refine Post.mk ⟨_, _, _, rfl, ?_⟩ ?_
    · simp only [Hid, fop] at *
      simp only [pnt, *]
      exact ⟨trivial, trivial, trivial⟩
    · (repeat (with_reducible first
        | exact Grow.grow_refl _
        | refine Grow.grow_setCell ?_ ?_ _
        | refine Grow.grow_alloc ?_ _
        | refine Grow.grow_drewN ?_ _
        | refine Grow.grow_over ?_ _
        | refine Grow.grow_via (by assumption) ?_)) <;> omega
theorem pole : (pnt 0 324000000000).z = some 4607182418800017408 := by decide +kernel
theorem pointed_walk (w : World) : Calls Tryd.prog 11 #[] w (Post (fun v => v = .bool true) w) := by
  have o1 : (FloatKind.f64.format.order 4607182418800017408 4607182418800017408 == some Ordering.eq) = true := by decide +kernel
  go_enter Tryd.func11, Tryd.ntmps11
  go_wp2_with (go_at_call 25; refine (point_walk _ _ _).mono ?_; rintro e w1 ⟨v, rfl, ⟨b1, b2, b3, rfl, g1, g2, g3⟩, hB⟩; obtain rfl := fl_some (g3.trans pole); have HB := Lib.hid hB; clear hB g1 g2 g3)
  go_ret
  exact Post.mk rfl (by (repeat (with_reducible first | exact Grow.grow_refl _ | refine Grow.grow_setCell ?_ ?_ _ | refine Grow.grow_alloc ?_ _ | refine Grow.grow_drewN ?_ _ | refine Grow.grow_over ?_ _ | refine Grow.grow_via (by assumption) ?_)) <;> omega)
def MildPost (X : Option Nat) (v : Value) : Prop := ∃ r, v = .bool r ∧ (r = true → Fe.mildF X = true)
set_option maxHeartbeats 4000000 in
theorem mild_walk (a : Nat) (w : World) : Calls Tryd.prog 30 #[.float .f64 a] w (Post (MildPost (fl a)) w) := by
  have key := Fe.mildF_fl a
  have HK := Lib.hid key
  clear key
  cases h : FloatKind.f64.format.order a 0 == some Ordering.lt
  all_goals
    go_enter Tryd.func30, Tryd.ntmps30
    go_wp2
    all_goals
      go_ret
      refine Post.mk (T := MildPost (fl a)) ⟨_, rfl, fun hr => ?_⟩ (Grow.grow_refl _)
      have h' : (Ieee.double.order a 0 == some Ordering.lt) = _ := h
      have ef : FloatKind.f64.format = Ieee.double := rfl
      rw [HK.out, h']
      show Fe.mildO _ = true
      unfold Fe.mildO
      simp only [ef] at *
      simp_all
/-- Mild vectors. -/
def MildVPost (X : V3) (v : Value) : Prop := ∃ r, v = .bool r ∧ (r = true → Fe.mildF X.x = true ∧ Fe.mildF X.y = true ∧ Fe.mildF X.z = true)
set_option maxHeartbeats 4000000 in
theorem mildVec_walk (a b c : Nat) (w : World) : Calls Tryd.prog 17 #[.agg #[.float .f64 a, .float .f64 b, .float .f64 c]] w (Post (MildVPost ⟨fl a, fl b, fl c⟩) w) := by
  have s0 := trivial
  go_enter Tryd.func17, Tryd.ntmps17
  go_wp2_with (first
    | (clear s0
       go_at_call 30
       refine Grow.seal_calls ?_
       intro W hW
       have HG : Hid (Below w.heap.size w W) := Lib.hid (by rw [hW.out]; (repeat (with_reducible first | exact Grow.grow_refl _ | refine Grow.grow_setCell ?_ ?_ _ | refine Grow.grow_alloc ?_ _ | refine Grow.grow_drewN ?_ _ | refine Grow.grow_over ?_ _ | refine Grow.grow_via (by assumption) ?_)) <;> omega)
       have HZ : w.heap.size ≤ W.heap.size := Below.size HG.out
       apply Grow.have_known (W := W)
       · rw [hW.out]; exact Known.new _ _ _
       intro q1
       (try simp only [World.size_alloc] at q1)
       clear hW
       refine (mild_walk _ _).mono ?_
       rintro e w1 hp
       obtain ⟨v, rfl, hp, hB⟩ := hp
       obtain ⟨r1, rfl, m1⟩ := hp
       have M1 := Lib.hid m1; clear m1
       replace q1 := q1.below hB
       replace HG : Hid (Below w.heap.size w w1) := Lib.hid (Grow.grow_trans HG.out hB)
       replace HZ : w.heap.size ≤ w1.heap.size := Below.size HG.out
       clear hB
       have c1 := q1.cell; have f1 := q1.frozen; have l1 := q1.lt
       have s1 := trivial)
    | (clear s1
       go_at_call 30
       refine Grow.seal_calls ?_
       intro W hW
       have HG2 : Hid (Below w.heap.size w W) := Lib.hid (by rw [hW.out]; (repeat (with_reducible first | exact Grow.grow_refl _ | refine Grow.grow_setCell ?_ ?_ _ | refine Grow.grow_alloc ?_ _ | refine Grow.grow_drewN ?_ _ | refine Grow.grow_over ?_ _ | refine Grow.grow_via (by assumption) ?_)) <;> omega)
       clear HG
       have HG := HG2
       clear HG2
       clear c1 f1
       apply Grow.have_known (W := W)
       · rw [hW.out]; apply Known.at q1; (repeat (with_reducible first | exact q1 | apply Known.same | apply Known.other | apply Known.alloc | apply Known.drewN)) <;> omega
       clear q1
       intro q1
       (try simp only [List.setIfInBounds_toArray, List.set_cons_zero, List.set_cons_succ] at q1)
       replace HZ : w.heap.size ≤ W.heap.size := Below.size HG.out
       clear hW
       refine (mild_walk _ _).mono ?_
       rintro e w1 hp
       obtain ⟨v, rfl, hp, hB⟩ := hp
       obtain ⟨r2, rfl, m2⟩ := hp
       have M2 := Lib.hid m2; clear m2
       replace q1 := q1.below hB
       replace HG : Hid (Below w.heap.size w w1) := Lib.hid (Grow.grow_trans HG.out hB)
       replace HZ : w.heap.size ≤ w1.heap.size := Below.size HG.out
       clear hB
       have c1 := q1.cell; have f1 := q1.frozen; have l1 := q1.lt
       have s2 := trivial)
    | (clear s2
       go_at_call 30
       refine Grow.seal_calls ?_
       intro W hW
       have HG2 : Hid (Below w.heap.size w W) := Lib.hid (by rw [hW.out]; (repeat (with_reducible first | exact Grow.grow_refl _ | refine Grow.grow_setCell ?_ ?_ _ | refine Grow.grow_alloc ?_ _ | refine Grow.grow_drewN ?_ _ | refine Grow.grow_over ?_ _ | refine Grow.grow_via (by assumption) ?_)) <;> omega)
       clear HG
       have HG := HG2
       clear HG2
       clear c1 f1
       apply Grow.have_known (W := W)
       · rw [hW.out]; apply Known.at q1; (repeat (with_reducible first | exact q1 | apply Known.same | apply Known.other | apply Known.alloc | apply Known.drewN)) <;> omega
       clear q1
       intro q1
       (try simp only [List.setIfInBounds_toArray, List.set_cons_zero, List.set_cons_succ] at q1)
       replace HZ : w.heap.size ≤ W.heap.size := Below.size HG.out
       clear hW
       refine (mild_walk _ _).mono ?_
       rintro e w1 hp
       obtain ⟨v, rfl, hp, hB⟩ := hp
       obtain ⟨r3, rfl, m3⟩ := hp
       have M3 := Lib.hid m3; clear m3
       replace q1 := q1.below hB
       replace HG : Hid (Below w.heap.size w w1) := Lib.hid (Grow.grow_trans HG.out hB)
       replace HZ : w.heap.size ≤ w1.heap.size := Below.size HG.out
       clear hB
       have c1 := q1.cell; have f1 := q1.frozen; have l1 := q1.lt
       have s3 := trivial))
  all_goals
    go_ret
    refine Post.mk (T := MildVPost ⟨fl a, fl b, fl c⟩) ⟨_, rfl, fun hr => ?_⟩ (by (repeat (with_reducible first | exact Grow.grow_refl _ | refine Grow.grow_setCell ?_ ?_ _ | refine Grow.grow_alloc ?_ _ | refine Grow.grow_drewN ?_ _ | refine Grow.grow_over ?_ _ | refine Grow.grow_via (by assumption) ?_)) <;> omega)
    have k1 := M1.out
    have k2 := M2.out
    have k3 := M3.out
    clear M1 M2 M3 HG HZ q1 c1 f1 l1
    revert hr k1 k2 k3
    generalize Fe.mildF _ = u1
    generalize Fe.mildF _ = u2
    generalize Fe.mildF _ = u3
    first
      | (simp; done)
      | (simp; intros; simp_all; done)
      | (simp_all; done)
      | grind
theorem within_walk (a b : Nat) (h1 : fle (fl a) (fl b) = true) (h2 : Fe.fge (fl a) (fneg (fl b)) = true) (w : World) : Calls Tryd.prog 19 #[.float .f64 a, .float .f64 b] w (Post (fun v => v = .bool true) w) := by
  rw [← fl_neg] at h2
  unfold fle at h1
  unfold Fe.fge at h2
  rw [← order_fl] at h1 h2
  have k1 : (FloatKind.f64.format.order a b == some Ordering.lt || FloatKind.f64.format.order a b == some Ordering.eq) = true := h1
  have k2 : (FloatKind.f64.format.order a (Op.negFloat .f64 b) == some Ordering.gt || FloatKind.f64.format.order a (Op.negFloat .f64 b) == some Ordering.eq) = true := h2
  clear h1 h2
  go_enter Tryd.func19, Tryd.ntmps19
  go_wp2
  all_goals
    go_ret
    refine Post.mk (T := fun v => v = _) (by first | rfl | (simp; done) | (simp_all; done)) (Grow.grow_refl _)
/-- As wpList_arith, at an operation whose guard says yes. -/
theorem wpList_arith_on {P : Program} {ops : Array Oper} {rest : List Oper} {o : Oper} {a : Act} {w : World} {Q : Exit → Act → World → Prop} (hw : Region.wanted o (yielded ops a.tmps) = true)
    {bop : BinOp} {t t2 : TypeId} {x y : Operand} {b1 b2 : Nat} (hop : o.op = .binOp bop t x y t2) (hb : (bop == .add || bop == .sub || bop == .mul || bop == .quo) = true)
    (hx : a.eval x = .float .f64 b1) (hy : a.eval y = .float .f64 b2)
    (h : ∀ b n, Hid (fl b = fop bop (fl b1) (fl b2)) → wpList P ops Q rest (a.put o.dst (.float .f64 b)) (w.drewN n)) : wpList P ops Q (o :: rest) a w := by
  obtain ⟨b, h1, n, h3⟩ := exec_arith (P := P) hop hb hx hy w
  refine wpList_step fun K hK => ?_
  rw [if_pos hw]
  unfold Oper.wp
  rw [h3]
  exact hK _ _ (h b n h1)
/-- A test that something is within. -/
theorem within_at (a b : Nat) (X M : Option Nat) (h : Fe.InOk X M) (ha : fl a = X) (hb : fl b = M) (w : World) : Calls Tryd.prog 19 #[.float .f64 a, .float .f64 b] w (Post (fun v => v = .bool true) w) := by
  obtain ⟨x, m, hx, hm, fx, fm, h1, h2⟩ := h
  refine within_walk a b ?_ ?_ w
  · rw [ha, hb, hx, hm, Fe.fle_val fx fm]
    simpa using h1
  · rw [ha, hb, hx, hm]
    obtain ⟨nf, nv⟩ := Fe.neg_val fm
    show Fe.fge (some x) (some (Op.negFloat .f64 m)) = true
    rw [Fe.fge_val fx nf, nv]
    simpa using h2
def SpecV : FuncId → Array Value → Value → Prop
  | 29, ⟨[.float .f64 s, .float .f64 a, .float .f64 b]⟩, v => IsF (pls (fl s) (fl a) (fl b)) v
  | 31, ⟨[.float .f64 s]⟩, v => IsF (fsqrt (fl s)) v
  | _, _, _ => False
set_option maxHeartbeats 4000000 in
theorem lengthOf_walk (a b c : Nat) (w : World) :
    Calls Tryd.prog 18 #[.agg #[.float .f64 a, .float .f64 b, .float .f64 c]] w (Post (IsF (vl ⟨fl a, fl b, fl c⟩)) w) := by
  go_enter Tryd.func18, Tryd.ntmps18
  go_wp2_with (first
    | (refine wpList_arith rfl rfl (by rfl) rfl rfl ?_; intro b1 n1 H1))
  refine Rel.wp_region_rel SpecV (by kernel_rfl) (lexB_of_fast (by kernel_rfl) (by kernel_rfl)) ?_
  repeat (first
    | (refine rel_arith (by rfl) rfl (by rfl) rfl rfl ?_; intro b1 H1; simp only [Act.put, List.setIfInBounds_toArray, List.set_cons_zero, List.set_cons_succ])
    | (refine rel_call (f := 29) (args := #[.float .f64 _, .float .f64 _, .float .f64 _]) (by rfl) rfl (callAt_func rfl Tryd.func29 (by kernel_rfl) (by kernel_rfl) rfl) (keepsD_over (fun v h => h) fun x => plusRef_walk _ _ _ _) ?_; rintro _ ⟨b, rfl, hb⟩; have H := Lib.hid hb; clear hb; simp only [Act.put, List.setIfInBounds_toArray, List.set_cons_zero, List.set_cons_succ])
    | (refine rel_call (f := 31) (args := #[.float .f64 _]) (by rfl) rfl (callAt_func rfl Tryd.func31 (by kernel_rfl) (by kernel_rfl) rfl) (keepsD_over (fun v h => h) fun x => sqrt_walk _ _) ?_; rintro _ ⟨b, rfl, hb⟩; have H := Lib.hid hb; clear hb; simp only [Act.put, List.setIfInBounds_toArray, List.set_cons_zero, List.set_cons_succ])
    | (refine rel_plain (by rfl) rfl ?_; intro K hK; go_big_quiet_op; go_big_quiet_on)
    | (refine rel_skip (by rfl) ?_; simp only [Act.put, List.setIfInBounds_toArray, List.set_cons_zero, List.set_cons_succ]))
  refine Rel.wpRel_nil ?_
  intro w9 hB9 hG9
  obtain ⟨hc9, hf9, hz9⟩ := facts hB9
  have HB9 := Lib.hid hB9
  clear hB9
  (try simp only [World.size_alloc, World.size_setCell, World.heap_drewN] at hc9 hf9 hz9)
  clear hG9
  go_wp2
  go_ret
  refine Post.mk ⟨_, rfl, ?_⟩ ?_
  · simp only [Hid, fop] at *
    simp only [vl, pls, *]
  · (repeat (with_reducible first
      | exact Grow.grow_refl _
      | refine Grow.grow_setCell ?_ ?_ _
      | refine Grow.grow_alloc ?_ _
      | refine Grow.grow_drewN ?_ _
      | refine Grow.grow_over ?_ _
      | refine Grow.grow_via (by assumption) ?_)) <;> omega
end Go.Proofs.YtdnclgpjcgamgaaDoor
