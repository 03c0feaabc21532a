/- The walks of what stands above the horizon, and of distances. -/
import Derived.Test.YtdnclgpjcgamgaaS13
set_option linter.unusedSimpArgs false
set_option linter.unusedVariables false
namespace Go.Proofs.Ytdnclgpjcgamgaa
open Go.RowKit Go.Fl Go.Grow Go.Tr

theorem v3_eq {a b c : Nat} {X : V3} (h1 : fl a = X.x) (h2 : fl b = X.y) (h3 : fl c = X.z) : V3.mk (fl a) (fl b) (fl c) = X := by rw [h1, h2, h3]
set_option maxRecDepth 10000 in
theorem alloc41 (w : World) : (Instr.alloc 41 true (.tuple #[])).run Try.prog w = .ok (.pointer (some ⟨w.heap.size, 0, none⟩)) (w.alloc (.cells #[.float .f64 0, .float .f64 0, .float .f64 0] 41)) := by
  simp [go_sem]
theorem vlen_vl : vlen = vl := rfl
theorem vcross_cr : vcross = cr := rfl
theorem where_at (p1 p2 p3 : Nat) (V : V3) (h : V3.mk (fl p1) (fl p2) (fl p3) = V) (w : World) : Calls Try.prog 48 #[.agg #[.float .f64 p1, .float .f64 p2, .float .f64 p3]] w (Post (IsPl (plc V)) w) := h ▸ where_walk p1 p2 p3 w
theorem placeOf_at (p1 p2 p3 : Nat) (V : V3) (h : V3.mk (fl p1) (fl p2) (fl p3) = V) (w : World) : Calls Try.prog 49 #[.agg #[.float .f64 p1, .float .f64 p2, .float .f64 p3]] w (Post (IsPl (plc V)) w) := h ▸ placeOf_walk p1 p2 p3 w
def SpecB : FuncId → Array Value → Value → Prop
  | 38, ⟨[.agg ⟨[.int .i64 x, .int .i64 y]⟩]⟩, v => v = .agg #[.int .i64 x, .int .i64 y]
  | 46, ⟨[.agg ⟨[.int .i64 x, .int .i64 y]⟩]⟩, v => IsV (pnt x y) v
  | 47, ⟨[.agg ⟨[.int .i64 x, .int .i64 y]⟩]⟩, v => IsV (pnt x y) v
  | 64, ⟨[.agg ⟨[.float .f64 a, .float .f64 b, .float .f64 c]⟩, .agg ⟨[.float .f64 d, .float .f64 e, .float .f64 f]⟩]⟩, v => IsV (vcross ⟨fl a, fl b, fl c⟩ ⟨fl d, fl e, fl f⟩) v
  | 68, ⟨[.agg ⟨[.float .f64 a, .float .f64 b, .float .f64 c]⟩, .agg ⟨[.float .f64 d, .float .f64 e, .float .f64 f]⟩]⟩, v => IsV (vcross ⟨fl a, fl b, fl c⟩ ⟨fl d, fl e, fl f⟩) v
  | 63, ⟨[.agg ⟨[.float .f64 a, .float .f64 b, .float .f64 c]⟩]⟩, v => IsF (vlen ⟨fl a, fl b, fl c⟩) v
  | 44, ⟨[.agg ⟨[.float .f64 a, .float .f64 b, .float .f64 c]⟩]⟩, v => IsF (vlen ⟨fl a, fl b, fl c⟩) v
  | 78, ⟨[.agg ⟨[.float .f64 a, .float .f64 b, .float .f64 c]⟩, .agg ⟨[.float .f64 d, .float .f64 e, .float .f64 f]⟩]⟩, v => IsF (dt ⟨fl a, fl b, fl c⟩ ⟨fl d, fl e, fl f⟩) v
  | 42, ⟨[.agg ⟨[.float .f64 a, .float .f64 b, .float .f64 c]⟩, .agg ⟨[.float .f64 d, .float .f64 e, .float .f64 f]⟩]⟩, v => IsF (dt ⟨fl a, fl b, fl c⟩ ⟨fl d, fl e, fl f⟩) v
  | 77, ⟨[.float .f64 y, .float .f64 x]⟩, v => IsA (fl y) (fl x) v
  | 79, ⟨[.float .f64 y, .float .f64 x]⟩, v => IsA (fl y) (fl x) v
  | 37, ⟨[.agg ⟨[.int .i64 x, .int .i64 y]⟩, .agg ⟨[.int .i64 z, .int .i64 u]⟩]⟩, v => v = .int .i64 (far (pnt x y) (pnt z u))
  | 39, ⟨[.agg ⟨[.int .i64 x, .int .i64 y]⟩, .agg ⟨[.int .i64 z, .int .i64 u]⟩]⟩, v => v = .int .i64 (far (pnt x y) (pnt z u))
  | 25, _, v => v = .bool true
  | _, _, _ => False

set_option maxHeartbeats 4000000 in
theorem dot_walk (a b c d e f : Nat) (w : World) : Calls Try.prog 78 #[.agg #[.float .f64 a, .float .f64 b, .float .f64 c], .agg #[.float .f64 d, .float .f64 e, .float .f64 f]] w (Post (IsF (dt ⟨fl a, fl b, fl c⟩ ⟨fl d, fl e, fl f⟩)) w) := by
  go_enter Try.func78, Try.ntmps78
  go_wp2_with (first
    | (refine wpList_arith rfl rfl (by rfl) rfl rfl ?_; intro b1 n1 H1))
  go_ret
  refine Post.mk ⟨_, rfl, ?_⟩ ?_
  · simp only [Hid, fop] at *
    simp only [dt, *]
  · (repeat (with_reducible first
      | exact Grow.grow_refl _
      | refine Grow.grow_setCell ?_ ?_ _
      | refine Grow.grow_alloc ?_ _
      | refine Grow.grow_drewN ?_ _
      | refine Grow.grow_over ?_ _
      | refine Grow.grow_via (by assumption) ?_)) <;> omega

set_option maxHeartbeats 4000000 in
theorem dotOf_walk (a b c d e f : Nat) (w : World) : Calls Try.prog 42 #[.agg #[.float .f64 a, .float .f64 b, .float .f64 c], .agg #[.float .f64 d, .float .f64 e, .float .f64 f]] w (Post (IsF (dt ⟨fl a, fl b, fl c⟩ ⟨fl d, fl e, fl f⟩)) w) := by
  have s0 := trivial
  go_enter Try.func42, Try.ntmps42
  go_wp2_with (first
    | (refine wpList_arith rfl rfl (by rfl) rfl rfl ?_; intro b1 n1 H1)
    | (clear s0; go_at_call 57; refine (plusRef_walk _ _ _ _).mono ?_; rintro e w1 ⟨v, rfl, ⟨b, rfl, hb⟩, n, rfl⟩; have H := Lib.hid hb; clear hb; have s1 := trivial)
    | (clear s1; go_at_call 57; refine (plusRef_walk _ _ _ _).mono ?_; rintro e w1 ⟨v, rfl, ⟨b, rfl, hb⟩, n, rfl⟩; have H := Lib.hid hb; clear hb))
  go_ret
  refine Post.mk ⟨_, rfl, ?_⟩ ?_
  · simp only [Hid, fop] at *
    simp only [dt, pls, *]
  · (repeat (with_reducible first
      | exact Grow.grow_refl _
      | refine Grow.grow_setCell ?_ ?_ _
      | refine Grow.grow_alloc ?_ _
      | refine Grow.grow_drewN ?_ _
      | refine Grow.grow_over ?_ _
      | refine Grow.grow_via (by assumption) ?_)) <;> omega

set_option maxRecDepth 10000 in
set_option maxHeartbeats 4000000 in
theorem above_walk (h d l : Int) (w : World) : Calls Try.prog 50 #[.int .i64 h, .int .i64 d, .int .i64 l] w (Post (fun v => v = .tuple #[.int .i64 (plc (hrz h d l)).1.2, .int .i64 (plc (hrz h d l)).1.1]) w) := by
  obtain ⟨⟨⟨x1, x2⟩, B⟩, hpl⟩ : ∃ X, plc (hrz h d l) = X := ⟨_, rfl⟩
  have HPL := Lib.hid hpl
  rw [hpl]
  clear hpl
  have s0 := trivial
  go_enter Try.func50, Try.ntmps50
  go_wp2_with (first
    | (refine wpList_arith rfl rfl (by rfl) rfl rfl ?_; intro b1 n1 H1)
    | (clear s0
       go_at_call 72
       refine Grow.seal_calls ?_
       intro W hW
       have HG : Hid (Below w.heap.size w W) := Lib.hid (by rw [hW.out]; (repeat (with_reducible first | exact Grow.grow_refl _ | refine Grow.grow_setCell ?_ ?_ _ | refine Grow.grow_alloc ?_ _ | refine Grow.grow_drewN ?_ _ | refine Grow.grow_over ?_ _ | refine Grow.grow_via (by assumption) ?_)) <;> omega)
       have HZ : w.heap.size ≤ W.heap.size := Below.size HG.out
       clear hW
       refine (cos_walk _ _).mono ?_
       rintro e w1 hp
       obtain ⟨v, rfl, hp, hB⟩ := hp
       obtain ⟨b, rfl, hb⟩ := hp
       have H := Lib.hid hb; clear hb
       replace HG : Hid (Below w.heap.size w w1) := Lib.hid (Grow.grow_trans HG.out hB)
       replace HZ : w.heap.size ≤ w1.heap.size := Below.size HG.out
       clear hB
       have s1 := trivial)
    | (clear s1
       go_at_call 71
       refine Grow.seal_calls ?_
       intro W hW
       have HG2 : Hid (Below w.heap.size w W) := Lib.hid (by rw [hW.out]; (repeat (with_reducible first | exact Grow.grow_refl _ | refine Grow.grow_setCell ?_ ?_ _ | refine Grow.grow_alloc ?_ _ | refine Grow.grow_drewN ?_ _ | refine Grow.grow_over ?_ _ | refine Grow.grow_via (by assumption) ?_)) <;> omega)
       clear HG
       have HG := HG2
       clear HG2
       replace HZ : w.heap.size ≤ W.heap.size := Below.size HG.out
       clear hW
       refine (sin_walk _ _).mono ?_
       rintro e w1 hp
       obtain ⟨v, rfl, hp, hB⟩ := hp
       obtain ⟨b, rfl, hb⟩ := hp
       have H := Lib.hid hb; clear hb
       replace HG : Hid (Below w.heap.size w w1) := Lib.hid (Grow.grow_trans HG.out hB)
       replace HZ : w.heap.size ≤ w1.heap.size := Below.size HG.out
       clear hB
       have s2 := trivial)
    | (clear s2
       go_at_call 72
       refine Grow.seal_calls ?_
       intro W hW
       have HG2 : Hid (Below w.heap.size w W) := Lib.hid (by rw [hW.out]; (repeat (with_reducible first | exact Grow.grow_refl _ | refine Grow.grow_setCell ?_ ?_ _ | refine Grow.grow_alloc ?_ _ | refine Grow.grow_drewN ?_ _ | refine Grow.grow_over ?_ _ | refine Grow.grow_via (by assumption) ?_)) <;> omega)
       clear HG
       have HG := HG2
       clear HG2
       replace HZ : w.heap.size ≤ W.heap.size := Below.size HG.out
       clear hW
       refine (cos_walk _ _).mono ?_
       rintro e w1 hp
       obtain ⟨v, rfl, hp, hB⟩ := hp
       obtain ⟨b, rfl, hb⟩ := hp
       have H := Lib.hid hb; clear hb
       replace HG : Hid (Below w.heap.size w w1) := Lib.hid (Grow.grow_trans HG.out hB)
       replace HZ : w.heap.size ≤ w1.heap.size := Below.size HG.out
       clear hB
       have s3 := trivial)
    | (clear s3
       go_at_call 71
       refine Grow.seal_calls ?_
       intro W hW
       have HG2 : Hid (Below w.heap.size w W) := Lib.hid (by rw [hW.out]; (repeat (with_reducible first | exact Grow.grow_refl _ | refine Grow.grow_setCell ?_ ?_ _ | refine Grow.grow_alloc ?_ _ | refine Grow.grow_drewN ?_ _ | refine Grow.grow_over ?_ _ | refine Grow.grow_via (by assumption) ?_)) <;> omega)
       clear HG
       have HG := HG2
       clear HG2
       replace HZ : w.heap.size ≤ W.heap.size := Below.size HG.out
       clear hW
       refine (sin_walk _ _).mono ?_
       rintro e w1 hp
       obtain ⟨v, rfl, hp, hB⟩ := hp
       obtain ⟨b, rfl, hb⟩ := hp
       have H := Lib.hid hb; clear hb
       replace HG : Hid (Below w.heap.size w w1) := Lib.hid (Grow.grow_trans HG.out hB)
       replace HZ : w.heap.size ≤ w1.heap.size := Below.size HG.out
       clear hB
       have s4 := trivial)
    | (clear s4
       go_at_call 72
       refine Grow.seal_calls ?_
       intro W hW
       have HG2 : Hid (Below w.heap.size w W) := Lib.hid (by rw [hW.out]; (repeat (with_reducible first | exact Grow.grow_refl _ | refine Grow.grow_setCell ?_ ?_ _ | refine Grow.grow_alloc ?_ _ | refine Grow.grow_drewN ?_ _ | refine Grow.grow_over ?_ _ | refine Grow.grow_via (by assumption) ?_)) <;> omega)
       clear HG
       have HG := HG2
       clear HG2
       replace HZ : w.heap.size ≤ W.heap.size := Below.size HG.out
       clear hW
       refine (cos_walk _ _).mono ?_
       rintro e w1 hp
       obtain ⟨v, rfl, hp, hB⟩ := hp
       obtain ⟨b, rfl, hb⟩ := hp
       have H := Lib.hid hb; clear hb
       replace HG : Hid (Below w.heap.size w w1) := Lib.hid (Grow.grow_trans HG.out hB)
       replace HZ : w.heap.size ≤ w1.heap.size := Below.size HG.out
       clear hB
       have s5 := trivial)
    | (clear s5
       go_at_call 71
       refine Grow.seal_calls ?_
       intro W hW
       have HG2 : Hid (Below w.heap.size w W) := Lib.hid (by rw [hW.out]; (repeat (with_reducible first | exact Grow.grow_refl _ | refine Grow.grow_setCell ?_ ?_ _ | refine Grow.grow_alloc ?_ _ | refine Grow.grow_drewN ?_ _ | refine Grow.grow_over ?_ _ | refine Grow.grow_via (by assumption) ?_)) <;> omega)
       clear HG
       have HG := HG2
       clear HG2
       replace HZ : w.heap.size ≤ W.heap.size := Below.size HG.out
       clear hW
       refine (sin_walk _ _).mono ?_
       rintro e w1 hp
       obtain ⟨v, rfl, hp, hB⟩ := hp
       obtain ⟨b, rfl, hb⟩ := hp
       have H := Lib.hid hb; clear hb
       replace HG : Hid (Below w.heap.size w w1) := Lib.hid (Grow.grow_trans HG.out hB)
       replace HZ : w.heap.size ≤ w1.heap.size := Below.size HG.out
       clear hB
       have s6 := trivial)
    | (clear s6
       go_at_call 48
       refine Grow.seal_calls ?_
       intro W hW
       have HG2 : Hid (Below w.heap.size w W) := Lib.hid (by rw [hW.out]; (repeat (with_reducible first | exact Grow.grow_refl _ | refine Grow.grow_setCell ?_ ?_ _ | refine Grow.grow_alloc ?_ _ | refine Grow.grow_drewN ?_ _ | refine Grow.grow_over ?_ _ | refine Grow.grow_via (by assumption) ?_)) <;> omega)
       clear HG
       have HG := HG2
       clear HG2
       replace HZ : w.heap.size ≤ W.heap.size := Below.size HG.out
       clear hW
       refine (where_at _ _ _ (hrz h d l) (by simp only [Hid, fop] at *; simp only [hrz, fl_zero, *]) _).mono ?_
       rintro e w1 hp
       obtain ⟨v, rfl, hp, hB⟩ := hp
       have hA := hp; clear hp
       unfold IsPl at hA; rw [HPL.out] at hA; subst hA
       replace HG : Hid (Below w.heap.size w w1) := Lib.hid (Grow.grow_trans HG.out hB)
       replace HZ : w.heap.size ≤ w1.heap.size := Below.size HG.out
       clear hB
       have s7 := trivial))
  go_quiet (fail)
  go_wp2
  go_ret2
  exact Post.mk rfl (by (repeat (with_reducible first | exact Grow.grow_refl _ | refine Grow.grow_setCell ?_ ?_ _ | refine Grow.grow_alloc ?_ _ | refine Grow.grow_drewN ?_ _ | refine Grow.grow_over ?_ _ | refine Grow.grow_via (by assumption) ?_)) <;> omega)

set_option maxRecDepth 10000 in
set_option maxHeartbeats 4000000 in
theorem horizonOf_walk (h d l : Int) (w : World) : Calls Try.prog 51 #[.int .i64 h, .int .i64 d, .int .i64 l] w (Post (IsV (hrz h d l)) w) := by
  have s0 := trivial
  go_enter Try.func51, Try.ntmps51
  go_wp2_with (first
    | (refine wpList_arith rfl rfl (by rfl) rfl rfl ?_; intro b1 n1 H1)
    | (clear s0
       go_at_call 73
       refine Grow.seal_calls ?_
       intro W hW
       have HG : Hid (Below w.heap.size w W) := Lib.hid (by rw [hW.out]; (repeat (with_reducible first | exact Grow.grow_refl _ | refine Grow.grow_setCell ?_ ?_ _ | refine Grow.grow_alloc ?_ _ | refine Grow.grow_drewN ?_ _ | refine Grow.grow_over ?_ _ | refine Grow.grow_via (by assumption) ?_)) <;> omega)
       have HZ : w.heap.size ≤ W.heap.size := Below.size HG.out
       apply Grow.have_known (W := W)
       · rw [hW.out]; exact Known.new _ _ _
       intro q6
       (try simp only [World.size_alloc] at q6)
       clear hW
       refine (sinCos_walk _ _).mono ?_
       rintro e w1 hp
       obtain ⟨v, rfl, hp, hB⟩ := hp
       obtain ⟨b1, b2, rfl, g1, g2⟩ := hp
       have G1 := Lib.hid g1; have G2 := Lib.hid g2; clear g1 g2
       replace q6 := q6.below hB
       replace HG : Hid (Below w.heap.size w w1) := Lib.hid (Grow.grow_trans HG.out hB)
       replace HZ : w.heap.size ≤ w1.heap.size := Below.size HG.out
       clear hB
       have c6 := q6.cell; have f6 := q6.frozen; have l6 := q6.lt
       have s1 := trivial)
    | (clear s1
       go_at_call 73
       refine Grow.seal_calls ?_
       intro W hW
       have HG2 : Hid (Below w.heap.size w W) := Lib.hid (by rw [hW.out]; (repeat (with_reducible first | exact Grow.grow_refl _ | refine Grow.grow_setCell ?_ ?_ _ | refine Grow.grow_alloc ?_ _ | refine Grow.grow_drewN ?_ _ | refine Grow.grow_over ?_ _ | refine Grow.grow_via (by assumption) ?_)) <;> omega)
       clear HG
       have HG := HG2
       clear HG2
       clear c6 f6
       apply Grow.have_known (W := W)
       · rw [hW.out]; apply Known.at q6; (repeat (with_reducible first | exact q6 | apply Known.same | apply Known.other | apply Known.alloc | apply Known.drewN)) <;> omega
       clear q6
       intro q6
       (try simp only [List.setIfInBounds_toArray, List.set_cons_zero, List.set_cons_succ] at q6)
       replace HZ : w.heap.size ≤ W.heap.size := Below.size HG.out
       clear hW
       refine (sinCos_walk _ _).mono ?_
       rintro e w1 hp
       obtain ⟨v, rfl, hp, hB⟩ := hp
       obtain ⟨b1, b2, rfl, g1, g2⟩ := hp
       have G1 := Lib.hid g1; have G2 := Lib.hid g2; clear g1 g2
       replace q6 := q6.below hB
       replace HG : Hid (Below w.heap.size w w1) := Lib.hid (Grow.grow_trans HG.out hB)
       replace HZ : w.heap.size ≤ w1.heap.size := Below.size HG.out
       clear hB
       have c6 := q6.cell; have f6 := q6.frozen; have l6 := q6.lt
       have s2 := trivial)
    | (clear s2
       go_at_call 73
       refine Grow.seal_calls ?_
       intro W hW
       have HG2 : Hid (Below w.heap.size w W) := Lib.hid (by rw [hW.out]; (repeat (with_reducible first | exact Grow.grow_refl _ | refine Grow.grow_setCell ?_ ?_ _ | refine Grow.grow_alloc ?_ _ | refine Grow.grow_drewN ?_ _ | refine Grow.grow_over ?_ _ | refine Grow.grow_via (by assumption) ?_)) <;> omega)
       clear HG
       have HG := HG2
       clear HG2
       clear c6 f6
       apply Grow.have_known (W := W)
       · rw [hW.out]; apply Known.at q6; (repeat (with_reducible first | exact q6 | apply Known.same | apply Known.other | apply Known.alloc | apply Known.drewN)) <;> omega
       clear q6
       intro q6
       (try simp only [List.setIfInBounds_toArray, List.set_cons_zero, List.set_cons_succ] at q6)
       replace HZ : w.heap.size ≤ W.heap.size := Below.size HG.out
       clear hW
       refine (sinCos_walk _ _).mono ?_
       rintro e w1 hp
       obtain ⟨v, rfl, hp, hB⟩ := hp
       obtain ⟨b1, b2, rfl, g1, g2⟩ := hp
       have G1 := Lib.hid g1; have G2 := Lib.hid g2; clear g1 g2
       replace q6 := q6.below hB
       replace HG : Hid (Below w.heap.size w w1) := Lib.hid (Grow.grow_trans HG.out hB)
       replace HZ : w.heap.size ≤ w1.heap.size := Below.size HG.out
       clear hB
       have c6 := q6.cell; have f6 := q6.frozen; have l6 := q6.lt
       have s3 := trivial)
    | (clear s3
       go_at_call 56
       refine Grow.seal_calls ?_
       intro W hW
       have HG2 : Hid (Below w.heap.size w W) := Lib.hid (by rw [hW.out]; (repeat (with_reducible first | exact Grow.grow_refl _ | refine Grow.grow_setCell ?_ ?_ _ | refine Grow.grow_alloc ?_ _ | refine Grow.grow_drewN ?_ _ | refine Grow.grow_over ?_ _ | refine Grow.grow_via (by assumption) ?_)) <;> omega)
       clear HG
       have HG := HG2
       clear HG2
       clear c6 f6
       apply Grow.have_known (W := W)
       · rw [hW.out]; apply Known.at q6; (repeat (with_reducible first | exact q6 | apply Known.same | apply Known.other | apply Known.alloc | apply Known.drewN)) <;> omega
       clear q6
       intro q6
       (try simp only [List.setIfInBounds_toArray, List.set_cons_zero, List.set_cons_succ] at q6)
       replace HZ : w.heap.size ≤ W.heap.size := Below.size HG.out
       clear hW
       refine (less_walk _ _ _ _).mono ?_
       rintro e w1 hp
       obtain ⟨v, rfl, hp, hB⟩ := PostD.post hp
       obtain ⟨b, rfl, hb⟩ := hp
       have H := Lib.hid hb; clear hb
       replace q6 := q6.below hB
       replace HG : Hid (Below w.heap.size w w1) := Lib.hid (Grow.grow_trans HG.out hB)
       replace HZ : w.heap.size ≤ w1.heap.size := Below.size HG.out
       clear hB
       have c6 := q6.cell; have f6 := q6.frozen; have l6 := q6.lt
       have s4 := trivial)
    | (clear s4
       go_at_call 57
       refine Grow.seal_calls ?_
       intro W hW
       have HG2 : Hid (Below w.heap.size w W) := Lib.hid (by rw [hW.out]; (repeat (with_reducible first | exact Grow.grow_refl _ | refine Grow.grow_setCell ?_ ?_ _ | refine Grow.grow_alloc ?_ _ | refine Grow.grow_drewN ?_ _ | refine Grow.grow_over ?_ _ | refine Grow.grow_via (by assumption) ?_)) <;> omega)
       clear HG
       have HG := HG2
       clear HG2
       clear c6 f6
       apply Grow.have_known (W := W)
       · rw [hW.out]; apply Known.at q6; (repeat (with_reducible first | exact q6 | apply Known.same | apply Known.other | apply Known.alloc | apply Known.drewN)) <;> omega
       clear q6
       intro q6
       (try simp only [List.setIfInBounds_toArray, List.set_cons_zero, List.set_cons_succ] at q6)
       replace HZ : w.heap.size ≤ W.heap.size := Below.size HG.out
       clear hW
       refine (plusRef_walk _ _ _ _).mono ?_
       rintro e w1 hp
       obtain ⟨v, rfl, hp, hB⟩ := PostD.post hp
       obtain ⟨b, rfl, hb⟩ := hp
       have H := Lib.hid hb; clear hb
       replace q6 := q6.below hB
       replace HG : Hid (Below w.heap.size w w1) := Lib.hid (Grow.grow_trans HG.out hB)
       replace HZ : w.heap.size ≤ w1.heap.size := Below.size HG.out
       clear hB
       have c6 := q6.cell; have f6 := q6.frozen; have l6 := q6.lt
       have s5 := trivial))
  apply bodyPost_ret
  · simp [results, Try.results51, go_sem, *]; rfl
  · rfl
  · refine Post.mk ⟨_, _, _, rfl, ?_⟩ ?_
    · simp only [Hid, fop] at *
      simp only [hrz, mns, pls, fl_zero, *]
      exact ⟨trivial, trivial, trivial⟩
    · (repeat (with_reducible first
        | exact Grow.grow_refl _
        | refine Grow.grow_setCell ?_ ?_ _
        | refine Grow.grow_alloc ?_ _
        | refine Grow.grow_drewN ?_ _
        | refine Grow.grow_over ?_ _
        | refine Grow.grow_via (by assumption) ?_)) <;> omega

end Go.Proofs.Ytdnclgpjcgamgaa
