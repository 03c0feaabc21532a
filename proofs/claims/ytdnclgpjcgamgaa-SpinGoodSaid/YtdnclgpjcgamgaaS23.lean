/- Mild floats; tests that something is within: walks. -/
import Derived.Test.YtdnclgpjcgamgaaS10
import Derived.Test.YtdnclgpjcgamgaaFe37
set_option linter.unusedSimpArgs false
set_option linter.unusedVariables false
namespace Go.Proofs.Ytdnclgpjcgamgaa
open Go.RowKit Go.Fl Go.Grow Go.Tr

def MildPost (X : Option Nat) (v : Value) : Prop := ∃ r, v = .bool r ∧ (r = true → Fe.mildF X = true)
set_option maxHeartbeats 4000000 in
theorem mild_walk (a : Nat) (w : World) : Calls Try.prog 41 #[.float .f64 a] w (Post (MildPost (fl a)) w) := by
  have key := Fe.mildF_fl a
  have HK := Lib.hid key
  clear key
  cases h : FloatKind.f64.format.order a 0 == some Ordering.lt
  all_goals
    go_enter Try.func41, Try.ntmps41
    go_wp2
    all_goals
      go_ret
      refine Post.mk (T := MildPost (fl a)) ⟨_, rfl, fun hr => ?_⟩ (Grow.grow_refl _)
      have h' : (Ieee.double.order a 0 == some Ordering.lt) = _ := h
      have ef : FloatKind.f64.format = Ieee.double := rfl
      rw [HK.out, h']
      show Fe.mildO _ = true
      unfold Fe.mildO
      simp only [ef] at *
      simp_all
theorem within_walk (a b : Nat) (h1 : fle (fl a) (fl b) = true) (h2 : Fe.fge (fl a) (fneg (fl b)) = true) (w : World) : Calls Try.prog 43 #[.float .f64 a, .float .f64 b] w (Post (fun v => v = .bool true) w) := by
  rw [← fl_neg] at h2
  unfold fle at h1
  unfold Fe.fge at h2
  rw [← order_fl] at h1 h2
  have k1 : (FloatKind.f64.format.order a b == some Ordering.lt || FloatKind.f64.format.order a b == some Ordering.eq) = true := h1
  have k2 : (FloatKind.f64.format.order a (Op.negFloat .f64 b) == some Ordering.gt || FloatKind.f64.format.order a (Op.negFloat .f64 b) == some Ordering.eq) = true := h2
  clear h1 h2
  go_enter Try.func43, Try.ntmps43
  go_wp2
  all_goals
    go_ret
    refine Post.mk (T := fun v => v = _) (by first | rfl | (simp; done) | (simp_all; done)) (Grow.grow_refl _)
/-- Mild vectors. -/
def MildVPost (X : V3) (v : Value) : Prop := ∃ r, v = .bool r ∧ (r = true → Fe.mildF X.x = true ∧ Fe.mildF X.y = true ∧ Fe.mildF X.z = true)
set_option maxHeartbeats 4000000 in
theorem mildVec_walk (a b c : Nat) (w : World) : Calls Try.prog 40 #[.agg #[.float .f64 a, .float .f64 b, .float .f64 c]] w (Post (MildVPost ⟨fl a, fl b, fl c⟩) w) := by
  have s0 := trivial
  go_enter Try.func40, Try.ntmps40
  go_wp2_with (first
    | (clear s0
       go_at_call 41
       refine Grow.seal_calls ?_
       intro W hW
       have HG : Hid (Below w.heap.size w W) := Lib.hid (by rw [hW.out]; (repeat (with_reducible first | exact Grow.grow_refl _ | refine Grow.grow_setCell ?_ ?_ _ | refine Grow.grow_alloc ?_ _ | refine Grow.grow_drewN ?_ _ | refine Grow.grow_over ?_ _ | refine Grow.grow_via (by assumption) ?_)) <;> omega)
       have HZ : w.heap.size ≤ W.heap.size := Below.size HG.out
       apply Grow.have_known (W := W)
       · rw [hW.out]; exact Known.new _ _ _
       intro q1
       (try simp only [World.size_alloc] at q1)
       clear hW
       refine (mild_walk _ _).mono ?_
       rintro e w1 hp
       obtain ⟨v, rfl, hp, hB⟩ := hp
       obtain ⟨r1, rfl, m1⟩ := hp
       have M1 := Lib.hid m1; clear m1
       replace q1 := q1.below hB
       replace HG : Hid (Below w.heap.size w w1) := Lib.hid (Grow.grow_trans HG.out hB)
       replace HZ : w.heap.size ≤ w1.heap.size := Below.size HG.out
       clear hB
       have c1 := q1.cell; have f1 := q1.frozen; have l1 := q1.lt
       have s1 := trivial)
    | (clear s1
       go_at_call 41
       refine Grow.seal_calls ?_
       intro W hW
       have HG2 : Hid (Below w.heap.size w W) := Lib.hid (by rw [hW.out]; (repeat (with_reducible first | exact Grow.grow_refl _ | refine Grow.grow_setCell ?_ ?_ _ | refine Grow.grow_alloc ?_ _ | refine Grow.grow_drewN ?_ _ | refine Grow.grow_over ?_ _ | refine Grow.grow_via (by assumption) ?_)) <;> omega)
       clear HG
       have HG := HG2
       clear HG2
       clear c1 f1
       apply Grow.have_known (W := W)
       · rw [hW.out]; apply Known.at q1; (repeat (with_reducible first | exact q1 | apply Known.same | apply Known.other | apply Known.alloc | apply Known.drewN)) <;> omega
       clear q1
       intro q1
       (try simp only [List.setIfInBounds_toArray, List.set_cons_zero, List.set_cons_succ] at q1)
       replace HZ : w.heap.size ≤ W.heap.size := Below.size HG.out
       clear hW
       refine (mild_walk _ _).mono ?_
       rintro e w1 hp
       obtain ⟨v, rfl, hp, hB⟩ := hp
       obtain ⟨r2, rfl, m2⟩ := hp
       have M2 := Lib.hid m2; clear m2
       replace q1 := q1.below hB
       replace HG : Hid (Below w.heap.size w w1) := Lib.hid (Grow.grow_trans HG.out hB)
       replace HZ : w.heap.size ≤ w1.heap.size := Below.size HG.out
       clear hB
       have c1 := q1.cell; have f1 := q1.frozen; have l1 := q1.lt
       have s2 := trivial)
    | (clear s2
       go_at_call 41
       refine Grow.seal_calls ?_
       intro W hW
       have HG2 : Hid (Below w.heap.size w W) := Lib.hid (by rw [hW.out]; (repeat (with_reducible first | exact Grow.grow_refl _ | refine Grow.grow_setCell ?_ ?_ _ | refine Grow.grow_alloc ?_ _ | refine Grow.grow_drewN ?_ _ | refine Grow.grow_over ?_ _ | refine Grow.grow_via (by assumption) ?_)) <;> omega)
       clear HG
       have HG := HG2
       clear HG2
       clear c1 f1
       apply Grow.have_known (W := W)
       · rw [hW.out]; apply Known.at q1; (repeat (with_reducible first | exact q1 | apply Known.same | apply Known.other | apply Known.alloc | apply Known.drewN)) <;> omega
       clear q1
       intro q1
       (try simp only [List.setIfInBounds_toArray, List.set_cons_zero, List.set_cons_succ] at q1)
       replace HZ : w.heap.size ≤ W.heap.size := Below.size HG.out
       clear hW
       refine (mild_walk _ _).mono ?_
       rintro e w1 hp
       obtain ⟨v, rfl, hp, hB⟩ := hp
       obtain ⟨r3, rfl, m3⟩ := hp
       have M3 := Lib.hid m3; clear m3
       replace q1 := q1.below hB
       replace HG : Hid (Below w.heap.size w w1) := Lib.hid (Grow.grow_trans HG.out hB)
       replace HZ : w.heap.size ≤ w1.heap.size := Below.size HG.out
       clear hB
       have c1 := q1.cell; have f1 := q1.frozen; have l1 := q1.lt
       have s3 := trivial))
  all_goals
    go_ret
    refine Post.mk (T := MildVPost ⟨fl a, fl b, fl c⟩) ⟨_, rfl, fun hr => ?_⟩ (by (repeat (with_reducible first | exact Grow.grow_refl _ | refine Grow.grow_setCell ?_ ?_ _ | refine Grow.grow_alloc ?_ _ | refine Grow.grow_drewN ?_ _ | refine Grow.grow_over ?_ _ | refine Grow.grow_via (by assumption) ?_)) <;> omega)
    have k1 := M1.out
    have k2 := M2.out
    have k3 := M3.out
    clear M1 M2 M3 HG HZ q1 c1 f1 l1
    revert hr k1 k2 k3
    generalize Fe.mildF _ = u1
    generalize Fe.mildF _ = u2
    generalize Fe.mildF _ = u3
    first
      | (simp; done)
      | (simp; intros; simp_all; done)
      | (simp_all; done)
      | grind
end Go.Proofs.Ytdnclgpjcgamgaa
