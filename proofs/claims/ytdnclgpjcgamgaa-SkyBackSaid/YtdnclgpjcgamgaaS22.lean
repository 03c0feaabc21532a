/- The walk of SkyBack: there and back. -/
import Derived.Test.YtdnclgpjcgamgaaS16
import Derived.Test.YtdnclgpjcgamgaaFe17
set_option linter.unusedSimpArgs false
set_option linter.unusedVariables false
namespace Go.Proofs.Ytdnclgpjcgamgaa
open Go.RowKit Go.Fl Go.Grow Go.Tr

theorem apart_walk (a b d : Int) (hs : sgd (nrm a - nrm b) = d) (hd : d = -1 ∨ d = 0 ∨ d = 1) (w : World) :
    Calls Try.prog 53 #[.int .i64 a, .int .i64 b] w (fun e w' => e = .returned (.int .i64 (if d = 0 then 0 else 1)) ∧ w = w') := by
  obtain ⟨t1, t2⟩ := nrm_in a
  obtain ⟨t3, t4⟩ := nrm_in b
  have NA := Lib.hid (norm_walk a w)
  have NB := Lib.hid (norm_walk b w)
  have SW := Lib.hid (signed_walk (nrm a - nrm b) w)
  rw [hs] at SW
  clear hs
  generalize nrm a = p at *
  generalize nrm b = q at *
  rcases hd with rfl | rfl | rfl
  all_goals
    go_enter Try.func53, Try.ntmps53
    go_wp2_with (first
      | (go_at_call 82; (with_reducible first | refine NA.out.mono ?_ | refine NB.out.mono ?_); rintro e w1 ⟨rfl, rfl⟩)
      | (go_at_call 80; (with_reducible refine SW.out.mono ?_); rintro e w1 ⟨rfl, rfl⟩))
    go_ret
    exact ⟨rfl, rfl⟩
set_option maxRecDepth 10000 in
set_option maxHeartbeats 4000000 in
theorem skyBack_far (x y L : Int) (hL : sgd y = L) (h : 259200000000 < L ∨ L < -259200000000) (w : World) :
    Calls Try.prog 11 #[.agg #[.int .i64 x, .int .i64 y]] w (Post (fun v => v = .bool true) w) := by
  have SW : Hid (∀ w, Calls Try.prog 52 #[.int .i64 y] w (fun e w' => e = .returned (.int .i64 L) ∧ w = w')) := Lib.hid (fun w => hL ▸ signedOf_walk y w)
  clear hL
  have s0 := trivial
  by_cases h1 : 259200000000 < L
  all_goals (try (have h2 : L < -259200000000 := by omega))
  all_goals
    clear h
    go_enter Try.func11, Try.ntmps11
    go_wp2_with (first
      | (clear s0
         go_at_call 45
         refine Grow.seal_calls ?_
         intro W hW
         have HG : Hid (Below w.heap.size w W) := Lib.hid (by rw [hW.out]; (repeat (with_reducible first | exact Grow.grow_refl _ | refine Grow.grow_setCell ?_ ?_ _ | refine Grow.grow_alloc ?_ _ | refine Grow.grow_drewN ?_ _ | refine Grow.grow_over ?_ _ | refine Grow.grow_via (by assumption) ?_)) <;> omega)
         have HZ : w.heap.size ≤ W.heap.size := Below.size HG.out
         apply Grow.have_known (W := W)
         · rw [hW.out]; first | exact Known.new _ _ _ | exact (Known.new _ _ _).alloc _
         intro q2
         (try simp only [World.size_alloc] at q2)
         clear hW
         refine (pointed_walk _).mono ?_
         rintro e w1 hp
         obtain ⟨v, rfl, hp, hB⟩ := hp
         subst hp
         replace q2 := q2.below hB
         replace HG : Hid (Below w.heap.size w w1) := Lib.hid (Grow.grow_trans HG.out hB)
         replace HZ : w.heap.size ≤ w1.heap.size := Below.size HG.out
         clear hB
         have c2 := q2.cell; have f2 := q2.frozen; have l2 := q2.lt
         have s1 := trivial)
      | (go_at_call 52; (with_reducible refine (SW.out _).mono ?_); rintro e w1 ⟨rfl, rfl⟩))
    go_ret
    exact Post.mk (T := fun v => v = _) (by first | rfl | (simp; done) | (simp; omega)) (by (repeat (with_reducible first | exact Grow.grow_refl _ | refine Grow.grow_setCell ?_ ?_ _ | refine Grow.grow_alloc ?_ _ | refine Grow.grow_drewN ?_ _ | refine Grow.grow_over ?_ _ | refine Grow.grow_via (by assumption) ?_)) <;> omega)

set_option maxRecDepth 10000 in
set_option maxHeartbeats 4000000 in
theorem skyBack_near (x y L a b d e0 : Int) (hL : sgd y = L) (h1 : L ≤ 259200000000) (h2 : -259200000000 ≤ L) (hpl : plc (pnt x y) = ((a, b), true))
    (hb : sgd (nrm b - nrm L) = e0) (he : e0 = -1 ∨ e0 = 0 ∨ e0 = 1) (ha : sgd (nrm a - nrm x) = d) (hd : d = -1 ∨ d = 0 ∨ d = 1) (w : World) :
    Calls Try.prog 11 #[.agg #[.int .i64 x, .int .i64 y]] w (Post (fun v => v = .bool true) w) := by
  have SW : Hid (∀ w, Calls Try.prog 52 #[.int .i64 y] w (fun e w' => e = .returned (.int .i64 L) ∧ w = w')) := Lib.hid (fun w => hL ▸ signedOf_walk y w)
  have AB : Hid (∀ w, Calls Try.prog 53 #[.int .i64 b, .int .i64 L] w (fun e w' => (∃ k, e = .returned (.int .i64 k) ∧ k ≤ 1) ∧ w = w')) := Lib.hid (fun w => (apart_walk b L e0 hb he w).mono fun e w' h => ⟨⟨_, h.1, by split <;> omega⟩, h.2⟩)
  have AX : Hid (∀ w, Calls Try.prog 53 #[.int .i64 a, .int .i64 x] w (fun e w' => (∃ k, e = .returned (.int .i64 k) ∧ k ≤ 1) ∧ w = w')) := Lib.hid (fun w => (apart_walk a x d ha hd w).mono fun e w' h => ⟨⟨_, h.1, by split <;> omega⟩, h.2⟩)
  have HPL := Lib.hid hpl
  clear hpl hL hb he ha hd
  have s0 := trivial
  go_enter Try.func11, Try.ntmps11
  go_wp2_with (first
    | (clear s0
       go_at_call 45
       refine Grow.seal_calls ?_
       intro W hW
       have HG : Hid (Below w.heap.size w W) := Lib.hid (by rw [hW.out]; (repeat (with_reducible first | exact Grow.grow_refl _ | refine Grow.grow_setCell ?_ ?_ _ | refine Grow.grow_alloc ?_ _ | refine Grow.grow_drewN ?_ _ | refine Grow.grow_over ?_ _ | refine Grow.grow_via (by assumption) ?_)) <;> omega)
       have HZ : w.heap.size ≤ W.heap.size := Below.size HG.out
       apply Grow.have_known (W := W)
       · rw [hW.out]; first | exact Known.new _ _ _ | exact (Known.new _ _ _).alloc _
       intro q2
       (try simp only [World.size_alloc] at q2)
       clear hW
       refine (pointed_walk _).mono ?_
       rintro e w1 hp
       obtain ⟨v, rfl, hp, hB⟩ := hp
       subst hp
       replace q2 := q2.below hB
       replace HG : Hid (Below w.heap.size w w1) := Lib.hid (Grow.grow_trans HG.out hB)
       replace HZ : w.heap.size ≤ w1.heap.size := Below.size HG.out
       clear hB
       have c2 := q2.cell; have f2 := q2.frozen; have l2 := q2.lt
       have s1 := trivial)
    | (go_at_call 52; (with_reducible refine (SW.out _).mono ?_); rintro e w1 ⟨rfl, rfl⟩)
    | (clear s1
       go_at_call 38
       refine Grow.seal_calls ?_
       intro W hW
       have HG2 : Hid (Below w.heap.size w W) := Lib.hid (by rw [hW.out]; (repeat (with_reducible first | exact Grow.grow_refl _ | refine Grow.grow_setCell ?_ ?_ _ | refine Grow.grow_alloc ?_ _ | refine Grow.grow_drewN ?_ _ | refine Grow.grow_over ?_ _ | refine Grow.grow_via (by assumption) ?_)) <;> omega)
       clear HG
       have HG := HG2
       clear HG2
       clear c2 f2
       apply Grow.have_known (W := W)
       · rw [hW.out]; apply Known.at q2; (repeat (with_reducible first | exact q2 | apply Known.same | apply Known.other | apply Known.alloc | apply Known.drewN)) <;> omega
       clear q2
       intro q2
       (try simp only [List.setIfInBounds_toArray, List.set_cons_zero, List.set_cons_succ] at q2)
       replace HZ : w.heap.size ≤ W.heap.size := Below.size HG.out
       clear hW
       refine (place_walk _ _ _).mono ?_
       rintro e w1 hp
       obtain ⟨v, rfl, hp, hB⟩ := hp
       subst hp
       replace q2 := q2.below hB
       replace HG : Hid (Below w.heap.size w w1) := Lib.hid (Grow.grow_trans HG.out hB)
       replace HZ : w.heap.size ≤ w1.heap.size := Below.size HG.out
       clear hB
       have c2 := q2.cell; have f2 := q2.frozen; have l2 := q2.lt
       have s2 := trivial)
    | (clear s2
       go_at_call 46
       refine Grow.seal_calls ?_
       intro W hW
       have HG2 : Hid (Below w.heap.size w W) := Lib.hid (by rw [hW.out]; (repeat (with_reducible first | exact Grow.grow_refl _ | refine Grow.grow_setCell ?_ ?_ _ | refine Grow.grow_alloc ?_ _ | refine Grow.grow_drewN ?_ _ | refine Grow.grow_over ?_ _ | refine Grow.grow_via (by assumption) ?_)) <;> omega)
       clear HG
       have HG := HG2
       clear HG2
       clear c2 f2
       apply Grow.have_known (W := W)
       · rw [hW.out]; apply Known.at q2; (repeat (with_reducible first | exact q2 | apply Known.same | apply Known.other | apply Known.alloc | apply Known.drewN)) <;> omega
       clear q2
       intro q2
       (try simp only [List.setIfInBounds_toArray, List.set_cons_zero, List.set_cons_succ] at q2)
       replace HZ : w.heap.size ≤ W.heap.size := Below.size HG.out
       clear hW
       refine (point_walk _ _ _).mono ?_
       rintro e w1 hp
       obtain ⟨v, rfl, hp, hB⟩ := hp
       obtain ⟨b1, b2, b3, rfl, g1, g2, g3⟩ := hp; have GG := Lib.hid (show V3.mk (fl b1) (fl b2) (fl b3) = pnt x y by rw [g1, g2, g3]); clear g1 g2 g3
       replace q2 := q2.below hB
       replace HG : Hid (Below w.heap.size w w1) := Lib.hid (Grow.grow_trans HG.out hB)
       replace HZ : w.heap.size ≤ w1.heap.size := Below.size HG.out
       clear hB
       have c2 := q2.cell; have f2 := q2.frozen; have l2 := q2.lt
       have s3 := trivial)
    | (clear s3
       go_at_call 48
       refine Grow.seal_calls ?_
       intro W hW
       have HG2 : Hid (Below w.heap.size w W) := Lib.hid (by rw [hW.out]; (repeat (with_reducible first | exact Grow.grow_refl _ | refine Grow.grow_setCell ?_ ?_ _ | refine Grow.grow_alloc ?_ _ | refine Grow.grow_drewN ?_ _ | refine Grow.grow_over ?_ _ | refine Grow.grow_via (by assumption) ?_)) <;> omega)
       clear HG
       have HG := HG2
       clear HG2
       clear c2 f2
       apply Grow.have_known (W := W)
       · rw [hW.out]; apply Known.at q2; (repeat (with_reducible first | exact q2 | apply Known.same | apply Known.other | apply Known.alloc | apply Known.drewN)) <;> omega
       clear q2
       intro q2
       (try simp only [List.setIfInBounds_toArray, List.set_cons_zero, List.set_cons_succ] at q2)
       replace HZ : w.heap.size ≤ W.heap.size := Below.size HG.out
       clear hW
       refine (where_at _ _ _ _ GG.out _).mono ?_
       rintro e w1 hp
       obtain ⟨v, rfl, hp, hB⟩ := hp
       unfold IsPl at hp; rw [HPL.out] at hp; subst hp
       replace q2 := q2.below hB
       replace HG : Hid (Below w.heap.size w w1) := Lib.hid (Grow.grow_trans HG.out hB)
       replace HZ : w.heap.size ≤ w1.heap.size := Below.size HG.out
       clear hB
       have c2 := q2.cell; have f2 := q2.frozen; have l2 := q2.lt
       have s4 := trivial)
    | (clear s4
       go_at_call 53
       (with_reducible refine (AB.out _).mono ?_)
       rintro e w1 ⟨⟨k1, rfl, hk1⟩, rfl⟩
       have s5 := trivial)
    | (clear s5
       go_at_call 53
       (with_reducible refine (AX.out _).mono ?_)
       rintro e w1 ⟨⟨k2, rfl, hk2⟩, rfl⟩))
  go_ret
  exact Post.mk (T := fun v => v = _) (by first | rfl | (simp; done) | (simp; omega)) (by (repeat (with_reducible first | exact Grow.grow_refl _ | refine Grow.grow_setCell ?_ ?_ _ | refine Grow.grow_alloc ?_ _ | refine Grow.grow_drewN ?_ _ | refine Grow.grow_over ?_ _ | refine Grow.grow_via (by assumption) ?_)) <;> omega)
theorem nrm_sgd (y : Int) : nrm (sgd y) = nrm y := by unfold sgd nrm; split <;> omega
theorem pnt_sgd (x y : Int) : pnt x y = pnt x (sgd y) := by
  have h := nrm_sgd y
  have hq : qrt (sgd y) = qrt y := by unfold qrt; rw [h]
  have hr : xr (sgd y) = xr y := by unfold xr rst; rw [hq, h]
  unfold pnt cosA sinA
  rw [hq, hr]
/-- The law's walk: SkyBack. -/
theorem skyBack_walk (x y : Int) (w : World) : Calls Try.prog 11 #[.agg #[.int .i64 x, .int .i64 y]] w (Post (fun v => v = .bool true) w) := by
  obtain ⟨L, hL⟩ : ∃ L, sgd y = L := ⟨_, rfl⟩
  by_cases h : 259200000000 < L ∨ L < -259200000000
  · exact skyBack_far x y L hL h w
  · obtain ⟨d, e, hp, hd, he⟩ := Fe.place_back (lon := x) (lat := L) (by omega) (by omega)
    rw [← hL, ← pnt_sgd, hL] at hp
    exact skyBack_near x y L _ _ _ _ hL (by omega) (by omega) hp (Fe.apart_lat L e he) he (Fe.apart_lon x d hd) hd w
end Go.Proofs.Ytdnclgpjcgamgaa
