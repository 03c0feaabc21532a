/- The walks of the angles: norms, parts, sines, cosines. -/
import Derived.Test.YtaakbajhbmbhcaaDoorFs1
import Derived.Test.YtaakbajhbmbhcaaDoorTr2
import Derived.LoopN
import Derived.IntWalk
set_option linter.unusedSimpArgs false
set_option linter.unusedVariables false
namespace Go.Proofs.YtaakbajhbmbhcaaDoor
open Go.RowKit Go.Fl Go.Grow Go.Tr

theorem norm_walk (a : Int) (w : World) : Calls Tryd.prog 74 #[.int .i64 a] w (fun e w' => e = .returned (.int .i64 (nrm a)) ∧ w = w') := by
  obtain ⟨t1, t2⟩ := tmod_in a
  have hn := nrm_tmod a
  by_cases h : a.tmod 1296000000000 < 0
  · rw [if_pos h] at hn
    have HN := Lib.hid hn
    clear hn
    go_enter Tryd.func74, Tryd.ntmps74
    go_wp2
    go_ret
    exact ⟨by rw [HN.out]; rfl, rfl⟩
  · rw [if_neg h] at hn
    have HN := Lib.hid hn
    clear hn
    go_enter Tryd.func74, Tryd.ntmps74
    go_wp2
    go_ret
    exact ⟨by rw [HN.out]; rfl, rfl⟩

theorem normOf_walk (a : Int) (w : World) : Calls Tryd.prog 72 #[.int .i64 a] w (fun e w' => e = .returned (.int .i64 (nrm a)) ∧ w = w') := by
  obtain ⟨t1, t2⟩ := tmod_in a
  have hn := nrm_tmod a
  by_cases h : a.tmod 1296000000000 < 0
  · rw [if_pos h] at hn
    have HN := Lib.hid hn
    clear hn
    go_enter Tryd.func72, Tryd.ntmps72
    go_wp2
    go_ret
    exact ⟨by rw [HN.out]; rfl, rfl⟩
  · rw [if_neg h] at hn
    have HN := Lib.hid hn
    clear hn
    go_enter Tryd.func72, Tryd.ntmps72
    go_wp2
    go_ret
    exact ⟨by rw [HN.out]; rfl, rfl⟩

def IsP (a : Int) (v : Value) : Prop := ∃ b1 b2, v = .tuple #[.int .i64 (qrt a % 4), .float .f64 b1, .float .f64 b2] ∧ fl b1 = xr a ∧ fl b2 = fmul (xr a) (xr a)
set_option maxHeartbeats 1000000 in
theorem parts_walk (a : Int) (w : World) : Calls Tryd.prog 62 #[.int .i64 a] w (PostD (IsP a) w) := by
  obtain ⟨t1, t2⟩ := nrm_in a
  have q1 := qrt_lo a
  have q2 := qrt_hi a
  have hq : qrt a = (nrm a + 162000000000) / 324000000000 := rfl
  have hx : xr a = fmul (ofI (nrm a - qrt a * 324000000000)) (fl 4437543736006956352) := rfl
  have NW := Lib.hid (norm_walk a w)
  unfold IsP
  rw [hx, hq]
  rw [hq] at q1 q2
  clear hx hq
  generalize nrm a = r at *
  go_enter Tryd.func62, Tryd.ntmps62
  go_wp2_with (first
    | (go_at_call 74; (with_reducible refine NW.out.mono ?_); rintro e w1 ⟨rfl, rfl⟩)
    | (refine wpList_arith rfl rfl (by rfl) rfl rfl ?_; intro b1 n1 H1))
  apply bodyPost_ret
  · simp [results, Tryd.results62, go_sem]; rfl
  · rfl
  · refine PostD.mk ⟨_, _, rfl, ?_, ?_⟩
    · simp only [Hid, fop] at *
      simp only [ofI, *]
    · simp only [Hid, fop] at *
      simp only [ofI, *]

set_option maxRecDepth 10000 in
set_option maxHeartbeats 4000000 in
theorem sine_walk (p1 p2 : Nat) (w : World) :
    Calls Tryd.prog 63 #[.float .f64 p1, .float .f64 p2] w (Post (IsF (sn (fl p1) (fl p2))) w) := by
  go_enter Tryd.func63, Tryd.ntmps63
  go_wp2
  refine wp_loop_rounds 8 ?_
  repeat (rw [rounds_succ]; go_wp2_with ((refine wpList_arith rfl rfl (by rfl) rfl rfl ?_; intro b1 n1 H1)))
  go_ret
  refine Post.mk ⟨_, rfl, ?_⟩ ?_
  · simp only [Hid, fop] at *
    simp only [sn, cs, ser, hor, oddC, evenC, *]
  · (repeat (with_reducible first
      | exact Grow.grow_refl _
      | refine Grow.grow_setCell ?_ ?_ _
      | refine Grow.grow_alloc ?_ _
      | refine Grow.grow_drewN ?_ _
      | refine Grow.grow_over ?_ _
      | refine Grow.grow_via (by assumption) ?_)) <;> omega

set_option maxRecDepth 10000 in
set_option maxHeartbeats 4000000 in
theorem cosine_walk (p1 p2 : Nat) (w : World) :
    Calls Tryd.prog 64 #[.float .f64 p2] w (Post (IsF (cs (fl p2))) w) := by
  go_enter Tryd.func64, Tryd.ntmps64
  go_wp2
  refine wp_loop_rounds 8 ?_
  repeat (rw [rounds_succ]; go_wp2_with ((refine wpList_arith rfl rfl (by rfl) rfl rfl ?_; intro b1 n1 H1)))
  go_ret
  refine Post.mk ⟨_, rfl, ?_⟩ ?_
  · simp only [Hid, fop] at *
    simp only [sn, cs, ser, hor, oddC, evenC, *]
  · (repeat (with_reducible first
      | exact Grow.grow_refl _
      | refine Grow.grow_setCell ?_ ?_ _
      | refine Grow.grow_alloc ?_ _
      | refine Grow.grow_drewN ?_ _
      | refine Grow.grow_over ?_ _
      | refine Grow.grow_via (by assumption) ?_)) <;> omega

theorem sin_walk (a : Int) (w : World) : Calls Tryd.prog 51 #[.int .i64 a] w (Post (IsF (sinA a)) w) := by
  have PW := Lib.hid (parts_walk a w)
  rcases qrt_four a with hq | hq | hq | hq
  all_goals
    unfold IsP at PW
    rw [hq] at PW
    have HQ := Lib.hid hq
    clear hq
    go_enter Tryd.func51, Tryd.ntmps51
    go_wp2_with (first
      | (go_at_call 62; (with_reducible refine PW.out.mono ?_); rintro e w1 ⟨v, rfl, ⟨b1, b2, rfl, g1, g2⟩, n1, rfl⟩; have G1 := Lib.hid g1; have G2 := Lib.hid g2; clear g1 g2)
      | (go_at_call 63; refine (sine_walk _ _ _).mono ?_; rintro e w1 ⟨v, rfl, ⟨b3, rfl, g3⟩, hB⟩; have G3 := Lib.hid g3; have HB := Lib.hid hB; clear g3 hB)
      | (go_at_call 64; refine (cosine_walk 0 _ _).mono ?_; rintro e w1 ⟨v, rfl, ⟨b3, rfl, g3⟩, hB⟩; have G3 := Lib.hid g3; have HB := Lib.hid hB; clear g3 hB))
    go_ret
    refine Post.mk ⟨_, rfl, ?_⟩ ?_
    · simp [sinA, quad, HQ.out, fl_neg, G3.out, G1.out, G2.out]
    · (repeat (with_reducible first
        | exact Grow.grow_refl _
        | refine Grow.grow_setCell ?_ ?_ _
        | refine Grow.grow_alloc ?_ _
        | refine Grow.grow_drewN ?_ _
        | refine Grow.grow_over ?_ _
        | refine Grow.grow_via (by assumption) ?_)) <;> omega

theorem cos_walk (a : Int) (w : World) : Calls Tryd.prog 52 #[.int .i64 a] w (Post (IsF (cosA a)) w) := by
  have PW := Lib.hid (parts_walk a w)
  rcases qrt_four a with hq | hq | hq | hq
  all_goals
    unfold IsP at PW
    rw [hq] at PW
    have HQ := Lib.hid hq
    clear hq
    go_enter Tryd.func52, Tryd.ntmps52
    go_wp2_with (first
      | (go_at_call 62; (with_reducible refine PW.out.mono ?_); rintro e w1 ⟨v, rfl, ⟨b1, b2, rfl, g1, g2⟩, n1, rfl⟩; have G1 := Lib.hid g1; have G2 := Lib.hid g2; clear g1 g2)
      | (go_at_call 63; refine (sine_walk _ _ _).mono ?_; rintro e w1 ⟨v, rfl, ⟨b3, rfl, g3⟩, hB⟩; have G3 := Lib.hid g3; have HB := Lib.hid hB; clear g3 hB)
      | (go_at_call 64; refine (cosine_walk 0 _ _).mono ?_; rintro e w1 ⟨v, rfl, ⟨b3, rfl, g3⟩, hB⟩; have G3 := Lib.hid g3; have HB := Lib.hid hB; clear g3 hB))
    go_ret
    refine Post.mk ⟨_, rfl, ?_⟩ ?_
    · simp [cosA, quad, HQ.out, fl_neg, G3.out, G1.out, G2.out]
    · (repeat (with_reducible first
        | exact Grow.grow_refl _
        | refine Grow.grow_setCell ?_ ?_ _
        | refine Grow.grow_alloc ?_ _
        | refine Grow.grow_drewN ?_ _
        | refine Grow.grow_over ?_ _
        | refine Grow.grow_via (by assumption) ?_)) <;> omega

end Go.Proofs.YtaakbajhbmbhcaaDoor
