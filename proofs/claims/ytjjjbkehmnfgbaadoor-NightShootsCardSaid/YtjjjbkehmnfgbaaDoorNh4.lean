/- The night's house: the law's instruments, made of tools. -/
import Derived.Test.YtjjjbkehmnfgbaaDoorNh3
import Derived.Deep.DeepCutAuto
import Derived.Deep.CutBlock
import Derived.Outline
set_option linter.unusedSimpArgs false
set_option linter.unusedVariables false
namespace Go.Proofs.YtjjjbkehmnfgbaaDoor
open Go.RowKit Go.Grow Go.Hs

def ToolPost (t : Tl) (w : World) (e : Ending) (w' : World) : Prop := ∃ x, e = .returned (.tuple #[x, .string (kindS t.kind)]) ∧ InsAt w' t x ∧ Below w.heap.size w w'
set_option maxRecDepth 100000 in
set_option maxHeartbeats 16000000 in
theorem tool_walk (t : Tl) (w : World) (hl : t.counts.length ≤ 1000000) (hl2 : t.opens.length ≤ 1000000) (hin : TlIn w t) :
    Calls Tryd.prog 32 #[tlV t] w fun e w' => ToolPost t w e w' := by
  obtain ⟨nm, kd, wi, hg, cr, cc, cs, sr, sc, os, al⟩ := t
  obtain ⟨h1, h2⟩ := hin
  simp only at h1 h2 hl hl2
  have BW := Lib.hid (grow_alloc (grow_refl w) (.cells #[.string nm, .int .i64 kd, .int .i64 wi, .int .i64 hg, .slice cr cs.length cc, .slice sr os.length sc, .int .i64 al] 80))
  have KB := Lib.hid (Known.new w #[.string nm, .int .i64 kd, .int .i64 wi, .int .i64 hg, .slice cr cs.length cc, .slice sr os.length sc, .int .i64 al] 80)
  have ST := Lib.hid (fun X (hX : Below w.heap.size w X) => still_walk wi hg cr cs cc X hl (h1.below hX))
  have SP := Lib.hid (fun X (hX : Below w.heap.size w X) => spans_walk sr os sc X (by omega) (h2.below hX))
  have HO := Lib.hid (fun r c X (hX : SpAt X r os) => hours_walk r os c X hl2 hX)
  have RO := Lib.hid (fun r c X (hX : SpAt X r os) => roof_walk r os c al 0 X hl2 hX)
  have FX := Lib.hid (fun X => fixed_walk al 0 X)
  clear h1 h2
  unfold tlV
  simp only
  by_cases k1 : kd = 1
  · subst k1
    go_enter Tryd.func32, Tryd.ntmps32
    go_wp2_with (go_at_call 64; (with_reducible refine (ST.out _ BW.out).mono ?_); rintro e1 w1 ⟨r1, c1, rfl, hr, hb⟩; have H1 := Lib.hid hr; have B1 := Lib.hid (grow_trans BW.out hb); clear hr hb)
    go_ret2
    exact ⟨_, rfl, .still (t := ⟨nm, 1, wi, hg, cr, cc, cs, sr, sc, os, al⟩) rfl r1 c1 H1.out, B1.out⟩
  · by_cases k2 : kd = 2
    · subst k2
      go_enter Tryd.func32, Tryd.ntmps32
      go_wp2_with (first
        | (go_at_call 41; (with_reducible refine (SP.out _ BW.out).mono ?_); rintro e1 w1 ⟨v1, rfl, ho, hb⟩; obtain ⟨r1, c1, rfl, hr⟩ := sp_of_owns ho; have H1 := Lib.hid hr; have B1 := Lib.hid (grow_trans BW.out hb); clear hr hb ho)
        | (go_at_call 65; (with_reducible refine (HO.out _ _ _ H1.out).mono ?_); rintro e2 w2 ⟨r2, c2, rfl, hr, hb⟩; have H2 := Lib.hid hr; have B2 := Lib.hid (grow_trans B1.out hb); clear hr hb))
      go_ret2
      exact ⟨_, rfl, .hours (t := ⟨nm, 2, wi, hg, cr, cc, cs, sr, sc, os, al⟩) rfl r2 c2 H2.out, B2.out⟩
    · by_cases k3 : kd = 3
      · subst k3
        go_enter Tryd.func32, Tryd.ntmps32
        go_wp2_with (go_at_call 30; (with_reducible refine (FX.out _).mono ?_); rintro e1 w1 ⟨rfl, rfl⟩)
        go_ret2
        exact ⟨_, rfl, .fixed (t := ⟨nm, 3, wi, hg, cr, cc, cs, sr, sc, os, al⟩) rfl, BW.out⟩
      · by_cases k4 : kd = 4
        · subst k4
          go_enter Tryd.func32, Tryd.ntmps32
          go_upto_region 9 with (fail)
          refine Grow.wp_region_plan (.quiet [0, 3] (.reads [1] (.two 2 (.tail [4, 5, 6, 7]) 4 (.tail [2, 5, 6, 7])))) (by kernel_rfl) (by kernel_rfl) (by kernel_rfl) (by kernel_rfl) ?_ ?_
          · intro c aa d v ww h
            first
              | exact Grow.bodyPost_blind h
              | (simp (config := {zetaDelta := true}) only [Exit.then, Exit.inBlock] at h ⊢; first | exact Grow.bodyPost_blind h | exact h)
          simp only [Grow.Plan.wp, Grow.pick, List.getElem?_cons_zero, List.getElem?_cons_succ, List.cons_append, List.nil_append]
          repeat (go_big_quiet_step (fail))
          refine wpQuiet_nil ?_
          repeat (go_big_quiet_step (fail))
          refine wpQuiet_nil ?_
          unfold oneK
          refine ⟨?_, ?_⟩
          · go_wp2_with (first
              | (go_at_call 41; (with_reducible refine (SP.out _ (grow_drew BW.out)).mono ?_); rintro e1 w1 ⟨v1, rfl, ho, hb⟩; obtain ⟨r1, c1, rfl, hr⟩ := sp_of_owns ho; have H1 := Lib.hid hr; have B1 := Lib.hid (grow_trans (grow_drew BW.out) hb); have K1 := Lib.hid (KB.out.drew.below hb); clear hr hb ho; have a0 := K1.out.cell 6; have la := K1.out.lt; simp only [List.getElem?_toArray, List.getElem?_cons_zero, List.getElem?_cons_succ] at a0)
              | (go_at_call 66; (with_reducible refine (RO.out _ _ _ H1.out).mono ?_); rintro e2 w2 ⟨r2, c2, rfl, hr, hb⟩; have H2 := Lib.hid hr; have B2 := Lib.hid (grow_trans B1.out hb); clear hr hb))
            go_ret2
            exact ⟨_, rfl, .roof (t := ⟨nm, 4, wi, hg, cr, cc, cs, sr, sc, os, al⟩) rfl r2 c2 H2.out, B2.out⟩
          · go_wp2_with (first
              | (go_at_call 41; (with_reducible refine (SP.out _ (grow_drew BW.out)).mono ?_); rintro e1 w1 ⟨v1, rfl, ho, hb⟩; obtain ⟨r1, c1, rfl, hr⟩ := sp_of_owns ho; have H1 := Lib.hid hr; have B1 := Lib.hid (grow_trans (grow_drew BW.out) hb); have K1 := Lib.hid (KB.out.drew.below hb); clear hr hb ho; have a0 := K1.out.cell 6; have la := K1.out.lt; simp only [List.getElem?_toArray, List.getElem?_cons_zero, List.getElem?_cons_succ] at a0)
              | (go_at_call 66; (with_reducible refine (RO.out _ _ _ H1.out).mono ?_); rintro e2 w2 ⟨r2, c2, rfl, hr, hb⟩; have H2 := Lib.hid hr; have B2 := Lib.hid (grow_trans B1.out hb); clear hr hb))
            go_ret2
            exact ⟨_, rfl, .roof (t := ⟨nm, 4, wi, hg, cr, cc, cs, sr, sc, os, al⟩) rfl r2 c2 H2.out, B2.out⟩
        · have d1 : decide (kd = 1) = false := decide_eq_false k1
          have d2 : decide (kd = 2) = false := decide_eq_false k2
          have d3 : decide (kd = 3) = false := decide_eq_false k3
          have d4 : decide (kd = 4) = false := decide_eq_false k4
          have HK := Lib.hid (show kindS kd = .empty by unfold kindS; rw [if_neg k1, if_neg k2, if_neg k3, if_neg k4])
          have HN := Lib.hid (show kd < 1 ∨ 4 < kd by omega)
          have g1 := k1
          go_enter Tryd.func32, Tryd.ntmps32
          go_wp2
          go_ret2
          exact ⟨_, by rw [HK.out]; rfl, .none (t := ⟨nm, kd, wi, hg, cr, cc, cs, sr, sc, os, al⟩) HN.out, BW.out⟩
end Go.Proofs.YtjjjbkehmnfgbaaDoor
