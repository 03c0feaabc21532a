/- Shapes of three points: the law. -/
import Derived.Test.YtlnbeildplafbaaGreatDoorPs16
import Derived.Test.YtlnbeildplafbaaGreatDoorPs13
import Derived.Test.YtlnbeildplafbaaGreatDoorCs5
import Derived.Test.YtlnbeildplafbaaGreatDoorPlk
import Derived.Deep.RegionHeld3
import Derived.ProofKit
import Derived.OpenShut
import Derived.Deep.Slices
import Derived.Deep.Fields
import Derived.SizedLaws
set_option linter.unusedSimpArgs false
set_option linter.unusedVariables false
namespace Go.Proofs.YtlnbeildplafbaaGreatDoor
open Go.RowKit Go.Grow Go.Bg Go.Atl Go.Pl Go.Maps

theorem of_rank (p q t : Dr) : ∃ (L M S H : Int) (i j n : Nat) (hz : Bool), (∀ X, Calls Tryz.prog 7 #[drV p, drV q, drV t] X fun e w' => e = .returned (.tuple #[shV L M S H, .bool hz]) ∧ Below X.heap.size X w') ∧
    ∀ b o len cap X, 3 ≤ len → Row9 X b o p q t → Calls Tryz.prog 8 #[.slice (some ⟨b, o, none⟩) len cap, .int .i64 0, .int .i64 1, .int .i64 2] X fun e w' => e = .returned (.tuple #[rkV L M S H i j n, .bool hz]) ∧ Below X.heap.size X w' := by
  cases h : hasZ p q t
  · exact ⟨0, 0, 0, 0, 0, 0, 0, false, fun X => of_no p q t h X, fun b o len cap X hl hr => rank_no p q t b o len cap hl h X hr⟩
  · exact ⟨longZ p q t, midZ p q t, shortZ p q t, handZ p q t, _, _, _, true, fun X => of_good p q t h X, fun b o len cap X hl hr => rank_good p q t b o len cap hl (hasZ_iff.1 h).1 (hasZ_iff.1 h).2.1 (hasZ_iff.1 h).2.2.1 (hasZ_iff.1 h).2.2.2 X hr⟩
theorem alike_all (a : Nat → Addr) (l m s h l2 m2 s2 h2 k : Int) : ∃ (rb : Bool) (ev : Value), (∀ X, Sen a [5] X → Calls Tryz.prog 10 #[shV l m s h, shV l2 m2 s2 h2, .int .i64 k] X fun e w' => e = .returned (.tuple #[.bool rb, ev]) ∧ Below X.heap.size X w') ∧
    ((validB l m s h = false ∧ rb = false ∧ ev = errV a 5) ∨ (validB l m s h = true ∧ validB l2 m2 s2 h2 = false ∧ rb = false ∧ ev = errV a 5) ∨ (validB l m s h = true ∧ validB l2 m2 s2 h2 = true ∧ k < 0 ∧ rb = false ∧ ev = errV a 5) ∨ (validB l m s h = true ∧ validB l2 m2 s2 h2 = true ∧ 1000 < k ∧ rb = false ∧ ev = errV a 5) ∨ (validB l m s h = true ∧ validB l2 m2 s2 h2 = true ∧ (0 ≤ k ∧ k ≤ 1000) ∧ rb = alikeB l m s h l2 m2 s2 h2 k ∧ ev = .nilIface)) := by
  by_cases k1 : k < 0
  · refine ⟨false, errV a 5, fun X hs => alike_neg a l m s h l2 m2 s2 h2 k X k1 hs, ?_⟩
    cases hv : validB l m s h
    · exact .inl ⟨rfl, rfl, rfl⟩
    · cases hv2 : validB l2 m2 s2 h2
      · exact .inr (.inl ⟨rfl, rfl, rfl, rfl⟩)
      · exact .inr (.inr (.inl ⟨rfl, rfl, k1, rfl, rfl⟩))
  by_cases k2 : 1000 < k
  · refine ⟨false, errV a 5, fun X hs => alike_much a l m s h l2 m2 s2 h2 k X k2 hs, ?_⟩
    cases hv : validB l m s h
    · exact .inl ⟨rfl, rfl, rfl⟩
    · cases hv2 : validB l2 m2 s2 h2
      · exact .inr (.inl ⟨rfl, rfl, rfl, rfl⟩)
      · exact .inr (.inr (.inr (.inl ⟨rfl, rfl, k2, rfl, rfl⟩)))
  have hk : 0 ≤ k ∧ k ≤ 1000 := by omega
  cases hv : validB l m s h
  · exact ⟨false, errV a 5, fun X hs => alike_one a l m s h l2 m2 s2 h2 k X hk hv hs, .inl ⟨rfl, rfl, rfl⟩⟩
  cases hv2 : validB l2 m2 s2 h2
  · exact ⟨false, errV a 5, fun X hs => alike_two a l m s h l2 m2 s2 h2 k X hk hv hv2 hs, .inr (.inl ⟨rfl, rfl, rfl, rfl⟩)⟩
  refine ⟨_, .nilIface, fun X hs => ?_, .inr (.inr (.inr (.inr ⟨rfl, rfl, hk, rfl, rfl⟩)))⟩
  by_cases hh : h = h2
  · cases q1 : nearB m m2 l2 l k
    · exact alike_far1 a l m s h l2 m2 s2 h2 k X hk hv hv2 hh q1
    · cases q2 : nearB s s2 l2 l k
      · exact alike_far2 a l m s h l2 m2 s2 h2 k X hk hv hv2 hh q1 q2
      · exact alike_near a l m s h l2 m2 s2 h2 k X hk hv hv2 hh q1 q2
  · exact alike_hand a l m s h l2 m2 s2 h2 k X hk hv hv2 hh
set_option maxRecDepth 100000 in
set_option maxHeartbeats 16000000 in
theorem shapes_few (r : Option Addr) (len cap : Nat) (l m s h l2 m2 s2 h2 k : Int) (w : World) (hlen : len < 3) :
    Calls Tryz.prog 3 #[.slice r len cap, shV l m s h, shV l2 m2 s2 h2, .int .i64 k] w fun e w' => e = .returned (.bool true) ∧ Below w.heap.size w w' := by
  have SD := Lib.hid (fun X => shaped_walk X)
  have d0 : (len : Int) < 3 := by omega
  clear hlen
  unfold shV
  go_enter Tryz.func3, Tryz.ntmps3
  go_wp2_with (go_at_call 5; go_loud ((with_reducible refine (SD.out _).mono ?_); rintro e w1 ⟨rfl, hb⟩; have B1 := Lib.hid (grow_trans (by (repeat (with_reducible first | exact grow_refl _ | refine Grow.grow_drewN ?_ _ | refine Grow.grow_drew ?_ | refine Grow.grow_alloc ?_ _))) hb : Below w.heap.size w w1); clear hb))
  go_ret
  exact ⟨rfl, B1.out⟩
theorem row_cell {X : World} {b o : Nat} {p q t : Dr} (h : Row9 X b o p q t) (i : Nat) (hi : i < 3) : X.cell? ⟨b, o + i * 3, none⟩ = some (.int .i64 (if i = 0 then p.x else if i = 1 then q.x else t.x)) ∧ X.cell? ⟨b, o + i * 3 + 1, none⟩ = some (.int .i64 (if i = 0 then p.y else if i = 1 then q.y else t.y)) := by
  match i, hi with
  | 0, _ => exact ⟨h.c0, h.c1⟩
  | 1, _ => exact ⟨h.c3, h.c4⟩
  | 2, _ => exact ⟨h.c6, h.c7⟩
set_option maxRecDepth 100000 in
set_option maxHeartbeats 16000000 in
theorem shapes_row (a : Nat → Addr) (p q t : Dr) (b o len cap : Nat) (l m s h l2 m2 s2 h2 k : Int) (w : World) (hlen : 3 ≤ len) (hll : len ≤ 9223372036854775807) (hs : Sen a allK w) (hh : Hand w) (hne : ∀ j ∈ allK, ∀ k ∈ allK, j ≠ k → a j ≠ a k) (hr : Row9 w b o p q t)  :
    Calls Tryz.prog 3 #[.slice (some ⟨b, o, none⟩) len cap, shV l m s h, shV l2 m2 s2 h2, .int .i64 k] w fun e w' => e = .returned (.bool true) ∧ Below w.heap.size w w' := by
  obtain ⟨L, M, S0, H, i1, i2, i3, hz, of, rk⟩ := of_rank p q t
  have OF := Lib.hid of
  have RK := Lib.hid rk
  have SD := Lib.hid (fun X => shaped_walk X)
  have HU := Lib.hid (fun n X => hug_walk n X)
  have SH := Lib.hid (fun X => shape_walk L M S0 H X)
  obtain ⟨rb, ev, al0, ha0⟩ := alike_all a l m s h l2 m2 s2 h2 k
  have AL := Lib.hid al0
  have HA := Lib.hid ha0
  clear al0 ha0
  have SA := Lib.hid (fun X => shape_walk l m s h X)
  have SB := Lib.hid (fun X => shape_walk l2 m2 s2 h2 X)
  unfold shV at AL SA SB
  have d0 : ¬ (len : Int) < 3 := by omega
  have HS := Lib.hid hs
  have HH := Lib.hid hh
  have HR := Lib.hid hr
  have HLE := Lib.hid hlen
  have al := alloc_sh
  clear of rk hs hh hr
  unfold drV at OF
  unfold rkV at RK
  unfold shV at OF SH
  unfold shV
  go_enter Tryz.func3, Tryz.ntmps3
  go_upto_region 1 with (fail)
  refine seal_wp fun X hX => ?_
  have ZA := Lib.hid (show Known X w.heap.size #[.int .i64 l, .int .i64 m, .int .i64 s, .int .i64 h] by rw [hX.out]; exact (Known.new w _ _).alloc _)
  have ZB := Lib.hid (show Known X (w.heap.size + 1) #[.int .i64 l2, .int .i64 m2, .int .i64 s2, .int .i64 h2] by rw [hX.out]; exact Known.new' (by simp))
  have BX := Lib.hid (show Below w.heap.size w X by rw [hX.out]; exact grow_alloc (grow_alloc (grow_refl w) _) _)
  clear hX
  have ZR := Lib.hid (HR.out.below BX.out)
  have ZS := Lib.hid (HS.out.below BX.out)
  have Z5 := Lib.hid (ZS.out.sub (js := [5]) (by intro j hj; rw [List.mem_singleton] at hj; rw [hj]; decide))
  have ZH := Lib.hid (HH.out.below BX.out)
  clear HR HS HH
  generalize w.heap.size + 1 = bq at *
  generalize hbp : w.heap.size = bp at *
  have HBP := Lib.hid hbp
  clear hbp
  have HXB := Lib.hid (show bp ≤ X.heap.size by have := BX.out.size; have := HBP.out; omega)
  go_upto_region 2 with (go_at_call 5; go_loud ((with_reducible refine (SD.out _).mono ?_); rintro e w1 ⟨rfl, hb⟩; have B1 := Lib.hid (grow_trans (by (repeat (with_reducible first | exact grow_refl _ | refine Grow.grow_drewN ?_ _ | refine Grow.grow_drew ?_ | refine Grow.grow_alloc ?_ _))) hb : Below X.heap.size X w1); clear hb))
  go_wp2
  go_loopw [10] (fun v10 wr => ∃ i : Nat, i ≤ 3 ∧ v10 = .int .i64 (i : Nat) ∧ Below X.heap.size X wr) (fun i _ => 3 - (intOf i).toNat)
  case atStart => exact ⟨0, by omega, rfl, B1.out⟩
  case round =>
    obtain ⟨i, hi, rfl, hg⟩ := hrel
    have G := Lib.hid hg
    clear hg
    by_cases hlt : i < 3
    · have d1 : (i : Int) < 3 := by omega
      have d2 : (0 : Int) ≤ (i : Int) := by omega
      have d3 : (i : Int) < (len : Int) := by omega
      obtain ⟨e1, e2⟩ := row_cell (ZR.out.below G.out) i hlt
      have RC := Lib.hid (fun Y (hY : Below X.heap.size X Y) => row_cell (ZR.out.below hY) i hlt)
      generalize (if i = 0 then p.x else if i = 1 then q.x else t.x) = nx at *
      generalize (if i = 0 then p.y else if i = 1 then q.y else t.y) = ny at *
      have m1 := wrap64_mid (show -9223372036854775808 ≤ (i : Int) + 1 ∧ (i : Int) + 1 ≤ 9223372036854775807 by omega)
      have HX := Lib.hid (fun Y => hug_walk nx Y)
      have HY := Lib.hid (fun Y => hug_walk ny Y)
      have l1 : b < wr.heap.size := World.block_lt_of_cell? wr _ e1
      cases hx : hugP nx <;> cases hy : hugP ny
      all_goals
        rw [hx] at HX
        rw [hy] at HY
        go_upto_region 8 with (go_at_call 6; go_loud ((with_reducible refine (HX.out _).mono ?_); rintro e w2 ⟨rfl, hb⟩; have B2 := Lib.hid (grow_trans (grow_trans G.out (by (repeat (with_reducible first | exact grow_refl _ | refine Grow.grow_drewN ?_ _ | refine Grow.grow_drew ?_)))) hb : Below X.heap.size X w2); clear hb))
        clear e1 e2 l1
        obtain ⟨e1, e2⟩ := RC.out _ B2.out
        have l1 : b < w2.heap.size := World.block_lt_of_cell? w2 _ e1
        go_upto_region 9 with (go_at_call 6; go_loud ((with_reducible refine (HY.out _).mono ?_); rintro e w3 ⟨rfl, hb⟩; have B3 := Lib.hid (grow_trans B2.out hb : Below X.heap.size X w3); clear hb))
        go_wp2
        first
          | (go_roundw
             case rel => exact ⟨i + 1, by omega, by go_num, B3.out⟩
             case measure => simp [intOf]; omega)
          | (go_ret
             refine ⟨rfl, ?_⟩
             rw [HBP.out]
             exact BX.out.trans (B3.out.mono HXB.out))
    · obtain rfl : i = 3 := by omega
      have d1 : ¬ ((3 : Nat) : Int) < 3 := by omega
      go_upto_region 11 with (fail)
      go_cut [13, 14] (fun v13 v14 wx => ∃ g, v13 = .pointer (some ⟨g, 0, none⟩) ∧ v14 = .bool hz ∧ Known wx g #[.int .i64 L, .int .i64 M, .int .i64 S0, .int .i64 H] ∧ Below X.heap.size X wx)
      case first =>
        have x0 : (0 : Int) < (len : Int) := by omega
        have x1 : (1 : Int) < (len : Int) := by omega
        have x2 : (2 : Int) < (len : Int) := by omega
        have ZW := ZR.out
        have c0 := ZW.c0
        have c1 := ZW.c1
        have c2 := ZW.c2
        have c3 := ZW.c3
        have c4 := ZW.c4
        have c5 := ZW.c5
        have c6 := ZW.c6
        have c7 := ZW.c7
        have c8 := ZW.c8
        have lb := ZW.lt
        clear ZW
        refine Grow.K3.wp_region_planK G.out [0, 3, 6] (.reads [1, 2, 4, 5, 7, 8] (.two 9 (.two 10 (.three 11 (.two 12 (.tail [13, 14, 15]) 13 (.two 12 (.tail [14, 15]) 14 (.tail [12, 15]))) 12 (.two 11 (.tail [13, 14, 15]) 13 (.tail [11, 14, 15])) 13 (.two 11 (.two 12 (.tail [14, 15]) 14 (.tail [12, 15])) 12 (.tail [11, 14, 15]))) 13 (.one 10 (.two 11 (.two 12 (.tail [14, 15]) 14 (.tail [12, 15])) 12 (.tail [11, 14, 15])))) 13 (.one 9 (.one 10 (.two 11 (.two 12 (.tail [14, 15]) 14 (.tail [12, 15])) 12 (.tail [11, 14, 15])))))) (by kernel_rfl) (by kernel_rfl) (by kernel_rfl) (by kernel_rfl) (by kernel_rfl) ?_ ?_
        · intro c aa d v ww h
          first
            | exact Grow.bodyPost_blind h
            | (simp (config := {zetaDelta := true}) only [Exit.then, Exit.inBlock] at h ⊢; first | exact Grow.bodyPost_blind h | exact h)
        simp only [Grow.Plan.wpK, Grow.pick, List.getElem?_cons_zero, List.getElem?_cons_succ, List.cons_append, List.nil_append]
        repeat (go_big_quiet_step (fail))
        refine wpQuiet_nil ?_
        repeat (go_big_quiet_step (fail))
        refine wpQuiet_nil ?_
        clear c0 c1 c2 c3 c4 c5 c6 c7 c8 lb
        have BZ : Below X.heap.size X wr.drew := grow_drew G.out
        generalize wr.drew = x1 at *
        refine ⟨?_, ?_⟩
        · (try unfold Grow.K3.oneC)
          go_wp2_with (go_at_call 7; go_loud ((with_reducible refine (OF.out _).mono ?_); rintro e v1 ⟨rfl, hb⟩; have B21 : Below X.heap.size X v1 := grow_trans BZ hb; have S := hb; clear hb))
          clear S
          first
            | refine ⟨B21, ?_⟩
            | skip
          refine ⟨?_, ?_⟩
          · (try unfold Grow.K3.oneC)
            go_wp2
            first
              | refine ⟨B21, ?_⟩
              | skip
            refine ⟨?_, ?_, ?_⟩
            · (try unfold Grow.K3.oneC)
              go_wp2
              first
                | refine ⟨B21, ?_⟩
                | skip
              refine ⟨?_, ?_⟩
              · (try unfold Grow.K3.oneC)
                go_wp2
                first
                  | refine ⟨B21, ?_⟩
                  | skip
                (try unfold Grow.K3.seqC)
                go_wp2
                have B22 : Below X.heap.size X (v1.alloc (.cells #[.int .i64 0, .int .i64 0, .int .i64 0, .int .i64 0] 29)) := grow_alloc B21 _
                have KS := Lib.hid (show Known (v1.alloc (.cells #[.int .i64 0, .int .i64 0, .int .i64 0, .int .i64 0] 29)) v1.heap.size #[.int .i64 0, .int .i64 0, .int .i64 0, .int .i64 0] from Known.new _ _ _)
                have HS := Lib.hid (show X.heap.size ≤ v1.heap.size from B21.size)
                first
                  | refine ⟨B22, ?_⟩
                  | skip
                generalize v1.alloc (.cells #[.int .i64 0, .int .i64 0, .int .i64 0, .int .i64 0] 29) = v2 at *
                generalize v1.heap.size = g at *
                (try unfold Grow.K3.seqC)
                have s0 := KS.out.cell 0
                have s1 := KS.out.cell 1
                have s2 := KS.out.cell 2
                have s3 := KS.out.cell 3
                have sl := KS.out.lt
                have f0 := KS.out.frozen 0
                have f1 := KS.out.frozen 1
                have f2 := KS.out.frozen 2
                have f3 := KS.out.frozen 3
                simp only [List.getElem?_toArray, List.getElem?_cons_zero, List.getElem?_cons_succ] at s0 s1 s2 s3
                have B23 : Below X.heap.size X ((((v2.setCell ⟨g, 0, none⟩ (.int .i64 L)).setCell ⟨g, 1, none⟩ (.int .i64 M)).setCell ⟨g, 2, none⟩ (.int .i64 S0)).setCell ⟨g, 3, none⟩ (.int .i64 H)) := (((B22.setCell HS.out _).setCell HS.out _).setCell HS.out _).setCell HS.out _
                have KS2 := Lib.hid (known_four KS.out (.int .i64 L) (.int .i64 M) (.int .i64 S0) (.int .i64 H))
                go_wp2
                clear s0 s1 s2 s3 sl f0 f1 f2 f3
                first
                  | refine ⟨B23, ?_⟩
                  | skip
                (try unfold Grow.K3.seqC)
                go_wp2
                first
                  | refine ⟨B23, ?_⟩
                  | skip
                (try unfold Grow.K3.seqC)
                go_wp2
                go_meet
                first
                  | exact ⟨_, rfl, rfl, KS2.out, B23⟩
                  | exact ⟨_, rfl, rfl, KS2.out, Below.drew B23⟩
              · (try unfold Grow.K3.oneC)
                go_wp2
                have B24 : Below X.heap.size X (v1.alloc (.cells #[.int .i64 0, .int .i64 0, .int .i64 0, .int .i64 0] 29)) := grow_alloc B21 _
                have KS := Lib.hid (show Known (v1.alloc (.cells #[.int .i64 0, .int .i64 0, .int .i64 0, .int .i64 0] 29)) v1.heap.size #[.int .i64 0, .int .i64 0, .int .i64 0, .int .i64 0] from Known.new _ _ _)
                have HS := Lib.hid (show X.heap.size ≤ v1.heap.size from B21.size)
                first
                  | refine ⟨B24, ?_⟩
                  | skip
                generalize v1.alloc (.cells #[.int .i64 0, .int .i64 0, .int .i64 0, .int .i64 0] 29) = v4 at *
                generalize v1.heap.size = g at *
                refine ⟨?_, ?_⟩
                · (try unfold Grow.K3.oneC)
                  go_wp2
                  first
                    | refine ⟨B24, ?_⟩
                    | skip
                  (try unfold Grow.K3.seqC)
                  have s0 := KS.out.cell 0
                  have s1 := KS.out.cell 1
                  have s2 := KS.out.cell 2
                  have s3 := KS.out.cell 3
                  have sl := KS.out.lt
                  have f0 := KS.out.frozen 0
                  have f1 := KS.out.frozen 1
                  have f2 := KS.out.frozen 2
                  have f3 := KS.out.frozen 3
                  simp only [List.getElem?_toArray, List.getElem?_cons_zero, List.getElem?_cons_succ] at s0 s1 s2 s3
                  have B25 : Below X.heap.size X ((((v4.setCell ⟨g, 0, none⟩ (.int .i64 L)).setCell ⟨g, 1, none⟩ (.int .i64 M)).setCell ⟨g, 2, none⟩ (.int .i64 S0)).setCell ⟨g, 3, none⟩ (.int .i64 H)) := (((B24.setCell HS.out _).setCell HS.out _).setCell HS.out _).setCell HS.out _
                  have KS2 := Lib.hid (known_four KS.out (.int .i64 L) (.int .i64 M) (.int .i64 S0) (.int .i64 H))
                  go_wp2
                  clear s0 s1 s2 s3 sl f0 f1 f2 f3
                  first
                    | refine ⟨B25, ?_⟩
                    | skip
                  (try unfold Grow.K3.seqC)
                  go_wp2
                  first
                    | refine ⟨B25, ?_⟩
                    | skip
                  (try unfold Grow.K3.seqC)
                  go_wp2
                  go_meet
                  first
                    | exact ⟨_, rfl, rfl, KS2.out, B25⟩
                    | exact ⟨_, rfl, rfl, KS2.out, Below.drew B25⟩
                · (try unfold Grow.K3.oneC)
                  have s0 := KS.out.cell 0
                  have s1 := KS.out.cell 1
                  have s2 := KS.out.cell 2
                  have s3 := KS.out.cell 3
                  have sl := KS.out.lt
                  have f0 := KS.out.frozen 0
                  have f1 := KS.out.frozen 1
                  have f2 := KS.out.frozen 2
                  have f3 := KS.out.frozen 3
                  simp only [List.getElem?_toArray, List.getElem?_cons_zero, List.getElem?_cons_succ] at s0 s1 s2 s3
                  have B26 : Below X.heap.size X ((((v4.setCell ⟨g, 0, none⟩ (.int .i64 L)).setCell ⟨g, 1, none⟩ (.int .i64 M)).setCell ⟨g, 2, none⟩ (.int .i64 S0)).setCell ⟨g, 3, none⟩ (.int .i64 H)) := (((B24.setCell HS.out _).setCell HS.out _).setCell HS.out _).setCell HS.out _
                  have KS2 := Lib.hid (known_four KS.out (.int .i64 L) (.int .i64 M) (.int .i64 S0) (.int .i64 H))
                  go_wp2
                  clear s0 s1 s2 s3 sl f0 f1 f2 f3
                  first
                    | refine ⟨B26, ?_⟩
                    | skip
                  (try unfold Grow.K3.seqC)
                  go_wp2
                  first
                    | refine ⟨B26, ?_⟩
                    | skip
                  (try unfold Grow.K3.seqC)
                  go_wp2
                  first
                    | refine ⟨B26, ?_⟩
                    | skip
                  (try unfold Grow.K3.seqC)
                  go_wp2
                  go_meet
                  first
                    | exact ⟨_, rfl, rfl, KS2.out, B26⟩
                    | exact ⟨_, rfl, rfl, KS2.out, Below.drew B26⟩
            · (try unfold Grow.K3.oneC)
              go_wp2
              first
                | refine ⟨B21, ?_⟩
                | skip
              refine ⟨?_, ?_⟩
              · (try unfold Grow.K3.oneC)
                go_wp2
                first
                  | refine ⟨B21, ?_⟩
                  | skip
                (try unfold Grow.K3.seqC)
                go_wp2
                have B27 : Below X.heap.size X (v1.alloc (.cells #[.int .i64 0, .int .i64 0, .int .i64 0, .int .i64 0] 29)) := grow_alloc B21 _
                have KS := Lib.hid (show Known (v1.alloc (.cells #[.int .i64 0, .int .i64 0, .int .i64 0, .int .i64 0] 29)) v1.heap.size #[.int .i64 0, .int .i64 0, .int .i64 0, .int .i64 0] from Known.new _ _ _)
                have HS := Lib.hid (show X.heap.size ≤ v1.heap.size from B21.size)
                first
                  | refine ⟨B27, ?_⟩
                  | skip
                generalize v1.alloc (.cells #[.int .i64 0, .int .i64 0, .int .i64 0, .int .i64 0] 29) = v7 at *
                generalize v1.heap.size = g at *
                (try unfold Grow.K3.seqC)
                have s0 := KS.out.cell 0
                have s1 := KS.out.cell 1
                have s2 := KS.out.cell 2
                have s3 := KS.out.cell 3
                have sl := KS.out.lt
                have f0 := KS.out.frozen 0
                have f1 := KS.out.frozen 1
                have f2 := KS.out.frozen 2
                have f3 := KS.out.frozen 3
                simp only [List.getElem?_toArray, List.getElem?_cons_zero, List.getElem?_cons_succ] at s0 s1 s2 s3
                have B28 : Below X.heap.size X ((((v7.setCell ⟨g, 0, none⟩ (.int .i64 L)).setCell ⟨g, 1, none⟩ (.int .i64 M)).setCell ⟨g, 2, none⟩ (.int .i64 S0)).setCell ⟨g, 3, none⟩ (.int .i64 H)) := (((B27.setCell HS.out _).setCell HS.out _).setCell HS.out _).setCell HS.out _
                have KS2 := Lib.hid (known_four KS.out (.int .i64 L) (.int .i64 M) (.int .i64 S0) (.int .i64 H))
                go_wp2
                clear s0 s1 s2 s3 sl f0 f1 f2 f3
                first
                  | refine ⟨B28, ?_⟩
                  | skip
                (try unfold Grow.K3.seqC)
                go_wp2
                first
                  | refine ⟨B28, ?_⟩
                  | skip
                (try unfold Grow.K3.seqC)
                go_wp2
                go_meet
                first
                  | exact ⟨_, rfl, rfl, KS2.out, B28⟩
                  | exact ⟨_, rfl, rfl, KS2.out, Below.drew B28⟩
              · (try unfold Grow.K3.oneC)
                go_wp2
                have B29 : Below X.heap.size X (v1.alloc (.cells #[.int .i64 0, .int .i64 0, .int .i64 0, .int .i64 0] 29)) := grow_alloc B21 _
                have KS := Lib.hid (show Known (v1.alloc (.cells #[.int .i64 0, .int .i64 0, .int .i64 0, .int .i64 0] 29)) v1.heap.size #[.int .i64 0, .int .i64 0, .int .i64 0, .int .i64 0] from Known.new _ _ _)
                have HS := Lib.hid (show X.heap.size ≤ v1.heap.size from B21.size)
                first
                  | refine ⟨B29, ?_⟩
                  | skip
                generalize v1.alloc (.cells #[.int .i64 0, .int .i64 0, .int .i64 0, .int .i64 0] 29) = v9 at *
                generalize v1.heap.size = g at *
                (try unfold Grow.K3.seqC)
                go_wp2
                first
                  | refine ⟨B29, ?_⟩
                  | skip
                (try unfold Grow.K3.seqC)
                have s0 := KS.out.cell 0
                have s1 := KS.out.cell 1
                have s2 := KS.out.cell 2
                have s3 := KS.out.cell 3
                have sl := KS.out.lt
                have f0 := KS.out.frozen 0
                have f1 := KS.out.frozen 1
                have f2 := KS.out.frozen 2
                have f3 := KS.out.frozen 3
                simp only [List.getElem?_toArray, List.getElem?_cons_zero, List.getElem?_cons_succ] at s0 s1 s2 s3
                have B30 : Below X.heap.size X ((((v9.setCell ⟨g, 0, none⟩ (.int .i64 L)).setCell ⟨g, 1, none⟩ (.int .i64 M)).setCell ⟨g, 2, none⟩ (.int .i64 S0)).setCell ⟨g, 3, none⟩ (.int .i64 H)) := (((B29.setCell HS.out _).setCell HS.out _).setCell HS.out _).setCell HS.out _
                have KS2 := Lib.hid (known_four KS.out (.int .i64 L) (.int .i64 M) (.int .i64 S0) (.int .i64 H))
                go_wp2
                clear s0 s1 s2 s3 sl f0 f1 f2 f3
                first
                  | refine ⟨B30, ?_⟩
                  | skip
                (try unfold Grow.K3.seqC)
                go_wp2
                first
                  | refine ⟨B30, ?_⟩
                  | skip
                (try unfold Grow.K3.seqC)
                go_wp2
                go_meet
                first
                  | exact ⟨_, rfl, rfl, KS2.out, B30⟩
                  | exact ⟨_, rfl, rfl, KS2.out, Below.drew B30⟩
            · (try unfold Grow.K3.oneC)
              go_wp2
              have B31 : Below X.heap.size X (v1.alloc (.cells #[.int .i64 0, .int .i64 0, .int .i64 0, .int .i64 0] 29)) := grow_alloc B21 _
              have KS := Lib.hid (show Known (v1.alloc (.cells #[.int .i64 0, .int .i64 0, .int .i64 0, .int .i64 0] 29)) v1.heap.size #[.int .i64 0, .int .i64 0, .int .i64 0, .int .i64 0] from Known.new _ _ _)
              have HS := Lib.hid (show X.heap.size ≤ v1.heap.size from B21.size)
              first
                | refine ⟨B31, ?_⟩
                | skip
              generalize v1.alloc (.cells #[.int .i64 0, .int .i64 0, .int .i64 0, .int .i64 0] 29) = v11 at *
              generalize v1.heap.size = g at *
              refine ⟨?_, ?_⟩
              · (try unfold Grow.K3.oneC)
                go_wp2
                first
                  | refine ⟨B31, ?_⟩
                  | skip
                refine ⟨?_, ?_⟩
                · (try unfold Grow.K3.oneC)
                  go_wp2
                  first
                    | refine ⟨B31, ?_⟩
                    | skip
                  (try unfold Grow.K3.seqC)
                  have s0 := KS.out.cell 0
                  have s1 := KS.out.cell 1
                  have s2 := KS.out.cell 2
                  have s3 := KS.out.cell 3
                  have sl := KS.out.lt
                  have f0 := KS.out.frozen 0
                  have f1 := KS.out.frozen 1
                  have f2 := KS.out.frozen 2
                  have f3 := KS.out.frozen 3
                  simp only [List.getElem?_toArray, List.getElem?_cons_zero, List.getElem?_cons_succ] at s0 s1 s2 s3
                  have B32 : Below X.heap.size X ((((v11.setCell ⟨g, 0, none⟩ (.int .i64 L)).setCell ⟨g, 1, none⟩ (.int .i64 M)).setCell ⟨g, 2, none⟩ (.int .i64 S0)).setCell ⟨g, 3, none⟩ (.int .i64 H)) := (((B31.setCell HS.out _).setCell HS.out _).setCell HS.out _).setCell HS.out _
                  have KS2 := Lib.hid (known_four KS.out (.int .i64 L) (.int .i64 M) (.int .i64 S0) (.int .i64 H))
                  go_wp2
                  clear s0 s1 s2 s3 sl f0 f1 f2 f3
                  first
                    | refine ⟨B32, ?_⟩
                    | skip
                  (try unfold Grow.K3.seqC)
                  go_wp2
                  first
                    | refine ⟨B32, ?_⟩
                    | skip
                  (try unfold Grow.K3.seqC)
                  go_wp2
                  go_meet
                  first
                    | exact ⟨_, rfl, rfl, KS2.out, B32⟩
                    | exact ⟨_, rfl, rfl, KS2.out, Below.drew B32⟩
                · (try unfold Grow.K3.oneC)
                  have s0 := KS.out.cell 0
                  have s1 := KS.out.cell 1
                  have s2 := KS.out.cell 2
                  have s3 := KS.out.cell 3
                  have sl := KS.out.lt
                  have f0 := KS.out.frozen 0
                  have f1 := KS.out.frozen 1
                  have f2 := KS.out.frozen 2
                  have f3 := KS.out.frozen 3
                  simp only [List.getElem?_toArray, List.getElem?_cons_zero, List.getElem?_cons_succ] at s0 s1 s2 s3
                  have B33 : Below X.heap.size X ((((v11.setCell ⟨g, 0, none⟩ (.int .i64 L)).setCell ⟨g, 1, none⟩ (.int .i64 M)).setCell ⟨g, 2, none⟩ (.int .i64 S0)).setCell ⟨g, 3, none⟩ (.int .i64 H)) := (((B31.setCell HS.out _).setCell HS.out _).setCell HS.out _).setCell HS.out _
                  have KS2 := Lib.hid (known_four KS.out (.int .i64 L) (.int .i64 M) (.int .i64 S0) (.int .i64 H))
                  go_wp2
                  clear s0 s1 s2 s3 sl f0 f1 f2 f3
                  first
                    | refine ⟨B33, ?_⟩
                    | skip
                  (try unfold Grow.K3.seqC)
                  go_wp2
                  first
                    | refine ⟨B33, ?_⟩
                    | skip
                  (try unfold Grow.K3.seqC)
                  go_wp2
                  first
                    | refine ⟨B33, ?_⟩
                    | skip
                  (try unfold Grow.K3.seqC)
                  go_wp2
                  go_meet
                  first
                    | exact ⟨_, rfl, rfl, KS2.out, B33⟩
                    | exact ⟨_, rfl, rfl, KS2.out, Below.drew B33⟩
              · (try unfold Grow.K3.oneC)
                go_wp2
                first
                  | refine ⟨B31, ?_⟩
                  | skip
                (try unfold Grow.K3.seqC)
                go_wp2
                first
                  | refine ⟨B31, ?_⟩
                  | skip
                (try unfold Grow.K3.seqC)
                have s0 := KS.out.cell 0
                have s1 := KS.out.cell 1
                have s2 := KS.out.cell 2
                have s3 := KS.out.cell 3
                have sl := KS.out.lt
                have f0 := KS.out.frozen 0
                have f1 := KS.out.frozen 1
                have f2 := KS.out.frozen 2
                have f3 := KS.out.frozen 3
                simp only [List.getElem?_toArray, List.getElem?_cons_zero, List.getElem?_cons_succ] at s0 s1 s2 s3
                have B34 : Below X.heap.size X ((((v11.setCell ⟨g, 0, none⟩ (.int .i64 L)).setCell ⟨g, 1, none⟩ (.int .i64 M)).setCell ⟨g, 2, none⟩ (.int .i64 S0)).setCell ⟨g, 3, none⟩ (.int .i64 H)) := (((B31.setCell HS.out _).setCell HS.out _).setCell HS.out _).setCell HS.out _
                have KS2 := Lib.hid (known_four KS.out (.int .i64 L) (.int .i64 M) (.int .i64 S0) (.int .i64 H))
                go_wp2
                clear s0 s1 s2 s3 sl f0 f1 f2 f3
                first
                  | refine ⟨B34, ?_⟩
                  | skip
                (try unfold Grow.K3.seqC)
                go_wp2
                first
                  | refine ⟨B34, ?_⟩
                  | skip
                (try unfold Grow.K3.seqC)
                go_wp2
                go_meet
                first
                  | exact ⟨_, rfl, rfl, KS2.out, B34⟩
                  | exact ⟨_, rfl, rfl, KS2.out, Below.drew B34⟩
          · (try unfold Grow.K3.oneC)
            go_wp2
            have B35 : Below X.heap.size X (v1.alloc (.cells #[.int .i64 0, .int .i64 0, .int .i64 0, .int .i64 0] 29)) := grow_alloc B21 _
            have KS := Lib.hid (show Known (v1.alloc (.cells #[.int .i64 0, .int .i64 0, .int .i64 0, .int .i64 0] 29)) v1.heap.size #[.int .i64 0, .int .i64 0, .int .i64 0, .int .i64 0] from Known.new _ _ _)
            have HS := Lib.hid (show X.heap.size ≤ v1.heap.size from B21.size)
            first
              | refine ⟨B35, ?_⟩
              | skip
            generalize v1.alloc (.cells #[.int .i64 0, .int .i64 0, .int .i64 0, .int .i64 0] 29) = v15 at *
            generalize v1.heap.size = g at *
            (try unfold Grow.K3.oneC)
            go_wp2
            first
              | refine ⟨B35, ?_⟩
              | skip
            refine ⟨?_, ?_⟩
            · (try unfold Grow.K3.oneC)
              go_wp2
              first
                | refine ⟨B35, ?_⟩
                | skip
              refine ⟨?_, ?_⟩
              · (try unfold Grow.K3.oneC)
                go_wp2
                first
                  | refine ⟨B35, ?_⟩
                  | skip
                (try unfold Grow.K3.seqC)
                have s0 := KS.out.cell 0
                have s1 := KS.out.cell 1
                have s2 := KS.out.cell 2
                have s3 := KS.out.cell 3
                have sl := KS.out.lt
                have f0 := KS.out.frozen 0
                have f1 := KS.out.frozen 1
                have f2 := KS.out.frozen 2
                have f3 := KS.out.frozen 3
                simp only [List.getElem?_toArray, List.getElem?_cons_zero, List.getElem?_cons_succ] at s0 s1 s2 s3
                have B36 : Below X.heap.size X ((((v15.setCell ⟨g, 0, none⟩ (.int .i64 L)).setCell ⟨g, 1, none⟩ (.int .i64 M)).setCell ⟨g, 2, none⟩ (.int .i64 S0)).setCell ⟨g, 3, none⟩ (.int .i64 H)) := (((B35.setCell HS.out _).setCell HS.out _).setCell HS.out _).setCell HS.out _
                have KS2 := Lib.hid (known_four KS.out (.int .i64 L) (.int .i64 M) (.int .i64 S0) (.int .i64 H))
                go_wp2
                clear s0 s1 s2 s3 sl f0 f1 f2 f3
                first
                  | refine ⟨B36, ?_⟩
                  | skip
                (try unfold Grow.K3.seqC)
                go_wp2
                first
                  | refine ⟨B36, ?_⟩
                  | skip
                (try unfold Grow.K3.seqC)
                go_wp2
                go_meet
                first
                  | exact ⟨_, rfl, rfl, KS2.out, B36⟩
                  | exact ⟨_, rfl, rfl, KS2.out, Below.drew B36⟩
              · (try unfold Grow.K3.oneC)
                have s0 := KS.out.cell 0
                have s1 := KS.out.cell 1
                have s2 := KS.out.cell 2
                have s3 := KS.out.cell 3
                have sl := KS.out.lt
                have f0 := KS.out.frozen 0
                have f1 := KS.out.frozen 1
                have f2 := KS.out.frozen 2
                have f3 := KS.out.frozen 3
                simp only [List.getElem?_toArray, List.getElem?_cons_zero, List.getElem?_cons_succ] at s0 s1 s2 s3
                have B37 : Below X.heap.size X ((((v15.setCell ⟨g, 0, none⟩ (.int .i64 L)).setCell ⟨g, 1, none⟩ (.int .i64 M)).setCell ⟨g, 2, none⟩ (.int .i64 S0)).setCell ⟨g, 3, none⟩ (.int .i64 H)) := (((B35.setCell HS.out _).setCell HS.out _).setCell HS.out _).setCell HS.out _
                have KS2 := Lib.hid (known_four KS.out (.int .i64 L) (.int .i64 M) (.int .i64 S0) (.int .i64 H))
                go_wp2
                clear s0 s1 s2 s3 sl f0 f1 f2 f3
                first
                  | refine ⟨B37, ?_⟩
                  | skip
                (try unfold Grow.K3.seqC)
                go_wp2
                first
                  | refine ⟨B37, ?_⟩
                  | skip
                (try unfold Grow.K3.seqC)
                go_wp2
                first
                  | refine ⟨B37, ?_⟩
                  | skip
                (try unfold Grow.K3.seqC)
                go_wp2
                go_meet
                first
                  | exact ⟨_, rfl, rfl, KS2.out, B37⟩
                  | exact ⟨_, rfl, rfl, KS2.out, Below.drew B37⟩
            · (try unfold Grow.K3.oneC)
              go_wp2
              first
                | refine ⟨B35, ?_⟩
                | skip
              (try unfold Grow.K3.seqC)
              go_wp2
              first
                | refine ⟨B35, ?_⟩
                | skip
              (try unfold Grow.K3.seqC)
              have s0 := KS.out.cell 0
              have s1 := KS.out.cell 1
              have s2 := KS.out.cell 2
              have s3 := KS.out.cell 3
              have sl := KS.out.lt
              have f0 := KS.out.frozen 0
              have f1 := KS.out.frozen 1
              have f2 := KS.out.frozen 2
              have f3 := KS.out.frozen 3
              simp only [List.getElem?_toArray, List.getElem?_cons_zero, List.getElem?_cons_succ] at s0 s1 s2 s3
              have B38 : Below X.heap.size X ((((v15.setCell ⟨g, 0, none⟩ (.int .i64 L)).setCell ⟨g, 1, none⟩ (.int .i64 M)).setCell ⟨g, 2, none⟩ (.int .i64 S0)).setCell ⟨g, 3, none⟩ (.int .i64 H)) := (((B35.setCell HS.out _).setCell HS.out _).setCell HS.out _).setCell HS.out _
              have KS2 := Lib.hid (known_four KS.out (.int .i64 L) (.int .i64 M) (.int .i64 S0) (.int .i64 H))
              go_wp2
              clear s0 s1 s2 s3 sl f0 f1 f2 f3
              first
                | refine ⟨B38, ?_⟩
                | skip
              (try unfold Grow.K3.seqC)
              go_wp2
              first
                | refine ⟨B38, ?_⟩
                | skip
              (try unfold Grow.K3.seqC)
              go_wp2
              go_meet
              first
                | exact ⟨_, rfl, rfl, KS2.out, B38⟩
                | exact ⟨_, rfl, rfl, KS2.out, Below.drew B38⟩
        · (try unfold Grow.K3.oneC)
          go_wp2
          have B39 : Below X.heap.size X (x1.alloc (.cells #[.int .i64 0, .int .i64 0, .int .i64 0, .int .i64 0] 29)) := grow_alloc BZ _
          have KS := Lib.hid (show Known (x1.alloc (.cells #[.int .i64 0, .int .i64 0, .int .i64 0, .int .i64 0] 29)) x1.heap.size #[.int .i64 0, .int .i64 0, .int .i64 0, .int .i64 0] from Known.new _ _ _)
          have HS := Lib.hid (show X.heap.size ≤ x1.heap.size from BZ.size)
          first
            | refine ⟨B39, ?_⟩
            | skip
          generalize x1.alloc (.cells #[.int .i64 0, .int .i64 0, .int .i64 0, .int .i64 0] 29) = v19 at *
          generalize x1.heap.size = g at *
          (try unfold Grow.K3.oneC)
          go_wp2_with (go_at_call 7; go_loud ((with_reducible refine (OF.out _).mono ?_); rintro e v20 ⟨rfl, hb⟩; have B40 : Below X.heap.size X v20 := grow_trans B39 hb; have S := hb; clear hb))
          replace KS := Lib.hid (KS.out.below S)
          clear S
          first
            | refine ⟨B40, ?_⟩
            | skip
          (try unfold Grow.K3.oneC)
          go_wp2
          first
            | refine ⟨B40, ?_⟩
            | skip
          refine ⟨?_, ?_⟩
          · (try unfold Grow.K3.oneC)
            go_wp2
            first
              | refine ⟨B40, ?_⟩
              | skip
            refine ⟨?_, ?_⟩
            · (try unfold Grow.K3.oneC)
              go_wp2
              first
                | refine ⟨B40, ?_⟩
                | skip
              (try unfold Grow.K3.seqC)
              have s0 := KS.out.cell 0
              have s1 := KS.out.cell 1
              have s2 := KS.out.cell 2
              have s3 := KS.out.cell 3
              have sl := KS.out.lt
              have f0 := KS.out.frozen 0
              have f1 := KS.out.frozen 1
              have f2 := KS.out.frozen 2
              have f3 := KS.out.frozen 3
              simp only [List.getElem?_toArray, List.getElem?_cons_zero, List.getElem?_cons_succ] at s0 s1 s2 s3
              have B41 : Below X.heap.size X ((((v20.setCell ⟨g, 0, none⟩ (.int .i64 L)).setCell ⟨g, 1, none⟩ (.int .i64 M)).setCell ⟨g, 2, none⟩ (.int .i64 S0)).setCell ⟨g, 3, none⟩ (.int .i64 H)) := (((B40.setCell HS.out _).setCell HS.out _).setCell HS.out _).setCell HS.out _
              have KS2 := Lib.hid (known_four KS.out (.int .i64 L) (.int .i64 M) (.int .i64 S0) (.int .i64 H))
              go_wp2
              clear s0 s1 s2 s3 sl f0 f1 f2 f3
              first
                | refine ⟨B41, ?_⟩
                | skip
              (try unfold Grow.K3.seqC)
              go_wp2
              first
                | refine ⟨B41, ?_⟩
                | skip
              (try unfold Grow.K3.seqC)
              go_wp2
              go_meet
              first
                | exact ⟨_, rfl, rfl, KS2.out, B41⟩
                | exact ⟨_, rfl, rfl, KS2.out, Below.drew B41⟩
            · (try unfold Grow.K3.oneC)
              have s0 := KS.out.cell 0
              have s1 := KS.out.cell 1
              have s2 := KS.out.cell 2
              have s3 := KS.out.cell 3
              have sl := KS.out.lt
              have f0 := KS.out.frozen 0
              have f1 := KS.out.frozen 1
              have f2 := KS.out.frozen 2
              have f3 := KS.out.frozen 3
              simp only [List.getElem?_toArray, List.getElem?_cons_zero, List.getElem?_cons_succ] at s0 s1 s2 s3
              have B42 : Below X.heap.size X ((((v20.setCell ⟨g, 0, none⟩ (.int .i64 L)).setCell ⟨g, 1, none⟩ (.int .i64 M)).setCell ⟨g, 2, none⟩ (.int .i64 S0)).setCell ⟨g, 3, none⟩ (.int .i64 H)) := (((B40.setCell HS.out _).setCell HS.out _).setCell HS.out _).setCell HS.out _
              have KS2 := Lib.hid (known_four KS.out (.int .i64 L) (.int .i64 M) (.int .i64 S0) (.int .i64 H))
              go_wp2
              clear s0 s1 s2 s3 sl f0 f1 f2 f3
              first
                | refine ⟨B42, ?_⟩
                | skip
              (try unfold Grow.K3.seqC)
              go_wp2
              first
                | refine ⟨B42, ?_⟩
                | skip
              (try unfold Grow.K3.seqC)
              go_wp2
              first
                | refine ⟨B42, ?_⟩
                | skip
              (try unfold Grow.K3.seqC)
              go_wp2
              go_meet
              first
                | exact ⟨_, rfl, rfl, KS2.out, B42⟩
                | exact ⟨_, rfl, rfl, KS2.out, Below.drew B42⟩
          · (try unfold Grow.K3.oneC)
            go_wp2
            first
              | refine ⟨B40, ?_⟩
              | skip
            (try unfold Grow.K3.seqC)
            go_wp2
            first
              | refine ⟨B40, ?_⟩
              | skip
            (try unfold Grow.K3.seqC)
            have s0 := KS.out.cell 0
            have s1 := KS.out.cell 1
            have s2 := KS.out.cell 2
            have s3 := KS.out.cell 3
            have sl := KS.out.lt
            have f0 := KS.out.frozen 0
            have f1 := KS.out.frozen 1
            have f2 := KS.out.frozen 2
            have f3 := KS.out.frozen 3
            simp only [List.getElem?_toArray, List.getElem?_cons_zero, List.getElem?_cons_succ] at s0 s1 s2 s3
            have B43 : Below X.heap.size X ((((v20.setCell ⟨g, 0, none⟩ (.int .i64 L)).setCell ⟨g, 1, none⟩ (.int .i64 M)).setCell ⟨g, 2, none⟩ (.int .i64 S0)).setCell ⟨g, 3, none⟩ (.int .i64 H)) := (((B40.setCell HS.out _).setCell HS.out _).setCell HS.out _).setCell HS.out _
            have KS2 := Lib.hid (known_four KS.out (.int .i64 L) (.int .i64 M) (.int .i64 S0) (.int .i64 H))
            go_wp2
            clear s0 s1 s2 s3 sl f0 f1 f2 f3
            first
              | refine ⟨B43, ?_⟩
              | skip
            (try unfold Grow.K3.seqC)
            go_wp2
            first
              | refine ⟨B43, ?_⟩
              | skip
            (try unfold Grow.K3.seqC)
            go_wp2
            go_meet
            first
              | exact ⟨_, rfl, rfl, KS2.out, B43⟩
              | exact ⟨_, rfl, rfl, KS2.out, Below.drew B43⟩
      case rest =>
        obtain ⟨g, rfl, rfl, hks, hb3⟩ := hcut
        have BW := Lib.hid hb3
        have KS := Lib.hid hks
        clear hks hb3
        have ark := alloc_rk
        go_upto_region 13 with (go_at_call 8; go_loud ((with_reducible refine (RK.out _ _ _ _ _ HLE.out (ZR.out.below (grow_trans BW.out (by (repeat (with_reducible first | exact grow_refl _ | refine Grow.grow_drewN ?_ _ | refine Grow.grow_drew ?_ | refine Grow.grow_alloc ?_ _)))))).mono ?_); rintro e w4 ⟨rfl, hb⟩; have B4 := Lib.hid (grow_trans (grow_trans BW.out (by (repeat (with_reducible first | exact grow_refl _ | refine Grow.grow_drewN ?_ _ | refine Grow.grow_drew ?_ | refine Grow.grow_alloc ?_ _)))) hb : Below X.heap.size X w4); have KS4 := Lib.hid (KS.out.below (grow_trans (by (repeat (with_reducible first | exact grow_refl _ | refine Grow.grow_drewN ?_ _ | refine Grow.grow_drew ?_ | refine Grow.grow_alloc ?_ _))) hb)); clear hb))
        refine seal_wp fun Y hY => ?_
        have B5 := Lib.hid (show Below X.heap.size X Y by rw [hY.out]; exact grow_alloc B4.out _)
        have KR := Lib.hid (show Known Y w4.heap.size #[.int .i64 L, .int .i64 M, .int .i64 S0, .int .i64 H, .int .i64 (i1 : Nat), .int .i64 (i2 : Nat), .int .i64 (i3 : Nat)] by rw [hY.out]; exact Known.new _ _ _)
        have KY := Lib.hid (show Known Y g #[.int .i64 L, .int .i64 M, .int .i64 S0, .int .i64 H] by rw [hY.out]; exact KS4.out.alloc _)
        clear hY
        generalize w4.heap.size = gr at *
        have SS := Lib.hid (fun Z (hZ : Below Y.heap.size Y Z) => (show Z.cell? ⟨g, 0, none⟩ = some (.int .i64 L) ∧ Z.cell? ⟨g, 1, none⟩ = some (.int .i64 M) ∧ Z.cell? ⟨g, 2, none⟩ = some (.int .i64 S0) ∧ Z.cell? ⟨g, 3, none⟩ = some (.int .i64 H) ∧ Z.cell? ⟨gr, 0, none⟩ = some (.int .i64 L) ∧ Z.cell? ⟨gr, 1, none⟩ = some (.int .i64 M) ∧ Z.cell? ⟨gr, 2, none⟩ = some (.int .i64 S0) ∧ Z.cell? ⟨gr, 3, none⟩ = some (.int .i64 H) ∧ g < Z.heap.size ∧ gr < Z.heap.size from ⟨(KY.out.below hZ).cell 0, (KY.out.below hZ).cell 1, (KY.out.below hZ).cell 2, (KY.out.below hZ).cell 3, (KR.out.below hZ).cell 0, (KR.out.below hZ).cell 1, (KR.out.below hZ).cell 2, (KR.out.below hZ).cell 3, (KY.out.below hZ).lt, (KR.out.below hZ).lt⟩))
        obtain ⟨c0, c1, c2, c3, c4, c5, c6, c7, lg, lr⟩ := SS.out _ (grow_refl Y)
        have hd : (hz != hz) = false := by cases hz <;> rfl
        go_region_held3 (fun Z => Z.cell? ⟨g, 0, none⟩ = some (.int .i64 L) ∧ Z.cell? ⟨g, 1, none⟩ = some (.int .i64 M) ∧ Z.cell? ⟨g, 2, none⟩ = some (.int .i64 S0) ∧ Z.cell? ⟨g, 3, none⟩ = some (.int .i64 H) ∧ Z.cell? ⟨gr, 0, none⟩ = some (.int .i64 L) ∧ Z.cell? ⟨gr, 1, none⟩ = some (.int .i64 M) ∧ Z.cell? ⟨gr, 2, none⟩ = some (.int .i64 S0) ∧ Z.cell? ⟨gr, 3, none⟩ = some (.int .i64 H) ∧ g < Z.heap.size ∧ gr < Z.heap.size) (exact SS.out _ (by (repeat (with_reducible first | exact grow_refl _ | exact B6.out | refine Grow.grow_drewN ?_ _ | refine Grow.grow_drew ?_ | refine Grow.grow_alloc ?_ _))))
          (first
          | (go_at_call 9; go_loud ((with_reducible refine (SH.out _).mono ?_); rintro e w6 ⟨rfl, hb⟩; have B6 := Lib.hid (grow_trans (by (repeat (with_reducible first | exact grow_refl _ | exact B6.out | refine Grow.grow_drewN ?_ _ | refine Grow.grow_drew ?_ | refine Grow.grow_alloc ?_ _))) hb : Below Y.heap.size Y w6); clear hb)))
        have B7 := Lib.hid (grow_trans B5.out B6.out)
        clear c0 c1 c2 c3 c4 c5 c6 c7 lg lr SS hd
        have S2 := Lib.hid (fun Z (hZ : Below X.heap.size X Z) => (show Z.cell? ⟨bp, 0, none⟩ = some (.int .i64 l) ∧ Z.cell? ⟨bp, 1, none⟩ = some (.int .i64 m) ∧ Z.cell? ⟨bp, 2, none⟩ = some (.int .i64 s) ∧ Z.cell? ⟨bp, 3, none⟩ = some (.int .i64 h) ∧ Z.cell? ⟨bq, 0, none⟩ = some (.int .i64 l2) ∧ Z.cell? ⟨bq, 1, none⟩ = some (.int .i64 m2) ∧ Z.cell? ⟨bq, 2, none⟩ = some (.int .i64 s2) ∧ Z.cell? ⟨bq, 3, none⟩ = some (.int .i64 h2) ∧ bp < Z.heap.size ∧ bq < Z.heap.size from ⟨(ZA.out.below hZ).cell 0, (ZA.out.below hZ).cell 1, (ZA.out.below hZ).cell 2, (ZA.out.below hZ).cell 3, (ZB.out.below hZ).cell 0, (ZB.out.below hZ).cell 1, (ZB.out.below hZ).cell 2, (ZB.out.below hZ).cell 3, (ZA.out.below hZ).lt, (ZB.out.below hZ).lt⟩))
        go_upto_region 15 with (fail)
        obtain ⟨e0, e1, e2, e3, e4, e5, e6, e7, la, lb⟩ := S2.out w6 B7.out
        go_region_held3 (fun Z => Z.cell? ⟨bp, 0, none⟩ = some (.int .i64 l) ∧ Z.cell? ⟨bp, 1, none⟩ = some (.int .i64 m) ∧ Z.cell? ⟨bp, 2, none⟩ = some (.int .i64 s) ∧ Z.cell? ⟨bp, 3, none⟩ = some (.int .i64 h) ∧ Z.cell? ⟨bq, 0, none⟩ = some (.int .i64 l2) ∧ Z.cell? ⟨bq, 1, none⟩ = some (.int .i64 m2) ∧ Z.cell? ⟨bq, 2, none⟩ = some (.int .i64 s2) ∧ Z.cell? ⟨bq, 3, none⟩ = some (.int .i64 h2) ∧ bp < Z.heap.size ∧ bq < Z.heap.size) (exact S2.out _ (by (repeat (with_reducible first | exact grow_refl _ | exact B13.out | exact B12.out | exact B11.out | exact B10.out | exact B9.out | exact B8.out | exact B70.out | exact B7.out | refine Grow.grow_drewN ?_ _ | refine Grow.grow_drew ?_ | refine Grow.grow_alloc ?_ _))))
          (first
          | (go_at_call 9; go_loud ((with_reducible refine (SA.out _).mono ?_); rintro e w70 ⟨rfl, hb⟩; have B70 := Lib.hid (grow_trans (by (repeat (with_reducible first | exact grow_refl _ | exact B13.out | exact B12.out | exact B11.out | exact B10.out | exact B9.out | exact B8.out | exact B70.out | exact B7.out | refine Grow.grow_drewN ?_ _ | refine Grow.grow_drew ?_ | refine Grow.grow_alloc ?_ _))) hb : Below X.heap.size X w70); clear hb))
          | (go_at_call 9; go_loud ((with_reducible refine (SB.out _).mono ?_); rintro e w8 ⟨rfl, hb⟩; have B8 := Lib.hid (grow_trans (by (repeat (with_reducible first | exact grow_refl _ | exact B13.out | exact B12.out | exact B11.out | exact B10.out | exact B9.out | exact B8.out | exact B70.out | exact B7.out | refine Grow.grow_drewN ?_ _ | refine Grow.grow_drew ?_ | refine Grow.grow_alloc ?_ _))) hb : Below X.heap.size X w8); clear hb))
          | (go_at_call 10; go_loud ((with_reducible refine (AL.out _ (Z5.out.below (by (repeat (with_reducible first | exact grow_refl _ | exact B13.out | exact B12.out | exact B11.out | exact B10.out | exact B9.out | exact B8.out | exact B70.out | exact B7.out | refine Grow.grow_drewN ?_ _ | refine Grow.grow_drew ?_ | refine Grow.grow_alloc ?_ _))))).mono ?_); rintro e w9 ⟨rfl, hb⟩; have B9 := Lib.hid (grow_trans (by (repeat (with_reducible first | exact grow_refl _ | exact B13.out | exact B12.out | exact B11.out | exact B10.out | exact B9.out | exact B8.out | exact B70.out | exact B7.out | refine Grow.grow_drewN ?_ _ | refine Grow.grow_drew ?_ | refine Grow.grow_alloc ?_ _))) hb : Below X.heap.size X w9); clear hb)))
        have IA := Lib.hid (fun Y => isShape_walk l m s h Y)
        have IB := Lib.hid (fun Y => isShape_walk l2 m2 s2 h2 Y)
        unfold shV at IA IB
        have CD := Lib.hid (fun Y (hY : Below X.heap.size X Y) => (show Calls Tryz.prog 12 #[errV a 5, .int .i64 5] Y fun e u => e = .returned (.bool true) ∧ Below Y.heap.size Y u from coded_same a 5 (by decide) Y (ZS.out.below hY) (ZH.out.below hY) hne))
        rcases HA.out with ⟨hv, rfl, rfl⟩ | ⟨hv, hv2, rfl, rfl⟩ | ⟨hv, hv2, hk, rfl, rfl⟩ | ⟨hv, hv2, hk, rfl, rfl⟩ | ⟨hv, hv2, hk, rfl, rfl⟩
        · rw [hv] at IA
          clear e0 e1 e2 e3 e4 e5 e6 e7 la lb
          obtain ⟨e0, e1, e2, e3, e4, e5, e6, e7, la, lb⟩ := S2.out w9 B9.out
          go_upto_region 17 with (go_at_call 11; go_loud ((with_reducible refine (IA.out _).mono ?_); rintro e w10 ⟨rfl, hb⟩; have B10 := Lib.hid (grow_trans (by (repeat (with_reducible first | exact grow_refl _ | exact B13.out | exact B12.out | exact B11.out | exact B10.out | exact B9.out | exact B8.out | exact B70.out | exact B7.out | refine Grow.grow_drewN ?_ _ | refine Grow.grow_drew ?_ | refine Grow.grow_alloc ?_ _))) hb : Below X.heap.size X w10); clear hb))
          clear e0 e1 e2 e3 e4 e5 e6 e7 la lb
          obtain ⟨e0, e1, e2, e3, e4, e5, e6, e7, la, lb⟩ := S2.out w10 B10.out
          go_upto_region 18 with (go_at_call 11; go_loud ((with_reducible refine (IB.out _).mono ?_); rintro e w11 ⟨rfl, hb⟩; have B11 := Lib.hid (grow_trans (by (repeat (with_reducible first | exact grow_refl _ | exact B13.out | exact B12.out | exact B11.out | exact B10.out | exact B9.out | exact B8.out | exact B70.out | exact B7.out | refine Grow.grow_drewN ?_ _ | refine Grow.grow_drew ?_ | refine Grow.grow_alloc ?_ _))) hb : Below X.heap.size X w11); clear hb))
          go_wp2_with (go_at_call 12; go_loud ((with_reducible refine (CD.out _ (by (repeat (with_reducible first | exact grow_refl _ | exact B13.out | exact B12.out | exact B11.out | exact B10.out | exact B9.out | exact B8.out | exact B70.out | exact B7.out | refine Grow.grow_drewN ?_ _ | refine Grow.grow_drew ?_ | refine Grow.grow_alloc ?_ _)))).mono ?_); rintro e w12 ⟨rfl, hb⟩; have B12 := Lib.hid (grow_trans (by (repeat (with_reducible first | exact grow_refl _ | exact B13.out | exact B12.out | exact B11.out | exact B10.out | exact B9.out | exact B8.out | exact B70.out | exact B7.out | refine Grow.grow_drewN ?_ _ | refine Grow.grow_drew ?_ | refine Grow.grow_alloc ?_ _))) hb : Below X.heap.size X w12); clear hb))
          go_ret
          refine ⟨?_, ?_⟩
          · first
              | rfl
              | simp
          rw [HBP.out]
          exact BX.out.trans (B12.out.mono HXB.out)
        · rw [hv] at IA
          rw [hv2] at IB
          clear e0 e1 e2 e3 e4 e5 e6 e7 la lb
          obtain ⟨e0, e1, e2, e3, e4, e5, e6, e7, la, lb⟩ := S2.out w9 B9.out
          go_upto_region 17 with (go_at_call 11; go_loud ((with_reducible refine (IA.out _).mono ?_); rintro e w10 ⟨rfl, hb⟩; have B10 := Lib.hid (grow_trans (by (repeat (with_reducible first | exact grow_refl _ | exact B13.out | exact B12.out | exact B11.out | exact B10.out | exact B9.out | exact B8.out | exact B70.out | exact B7.out | refine Grow.grow_drewN ?_ _ | refine Grow.grow_drew ?_ | refine Grow.grow_alloc ?_ _))) hb : Below X.heap.size X w10); clear hb))
          clear e0 e1 e2 e3 e4 e5 e6 e7 la lb
          obtain ⟨e0, e1, e2, e3, e4, e5, e6, e7, la, lb⟩ := S2.out w10 B10.out
          go_upto_region 18 with (go_at_call 11; go_loud ((with_reducible refine (IB.out _).mono ?_); rintro e w11 ⟨rfl, hb⟩; have B11 := Lib.hid (grow_trans (by (repeat (with_reducible first | exact grow_refl _ | exact B13.out | exact B12.out | exact B11.out | exact B10.out | exact B9.out | exact B8.out | exact B70.out | exact B7.out | refine Grow.grow_drewN ?_ _ | refine Grow.grow_drew ?_ | refine Grow.grow_alloc ?_ _))) hb : Below X.heap.size X w11); clear hb))
          go_wp2_with (go_at_call 12; go_loud ((with_reducible refine (CD.out _ (by (repeat (with_reducible first | exact grow_refl _ | exact B13.out | exact B12.out | exact B11.out | exact B10.out | exact B9.out | exact B8.out | exact B70.out | exact B7.out | refine Grow.grow_drewN ?_ _ | refine Grow.grow_drew ?_ | refine Grow.grow_alloc ?_ _)))).mono ?_); rintro e w12 ⟨rfl, hb⟩; have B12 := Lib.hid (grow_trans (by (repeat (with_reducible first | exact grow_refl _ | exact B13.out | exact B12.out | exact B11.out | exact B10.out | exact B9.out | exact B8.out | exact B70.out | exact B7.out | refine Grow.grow_drewN ?_ _ | refine Grow.grow_drew ?_ | refine Grow.grow_alloc ?_ _))) hb : Below X.heap.size X w12); clear hb))
          go_ret
          refine ⟨?_, ?_⟩
          · first
              | rfl
              | simp
          rw [HBP.out]
          exact BX.out.trans (B12.out.mono HXB.out)
        · rw [hv] at IA
          rw [hv2] at IB
          have dk : decide (k < 0) = true := decide_eq_true hk
          clear e0 e1 e2 e3 e4 e5 e6 e7 la lb
          obtain ⟨e0, e1, e2, e3, e4, e5, e6, e7, la, lb⟩ := S2.out w9 B9.out
          go_upto_region 17 with (go_at_call 11; go_loud ((with_reducible refine (IA.out _).mono ?_); rintro e w10 ⟨rfl, hb⟩; have B10 := Lib.hid (grow_trans (by (repeat (with_reducible first | exact grow_refl _ | exact B13.out | exact B12.out | exact B11.out | exact B10.out | exact B9.out | exact B8.out | exact B70.out | exact B7.out | refine Grow.grow_drewN ?_ _ | refine Grow.grow_drew ?_ | refine Grow.grow_alloc ?_ _))) hb : Below X.heap.size X w10); clear hb))
          clear e0 e1 e2 e3 e4 e5 e6 e7 la lb
          obtain ⟨e0, e1, e2, e3, e4, e5, e6, e7, la, lb⟩ := S2.out w10 B10.out
          go_upto_region 18 with (go_at_call 11; go_loud ((with_reducible refine (IB.out _).mono ?_); rintro e w11 ⟨rfl, hb⟩; have B11 := Lib.hid (grow_trans (by (repeat (with_reducible first | exact grow_refl _ | exact B13.out | exact B12.out | exact B11.out | exact B10.out | exact B9.out | exact B8.out | exact B70.out | exact B7.out | refine Grow.grow_drewN ?_ _ | refine Grow.grow_drew ?_ | refine Grow.grow_alloc ?_ _))) hb : Below X.heap.size X w11); clear hb))
          go_wp2_with (go_at_call 12; go_loud ((with_reducible refine (CD.out _ (by (repeat (with_reducible first | exact grow_refl _ | exact B13.out | exact B12.out | exact B11.out | exact B10.out | exact B9.out | exact B8.out | exact B70.out | exact B7.out | refine Grow.grow_drewN ?_ _ | refine Grow.grow_drew ?_ | refine Grow.grow_alloc ?_ _)))).mono ?_); rintro e w12 ⟨rfl, hb⟩; have B12 := Lib.hid (grow_trans (by (repeat (with_reducible first | exact grow_refl _ | exact B13.out | exact B12.out | exact B11.out | exact B10.out | exact B9.out | exact B8.out | exact B70.out | exact B7.out | refine Grow.grow_drewN ?_ _ | refine Grow.grow_drew ?_ | refine Grow.grow_alloc ?_ _))) hb : Below X.heap.size X w12); clear hb))
          go_ret
          refine ⟨?_, ?_⟩
          · first
              | rfl
              | simp
          rw [HBP.out]
          exact BX.out.trans (B12.out.mono HXB.out)
        · rw [hv] at IA
          rw [hv2] at IB
          have dk : decide (k < 0) = false := decide_eq_false (by omega)
          have dm : decide (1000 < k) = true := decide_eq_true hk
          clear e0 e1 e2 e3 e4 e5 e6 e7 la lb
          obtain ⟨e0, e1, e2, e3, e4, e5, e6, e7, la, lb⟩ := S2.out w9 B9.out
          go_upto_region 17 with (go_at_call 11; go_loud ((with_reducible refine (IA.out _).mono ?_); rintro e w10 ⟨rfl, hb⟩; have B10 := Lib.hid (grow_trans (by (repeat (with_reducible first | exact grow_refl _ | exact B13.out | exact B12.out | exact B11.out | exact B10.out | exact B9.out | exact B8.out | exact B70.out | exact B7.out | refine Grow.grow_drewN ?_ _ | refine Grow.grow_drew ?_ | refine Grow.grow_alloc ?_ _))) hb : Below X.heap.size X w10); clear hb))
          clear e0 e1 e2 e3 e4 e5 e6 e7 la lb
          obtain ⟨e0, e1, e2, e3, e4, e5, e6, e7, la, lb⟩ := S2.out w10 B10.out
          go_upto_region 18 with (go_at_call 11; go_loud ((with_reducible refine (IB.out _).mono ?_); rintro e w11 ⟨rfl, hb⟩; have B11 := Lib.hid (grow_trans (by (repeat (with_reducible first | exact grow_refl _ | exact B13.out | exact B12.out | exact B11.out | exact B10.out | exact B9.out | exact B8.out | exact B70.out | exact B7.out | refine Grow.grow_drewN ?_ _ | refine Grow.grow_drew ?_ | refine Grow.grow_alloc ?_ _))) hb : Below X.heap.size X w11); clear hb))
          go_wp2_with (go_at_call 12; go_loud ((with_reducible refine (CD.out _ (by (repeat (with_reducible first | exact grow_refl _ | exact B13.out | exact B12.out | exact B11.out | exact B10.out | exact B9.out | exact B8.out | exact B70.out | exact B7.out | refine Grow.grow_drewN ?_ _ | refine Grow.grow_drew ?_ | refine Grow.grow_alloc ?_ _)))).mono ?_); rintro e w12 ⟨rfl, hb⟩; have B12 := Lib.hid (grow_trans (by (repeat (with_reducible first | exact grow_refl _ | exact B13.out | exact B12.out | exact B11.out | exact B10.out | exact B9.out | exact B8.out | exact B70.out | exact B7.out | refine Grow.grow_drewN ?_ _ | refine Grow.grow_drew ?_ | refine Grow.grow_alloc ?_ _))) hb : Below X.heap.size X w12); clear hb))
          go_ret
          refine ⟨?_, ?_⟩
          · first
              | rfl
              | simp
          rw [HBP.out]
          exact BX.out.trans (B12.out.mono HXB.out)
        · have AR := Lib.hid (fun Y => alikeR_walk l m s h l2 m2 s2 h2 k Y hk hv hv2)
          unfold shV at AR
          generalize alikeB l m s h l2 m2 s2 h2 k = rb at *
          rw [hv] at IA
          rw [hv2] at IB
          have dk : decide (k < 0) = false := decide_eq_false (by omega)
          have dm : decide (1000 < k) = false := decide_eq_false (by omega)
          clear e0 e1 e2 e3 e4 e5 e6 e7 la lb
          obtain ⟨e0, e1, e2, e3, e4, e5, e6, e7, la, lb⟩ := S2.out w9 B9.out
          go_upto_region 17 with (go_at_call 11; go_loud ((with_reducible refine (IA.out _).mono ?_); rintro e w10 ⟨rfl, hb⟩; have B10 := Lib.hid (grow_trans (by (repeat (with_reducible first | exact grow_refl _ | exact B13.out | exact B12.out | exact B11.out | exact B10.out | exact B9.out | exact B8.out | exact B70.out | exact B7.out | refine Grow.grow_drewN ?_ _ | refine Grow.grow_drew ?_ | refine Grow.grow_alloc ?_ _))) hb : Below X.heap.size X w10); clear hb))
          clear e0 e1 e2 e3 e4 e5 e6 e7 la lb
          obtain ⟨e0, e1, e2, e3, e4, e5, e6, e7, la, lb⟩ := S2.out w10 B10.out
          go_upto_region 18 with (go_at_call 11; go_loud ((with_reducible refine (IB.out _).mono ?_); rintro e w11 ⟨rfl, hb⟩; have B11 := Lib.hid (grow_trans (by (repeat (with_reducible first | exact grow_refl _ | exact B13.out | exact B12.out | exact B11.out | exact B10.out | exact B9.out | exact B8.out | exact B70.out | exact B7.out | refine Grow.grow_drewN ?_ _ | refine Grow.grow_drew ?_ | refine Grow.grow_alloc ?_ _))) hb : Below X.heap.size X w11); clear hb))
          clear e0 e1 e2 e3 e4 e5 e6 e7 la lb
          obtain ⟨e0, e1, e2, e3, e4, e5, e6, e7, la, lb⟩ := S2.out w11 B11.out
          go_wp2_with (go_at_call 13; go_loud ((with_reducible refine (AR.out _).mono ?_); rintro e w12 ⟨rfl, hb⟩; have B12 := Lib.hid (grow_trans (by (repeat (with_reducible first | exact grow_refl _ | exact B13.out | exact B12.out | exact B11.out | exact B10.out | exact B9.out | exact B8.out | exact B70.out | exact B7.out | refine Grow.grow_drewN ?_ _ | refine Grow.grow_drew ?_ | refine Grow.grow_alloc ?_ _))) hb : Below X.heap.size X w12); clear hb))
          go_ret
          refine ⟨?_, ?_⟩
          · first
              | rfl
              | simp
          rw [HBP.out]
          exact BX.out.trans (B12.out.mono HXB.out)
end Go.Proofs.YtlnbeildplafbaaGreatDoor
/- Shapes of three points: the law, whole; the list of points that came in, opened. -/
set_option linter.unusedSimpArgs false
set_option linter.unusedVariables false
namespace Go.Proofs.YtlnbeildplafbaaGreatDoor
open Go.ChangeShapes Go.WideShapes Go.RowKit Go.Grow Go.Deep Go.Atl Go.Pl

theorem shapes_walk (a : Nat → Addr) (r : Option Addr) (len cap : Nat) (l m s h l2 m2 s2 h2 k : Int) (w : World) (hs : Sen a allK w) (hh : Hand w) (hne : ∀ j ∈ allK, ∀ k ∈ allK, j ≠ k → a j ≠ a k)
    (hll : len ≤ 9223372036854775807) (hr : 3 ≤ len → ∃ b o p q t, r = some ⟨b, o, none⟩ ∧ Row9 w b o p q t) :
    Calls Tryz.prog 3 #[.slice r len cap, shV l m s h, shV l2 m2 s2 h2, .int .i64 k] w fun e w' => e = .returned (.bool true) ∧ Below w.heap.size w w' := by
  by_cases h3 : 3 ≤ len
  · obtain ⟨b, o, p, q, t, rfl, h9⟩ := hr h3
    exact shapes_row a p q t b o len cap l m s h l2 m2 s2 h2 k w h3 hll hs hh hne h9
  · exact shapes_few r len cap l m s h l2 m2 s2 h2 k w (by omega)
theorem cellsInP : Tryz.prog.cellsOf 3 = 1 := by kernel_rfl
theorem cellsCeP : Tryz.prog.cellsOf 28 = 3 := by kernel_rfl
theorem cellsShP : Tryz.prog.cellsOf 24 = 4 := by kernel_rfl
theorem addNsP (b o k : Nat) : (⟨b, o, none⟩ : Addr).add k = ⟨b, o + k, none⟩ := by
  unfold Addr.add
  split <;> simp_all
def CeCells (W : World) (a : Addr) (e : Dr) : Prop := W.cell? a = some (.int .i64 e.x) ∧ W.cell? (a.add 1) = some (.int .i64 e.y) ∧ W.cell? (a.add 2) = some (.int .i64 e.z)
set_option maxRecDepth 100000 in
theorem open_ce1 {H : Type} {enc : TypeId × Value → H} {W : World} {base : Nat} {spare : Nat → Bool} {held : Bool} {nn k : Nat} {a0 : Addr} {cs' : List Value} {x : DataW H × List MemPlace}
    (hc : W.cells? base (a0.add (k * 3)) 3 = some cs') (ht : DataW.trod enc Tryz.prog W base spare held nn 28 cs' = some x) :
    ∃ e : Dr, CeCells W (a0.add (k * 3)) e := by
  obtain ⟨_, hcl, hat⟩ := World.cells?_some hc
  obtain ⟨xs, n1, _, _, _, hxl, hf⟩ := DataW.trod_struct Tryz.underlying28 ht
  match cs', hcl with
  | [c0, c1, c2], _ =>
    match xs, hxl with
    | [z0, z1, z2], _ =>
      have g0 := hf 0 _ rfl
      have g1 := hf 1 _ rfl
      have g2 := hf 2 _ rfl
      obtain ⟨a, e1, _⟩ := DataW.trod_int Tryz.underlying3 (x := z0) g0
      obtain ⟨b, e2, _⟩ := DataW.trod_int Tryz.underlying3 (x := z1) g1
      obtain ⟨c, e3, _⟩ := DataW.trod_int Tryz.underlying3 (x := z2) g2
      simp [cellsInP] at e1 e2 e3
      refine ⟨⟨a, b, c⟩, ?_, ?_, ?_⟩
      · have := hat 0 (by decide)
        rw [show (a0.add (k * 3)).add 0 = a0.add (k * 3) from rfl] at this
        rw [this, e1]; rfl
      · rw [hat 1 (by decide), e2]; rfl
      · rw [hat 2 (by decide), e3]; rfl
theorem open_cells {H : Type} {enc : TypeId × Value → H} {W : World} {fuel : Nat} {s : Option Addr} {len cap : Nat} {x : DataW H × List MemPlace}
    (hf : DataW.trod enc Tryz.prog W 0 (fun _ => true) true fuel 22 (Value.slice s len cap).cells.toList = some x) :
    len ≤ 9223372036854775807 ∧ (3 ≤ len → ∃ b o p q t, s = some ⟨b, o, none⟩ ∧ Row9 W b o p q t) := by
  rcases open_slice Tryz.underlying22 hf with ⟨hcs, _⟩ | ⟨a0, len', cap', m, nn, D, Pl, hcs, _, hlc, hcm, hmm, hx, hi⟩
  · have hcs' : (Value.slice s len cap) = .slice none 0 0 := by simpa [Value.cells] using hcs
    cases hcs'
    exact ⟨by omega, fun h => absurd h (by omega)⟩
  · have hcs' : (Value.slice s len cap) = .slice (some a0) len' cap' := by simpa [Value.cells] using hcs
    cases hcs'
    have hle : len ≤ 9223372036854775807 := by unfold maxLen at hcm; omega
    have hm : len ≤ m := by rw [hmm]; split <;> omega
    refine ⟨hle, fun h3 => ?_⟩
    have key : ∀ k, k < len → ∃ e : Dr, CeCells W (a0.add (k * 3)) e := fun k hk => by
      obtain ⟨cs', hc, ht'⟩ := hi k (by omega)
      rw [cellsCeP] at hc
      exact open_ce1 hc ht'
    obtain ⟨p, hp⟩ := key 0 (by omega)
    obtain ⟨q, hq⟩ := key 1 (by omega)
    obtain ⟨t, ht⟩ := key 2 (by omega)
    obtain ⟨b0, o0, sp⟩ := a0
    have hsp : sp = none := by
      have h := hp.1
      rw [Nat.zero_mul] at h
      simpa [Addr.add] using World.cell?_spot h
    subst hsp
    simp only [CeCells, addNsP] at hp hq ht
    exact ⟨b0, o0, p, q, t, rfl, ⟨hp.1, hp.2.1, hp.2.2, hq.1, hq.2.1, hq.2.2, ht.1, ht.2.1, ht.2.2⟩⟩
end Go.Proofs.YtlnbeildplafbaaGreatDoor
