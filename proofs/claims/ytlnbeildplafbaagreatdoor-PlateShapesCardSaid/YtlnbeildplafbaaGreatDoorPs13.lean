/- Shapes of three points: the document's rank. -/
import Derived.Test.YtlnbeildplafbaaGreatDoorPs12
import Derived.Deep.CutBlock
set_option linter.unusedSimpArgs false
set_option linter.unusedVariables false
namespace Go.Proofs.YtlnbeildplafbaaGreatDoor
open Go.RowKit Go.Grow Go.Wd Go.Atl Go.Pl

theorem known_set3 {w : World} {b : Nat} {z0 z1 z2 z3 z4 z5 z6 : Value} (h : Known w b #[z0, z1, z2, z3, z4, z5, z6]) (v : Value) : Known (w.setCell ⟨b, 3, none⟩ v) b #[z0, z1, z2, v, z4, z5, z6] := by
  have := h.same 3 v
  simpa using this
theorem row9_cell {V : World} {b o : Nat} {p q t : Dr} (h : Row9 V b o p q t) (k : Nat) (hk : k < 3) : V.cell? ⟨b, o + k * 3, none⟩ = some (.int .i64 (pt p q t k).x) ∧ V.cell? ⟨b, o + k * 3 + 1, none⟩ = some (.int .i64 (pt p q t k).y) ∧ V.cell? ⟨b, o + k * 3 + 2, none⟩ = some (.int .i64 (pt p q t k).z) := by
  match k, hk with
  | 0, _ => exact ⟨h.c0, h.c1, h.c2⟩
  | 1, _ => exact ⟨h.c3, h.c4, h.c5⟩
  | 2, _ => exact ⟨h.c6, h.c7, h.c8⟩
theorem Row9.other {w : World} {b o : Nat} {p q t : Dr} (h : Row9 w b o p q t) {g : Nat} (hg : g ≠ b) (i : Nat) (v : Value) : Row9 (w.setCell ⟨g, i, none⟩ v) b o p q t := by
  have key : ∀ j, (w.setCell ⟨g, i, none⟩ v).cell? ⟨b, j, none⟩ = w.cell? ⟨b, j, none⟩ := fun j => by rw [cell?_put, if_neg (fun e => hg e.1)]
  exact ⟨(key _).trans h.c0, (key _).trans h.c1, (key _).trans h.c2, (key _).trans h.c3, (key _).trans h.c4, (key _).trans h.c5, (key _).trans h.c6, (key _).trans h.c7, (key _).trans h.c8⟩
theorem known_swap01 {w : World} {b : Nat} {x y z : Value} (h : Known w b #[x, y, z]) : Known ((w.setCell ⟨b, 0, none⟩ y).setCell ⟨b, 1, none⟩ x) b #[y, x, z] := by
  have := (h.same 0 y).same 1 x
  simpa using this
theorem known_swap12 {w : World} {b : Nat} {x y z : Value} (h : Known w b #[x, y, z]) : Known ((w.setCell ⟨b, 1, none⟩ z).setCell ⟨b, 2, none⟩ y) b #[x, z, y] := by
  have := (h.same 1 z).same 2 y
  simpa using this
set_option maxRecDepth 100000 in
set_option maxHeartbeats 16000000 in
theorem rank_good (p q t : Dr) (b o len cap : Nat) (hlen : 3 ≤ len) (ha : goodP p = true) (hb : goodP q = true) (hc : goodP t = true) (hz : arZ p q t ≠ 0) (w : World) (hr : Row9 w b o p q t) :
    Calls Tryz.prog 8 #[.slice (some ⟨b, o, none⟩) len cap, .int .i64 0, .int .i64 1, .int .i64 2] w fun e w' => e = .returned (.tuple #[rkV (longZ p q t) (midZ p q t) (shortZ p q t) (handZ p q t) (ord3 (acr p q t)).1 (ord3 (acr p q t)).2.1 (ord3 (acr p q t)).2.2, .bool true]) ∧ Below w.heap.size w w' := by
  have IA := Lib.hid (fun X => isPoint_walk p X)
  have IB := Lib.hid (fun X => isPoint_walk q X)
  have IC := Lib.hid (fun X => isPoint_walk t X)
  have TW := Lib.hid (fun X => twice_walk p q t ha hb hc X)
  have Q0 := Lib.hid (fun X => between_walk q t hb hc X)
  have Q1 := Lib.hid (fun X => between_walk t p hc ha X)
  have Q2 := Lib.hid (fun X => between_walk p q ha hb X)
  unfold drV at TW Q0 Q1 Q2
  have hz2 : (arZ p q t == 0) = false := beq_eq_false_iff_ne.2 hz
  rw [ha] at IA
  rw [hb] at IB
  rw [hc] at IC
  unfold drV at IA IB IC
  have al := alloc_rk
  have x0 : (0 : Int) < (len : Int) := by omega
  have x1 : (1 : Int) < (len : Int) := by omega
  have x2 : (2 : Int) < (len : Int) := by omega
  have HR := Lib.hid hr
  clear hr
  go_enter Tryz.func8, Tryz.ntmps8
  go_upto_region 1 with (fail)
  refine seal_wp fun X hX => ?_
  have ZK := Lib.hid (show Known X w.heap.size #[.int .i64 0, .int .i64 0, .int .i64 0, .int .i64 0, .int .i64 0, .int .i64 0, .int .i64 0] by rw [hX.out]; exact Known.new w _ _)
  have BX := Lib.hid (show Below w.heap.size w X by rw [hX.out]; exact grow_alloc (grow_refl w) _)
  have ZR := Lib.hid (HR.out.below BX.out)
  clear hX
  have BX1 := Lib.hid BX.out.size
  generalize hbp : w.heap.size = bp at *
  have HBP := Lib.hid hbp
  clear hbp
  have c0 := ZR.out.c0
  have c1 := ZR.out.c1
  have c2 := ZR.out.c2
  have c3 := ZR.out.c3
  have c4 := ZR.out.c4
  have c5 := ZR.out.c5
  have c6 := ZR.out.c6
  have c7 := ZR.out.c7
  have c8 := ZR.out.c8
  have lb := ZR.out.lt
  go_upto_region 4 with (first
    | (go_at_call 22; go_loud ((with_reducible refine (IA.out _).mono ?_); rintro e w1 ⟨rfl, hb⟩; have B1 := Lib.hid (grow_trans (grow_refl X) hb : Below X.heap.size X w1); clear hb IA c0 c1 c2 c3 c4 c5 c6 c7 c8 lb; have c0 := (ZR.out.below B1.out).c0; have c1 := (ZR.out.below B1.out).c1; have c2 := (ZR.out.below B1.out).c2; have c3 := (ZR.out.below B1.out).c3; have c4 := (ZR.out.below B1.out).c4; have c5 := (ZR.out.below B1.out).c5; have c6 := (ZR.out.below B1.out).c6; have c7 := (ZR.out.below B1.out).c7; have c8 := (ZR.out.below B1.out).c8; have lb := (ZR.out.below B1.out).lt))
    | (go_at_call 22; go_loud ((with_reducible refine (IB.out _).mono ?_); rintro e w2 ⟨rfl, hb⟩; have B2 := Lib.hid (grow_trans (B1.out) hb : Below X.heap.size X w2); clear hb IB c0 c1 c2 c3 c4 c5 c6 c7 c8 lb; have c0 := (ZR.out.below B2.out).c0; have c1 := (ZR.out.below B2.out).c1; have c2 := (ZR.out.below B2.out).c2; have c3 := (ZR.out.below B2.out).c3; have c4 := (ZR.out.below B2.out).c4; have c5 := (ZR.out.below B2.out).c5; have c6 := (ZR.out.below B2.out).c6; have c7 := (ZR.out.below B2.out).c7; have c8 := (ZR.out.below B2.out).c8; have lb := (ZR.out.below B2.out).lt))
    | (go_at_call 22; go_loud ((with_reducible refine (IC.out _).mono ?_); rintro e w3 ⟨rfl, hb⟩; have B3 := Lib.hid (grow_trans (B2.out) hb : Below X.heap.size X w3); clear hb IC c0 c1 c2 c3 c4 c5 c6 c7 c8 lb; have c0 := (ZR.out.below B3.out).c0; have c1 := (ZR.out.below B3.out).c1; have c2 := (ZR.out.below B3.out).c2; have c3 := (ZR.out.below B3.out).c3; have c4 := (ZR.out.below B3.out).c4; have c5 := (ZR.out.below B3.out).c5; have c6 := (ZR.out.below B3.out).c6; have c7 := (ZR.out.below B3.out).c7; have c8 := (ZR.out.below B3.out).c8; have lb := (ZR.out.below B3.out).lt)))
  refine Grow.wp_region_plan (.quiet [0, 1, 2, 3, 4, 5, 6, 7, 8, 9, 10, 11, 12, 13, 15, 16, 17, 19, 20, 21] (.reads [14, 18, 22] (.tail [23, 24, 25]))) (by kernel_rfl) (by kernel_rfl) (by kernel_rfl) (by kernel_rfl) ?_ ?_
  · intro c aa d v ww h
    first
      | exact Grow.bodyPost_blind h
      | (simp (config := {zetaDelta := true}) only [Exit.then, Exit.inBlock] at h ⊢; first | exact Grow.bodyPost_blind h | exact h)
  simp only [Grow.Plan.wp, Grow.pick, List.getElem?_cons_zero, List.getElem?_cons_succ, List.cons_append, List.nil_append]
  repeat (go_big_quiet_step (fail))
  refine wpQuiet_nil ?_
  repeat (go_big_quiet_step (fail))
  refine wpQuiet_nil ?_
  go_upto_region 7 with (go_at_call 23; go_loud ((with_reducible refine (TW.out _).mono ?_); rintro e w4 ⟨rfl, hb⟩; have B4 := Lib.hid (grow_trans (grow_drew B3.out) hb : Below X.heap.size X w4); clear hb c0 c1 c2 c3 c4 c5 c6 c7 c8 lb TW))
  have ZR4 := Lib.hid (ZR.out.below B4.out)
  have ZK4 := Lib.hid (ZK.out.below B4.out)
  have BW4 := Lib.hid (show Below w.heap.size w w4 by rw [HBP.out]; exact BX.out.trans (B4.out.mono BX1.out))
  refine seal_wp fun Y hY => ?_
  have BT := Lib.hid (show Below w4.heap.size w4 Y by rw [hY.out]; exact grow_alloc (grow_refl w4) _)
  have KA := Lib.hid (show Known Y w4.heap.size #[.int .i64 0, .int .i64 1, .int .i64 2] by rw [hY.out]; exact Known.new _ _ _)
  have BY := Lib.hid (show Below X.heap.size X Y by rw [hY.out]; exact grow_alloc B4.out _)
  have hga := B4.out.size
  clear hY
  generalize hgaa : w4.heap.size = ga at *
  have HGA := Lib.hid hgaa
  clear hgaa
  have ZR := Lib.hid (ZR.out.below BY.out)
  have lga := KA.out.lt
  have BW := Lib.hid (show Below w.heap.size w Y by rw [HBP.out]; exact BX.out.trans (BY.out.mono BX1.out))
  clear B1 B2 B3 B4 BY BX
  have c0 := ZR.out.c0
  have c1 := ZR.out.c1
  have c2 := ZR.out.c2
  have c3 := ZR.out.c3
  have c4 := ZR.out.c4
  have c5 := ZR.out.c5
  have c6 := ZR.out.c6
  have c7 := ZR.out.c7
  have c8 := ZR.out.c8
  have lb := ZR.out.lt
  go_cut [14] (fun v wx => ∃ gf, v = .slice (some ⟨gf, 0, none⟩) 3 3 ∧ Y.heap.size ≤ gf ∧ Known wx gf #[.int .i64 (sqZ q t), .int .i64 (sqZ t p), .int .i64 (sqZ p q)] ∧ Below Y.heap.size Y wx)
  case first =>
    refine Grow.wp_region_calls (grow_refl Y) [0, 1, 2, 4, 5, 6, 9, 10, 11, 13, 14, 15, 18, 19, 20, 22, 23, 24] [3, 7, 12, 16, 21, 25] [8, 17, 26, 27, 28] (by kernel_rfl) (by kernel_rfl) (by kernel_rfl) (by kernel_rfl) (by kernel_rfl) (by kernel_rfl) ?_ ?_
    · intro c aa d v ww h
      simp (config := {zetaDelta := true}) only [Exit.then, Exit.inBlock] at h ⊢
      first | exact h | exact Grow.bodyPost_blind h
    simp only [Grow.pick, List.getElem?_cons_zero, List.getElem?_cons_succ, List.cons_append, List.nil_append]
    repeat (go_big_quiet_step (fail))
    refine wpQuiet_nil ?_
    repeat (go_big_quiet_step (fail))
    refine wpQuiet_nil ?_
    clear c0 c1 c2 c3 c4 c5 c6 c7 c8 lb
    have C0 : Below Y.heap.size Y Y.drew := grow_drew (grow_refl Y)
    generalize Y.drew = Y1 at *
    (try unfold seqC)
    go_wp2_with (go_at_call 24; (with_reducible refine (Q0.out _).mono ?_); rintro e v1 ⟨rfl, hb⟩; have C1 : Below Y.heap.size Y v1 := grow_trans C0 hb; clear hb)
    first
      | refine ⟨C1, ?_⟩
      | skip
    (try unfold seqC)
    go_wp2_with (go_at_call 24; (with_reducible refine (Q1.out _).mono ?_); rintro e v2 ⟨rfl, hb⟩; have C2 : Below Y.heap.size Y v2 := grow_trans C1 hb; clear hb)
    first
      | refine ⟨C2, ?_⟩
      | skip
    (try unfold seqC)
    go_wp2_with (go_at_call 24; (with_reducible refine (Q2.out _).mono ?_); rintro e v3 ⟨rfl, hb⟩; have C3 : Below Y.heap.size Y v3 := grow_trans C2 hb; clear hb)
    first
      | refine ⟨C3, ?_⟩
      | skip
    (try unfold seqC)
    go_wp2
    have C4 : Below Y.heap.size Y (v3.alloc (.cells #[.int .i64 (sqZ q t), .int .i64 (sqZ t p), .int .i64 (sqZ p q)] 3)) := grow_alloc C3 _
    first
      | refine ⟨C4, ?_⟩
      | skip
    (try unfold seqC)
    go_wp2
    first
      | refine ⟨C4, ?_⟩
      | skip
    (try unfold seqC)
    go_wp2
    go_meet
    exact ⟨_, rfl, C3.size, Known.new _ _ _, C4⟩
  case rest =>
    obtain ⟨gf, rfl, hgf, hkf, hbf⟩ := hcut
    have KF := Lib.hid hkf
    have KA := Lib.hid (KA.out.below hbf)
    have BT := Lib.hid (BT.out.trans (hbf.mono (Nat.le_of_lt lga)) : Below ga w4 wc)
    clear hkf hbf BW ZR ZK
    have hgl : ga < gf := by omega
    clear hgf lga
    generalize wc = V at *
    have E0 := Lib.hid (show sqZ q t = acr p q t 0 from rfl)
    have E1 := Lib.hid (show sqZ t p = acr p q t 1 from rfl)
    have E2 := Lib.hid (show sqZ p q = acr p q t 2 from rfl)
    rw [E0.out, E1.out, E2.out] at KF
    go_upto_block 0 with (fail)
    go_cut [] (fun wx => Known wx gf #[.int .i64 (longZ p q t), .int .i64 (midZ p q t), .int .i64 (shortZ p q t)] ∧ Known wx ga #[.int .i64 ((ord3 (acr p q t)).1 : Nat), .int .i64 ((ord3 (acr p q t)).2.1 : Nat), .int .i64 ((ord3 (acr p q t)).2.2 : Nat)] ∧ Below ga w4 wx)
    case first =>
      clear E0 E1 E2
      have n1 : gf ≠ ga := by omega
      have n2 : ga ≠ gf := by omega
      by_cases h01 : acr p q t 0 < acr p q t 1
      · by_cases h02 : acr p q t 0 < acr p q t 2
        · by_cases h12 : acr p q t 1 < acr p q t 2
          · have HO := Lib.hid (show ord3 (acr p q t) = (2, 1, 0) by unfold ord3; rw [if_pos h01, if_pos h02, if_pos h12])
            have EL := Lib.hid (show longZ p q t = acr p q t 2 by unfold longZ; rw [HO.out])
            have EM := Lib.hid (show midZ p q t = acr p q t 1 by unfold midZ; rw [HO.out])
            have ES := Lib.hid (show shortZ p q t = acr p q t 0 by unfold shortZ; rw [HO.out])
            generalize acr p q t 0 = D0 at *
            generalize acr p q t 1 = D1 at *
            generalize acr p q t 2 = D2 at *
            go_wp2
            refine wp_loop_rounds 3 ?_
            rw [rounds_succ]
            go_wp2
            refine wp_loop_rounds 3 ?_
            rw [rounds_succ]
            go_upto_region 14 with (fail)
            have f0 := KF.out.cell 0
            have ff0 := KF.out.frozen 0
            have f1 := KF.out.cell 1
            have ff1 := KF.out.frozen 1
            have f2 := KF.out.cell 2
            have ff2 := KF.out.frozen 2
            have fl := KF.out.lt
            simp only [List.getElem?_toArray, List.getElem?_cons_zero, List.getElem?_cons_succ] at f0 f1 f2
            have dd : decide (D0 < D1) = true := decide_eq_true (by omega)
            go_quiet (fail)
            clear f0 ff0 f1 ff1 f2 ff2 fl
            clear dd
            have G := Lib.hid (grow_drewN (grow_refl V) nq : Below V.heap.size V (V.drewN nq))
            replace BT := Lib.hid (BT.out.trans (G.out.mono (Nat.le_of_lt KA.out.lt)))
            replace KF := Lib.hid (KF.out.below G.out)
            replace KA := Lib.hid (KA.out.below G.out)
            clear G
            generalize V.drewN nq = V1 at *
            go_upto_region 15 with (fail)
            have f0 := KF.out.cell 0
            have ff0 := KF.out.frozen 0
            have f1 := KF.out.cell 1
            have ff1 := KF.out.frozen 1
            have f2 := KF.out.cell 2
            have ff2 := KF.out.frozen 2
            have fl := KF.out.lt
            simp only [List.getElem?_toArray, List.getElem?_cons_zero, List.getElem?_cons_succ] at f0 f1 f2
            refine Grow.wp_region_plan (.quiet [0, 1, 2, 3, 4, 5, 6, 7, 8, 10, 11, 12] (.reads [9, 13] (.tail [14, 15, 16, 17]))) (by kernel_rfl) (by kernel_rfl) (by kernel_rfl) (by kernel_rfl) ?_ ?_
            · intro c aa d v ww h
              first
                | exact Grow.bodyPost_blind h
                | (simp (config := {zetaDelta := true}) only [Exit.then, Exit.inBlock] at h ⊢; first | exact Grow.bodyPost_blind h | exact h)
            simp only [Grow.Plan.wp, Grow.pick, List.getElem?_cons_zero, List.getElem?_cons_succ, List.cons_append, List.nil_append]
            repeat (go_big_quiet_step (fail))
            refine wpQuiet_nil ?_
            repeat (go_big_quiet_step (fail))
            refine wpQuiet_nil ?_
            go_upto_region 16 with (fail)
            clear f0 ff0 f1 ff1 f2 ff2 fl
            refine seal_wp fun W1a hX => ?_
            have N1 := Lib.hid (show Known W1a gf #[.int .i64 D1, .int .i64 D0, .int .i64 D2] by rw [hX.out]; exact (known_swap01 KF.out).drew)
            have N2 := Lib.hid (show Known W1a ga #[.int .i64 0, .int .i64 1, .int .i64 2] by rw [hX.out]; exact ((KA.out.other n1 _ _).other n1 _ _).drew)
            have N3 := Lib.hid (show Below ga w4 W1a by rw [hX.out]; exact ((BT.out.setCell (Nat.le_of_lt hgl) _).setCell (Nat.le_of_lt hgl) _).drew)
            clear hX KF KA BT
            have KF := N1
            have KA := N2
            have BT := N3
            clear N1 N2 N3
            have f0 := KA.out.cell 0
            have ff0 := KA.out.frozen 0
            have f1 := KA.out.cell 1
            have ff1 := KA.out.frozen 1
            have f2 := KA.out.cell 2
            have ff2 := KA.out.frozen 2
            have fl := KA.out.lt
            simp only [List.getElem?_toArray, List.getElem?_cons_zero, List.getElem?_cons_succ] at f0 f1 f2
            refine Grow.wp_region_plan (.quiet [0, 1, 2, 3, 4, 5, 6, 7, 8, 10, 11, 12] (.reads [9, 13] (.tail [14, 15, 16, 17]))) (by kernel_rfl) (by kernel_rfl) (by kernel_rfl) (by kernel_rfl) ?_ ?_
            · intro c aa d v ww h
              first
                | exact Grow.bodyPost_blind h
                | (simp (config := {zetaDelta := true}) only [Exit.then, Exit.inBlock] at h ⊢; first | exact Grow.bodyPost_blind h | exact h)
            simp only [Grow.Plan.wp, Grow.pick, List.getElem?_cons_zero, List.getElem?_cons_succ, List.cons_append, List.nil_append]
            repeat (go_big_quiet_step (fail))
            refine wpQuiet_nil ?_
            repeat (go_big_quiet_step (fail))
            refine wpQuiet_nil ?_
            go_upto_region 13 with (fail)
            clear f0 ff0 f1 ff1 f2 ff2 fl
            refine seal_wp fun W1b hX => ?_
            have N1 := Lib.hid (show Known W1b ga #[.int .i64 1, .int .i64 0, .int .i64 2] by rw [hX.out]; exact (known_swap01 KA.out).drew)
            have N2 := Lib.hid (show Known W1b gf #[.int .i64 D1, .int .i64 D0, .int .i64 D2] by rw [hX.out]; exact ((KF.out.other n2 _ _).other n2 _ _).drew)
            have N3 := Lib.hid (show Below ga w4 W1b by rw [hX.out]; exact ((BT.out.setCell (Nat.le_refl ga) _).setCell (Nat.le_refl ga) _).drew)
            clear hX KF KA BT
            have KA := N1
            have KF := N2
            have BT := N3
            clear N1 N2 N3
            go_wp2
            rw [rounds_succ]
            go_upto_region 14 with (fail)
            have f0 := KF.out.cell 0
            have ff0 := KF.out.frozen 0
            have f1 := KF.out.cell 1
            have ff1 := KF.out.frozen 1
            have f2 := KF.out.cell 2
            have ff2 := KF.out.frozen 2
            have fl := KF.out.lt
            simp only [List.getElem?_toArray, List.getElem?_cons_zero, List.getElem?_cons_succ] at f0 f1 f2
            have dd : decide (D0 < D2) = true := decide_eq_true (by omega)
            go_quiet (fail)
            clear f0 ff0 f1 ff1 f2 ff2 fl
            clear dd
            have G := Lib.hid (grow_drewN (grow_refl W1b) nq : Below W1b.heap.size W1b (W1b.drewN nq))
            replace BT := Lib.hid (BT.out.trans (G.out.mono (Nat.le_of_lt KA.out.lt)))
            replace KF := Lib.hid (KF.out.below G.out)
            replace KA := Lib.hid (KA.out.below G.out)
            clear G
            generalize W1b.drewN nq = V2 at *
            go_upto_region 15 with (fail)
            have f0 := KF.out.cell 0
            have ff0 := KF.out.frozen 0
            have f1 := KF.out.cell 1
            have ff1 := KF.out.frozen 1
            have f2 := KF.out.cell 2
            have ff2 := KF.out.frozen 2
            have fl := KF.out.lt
            simp only [List.getElem?_toArray, List.getElem?_cons_zero, List.getElem?_cons_succ] at f0 f1 f2
            refine Grow.wp_region_plan (.quiet [0, 1, 2, 3, 4, 5, 6, 7, 8, 10, 11, 12] (.reads [9, 13] (.tail [14, 15, 16, 17]))) (by kernel_rfl) (by kernel_rfl) (by kernel_rfl) (by kernel_rfl) ?_ ?_
            · intro c aa d v ww h
              first
                | exact Grow.bodyPost_blind h
                | (simp (config := {zetaDelta := true}) only [Exit.then, Exit.inBlock] at h ⊢; first | exact Grow.bodyPost_blind h | exact h)
            simp only [Grow.Plan.wp, Grow.pick, List.getElem?_cons_zero, List.getElem?_cons_succ, List.cons_append, List.nil_append]
            repeat (go_big_quiet_step (fail))
            refine wpQuiet_nil ?_
            repeat (go_big_quiet_step (fail))
            refine wpQuiet_nil ?_
            go_upto_region 16 with (fail)
            clear f0 ff0 f1 ff1 f2 ff2 fl
            refine seal_wp fun W2a hX => ?_
            have N1 := Lib.hid (show Known W2a gf #[.int .i64 D1, .int .i64 D2, .int .i64 D0] by rw [hX.out]; exact (known_swap12 KF.out).drew)
            have N2 := Lib.hid (show Known W2a ga #[.int .i64 1, .int .i64 0, .int .i64 2] by rw [hX.out]; exact ((KA.out.other n1 _ _).other n1 _ _).drew)
            have N3 := Lib.hid (show Below ga w4 W2a by rw [hX.out]; exact ((BT.out.setCell (Nat.le_of_lt hgl) _).setCell (Nat.le_of_lt hgl) _).drew)
            clear hX KF KA BT
            have KF := N1
            have KA := N2
            have BT := N3
            clear N1 N2 N3
            have f0 := KA.out.cell 0
            have ff0 := KA.out.frozen 0
            have f1 := KA.out.cell 1
            have ff1 := KA.out.frozen 1
            have f2 := KA.out.cell 2
            have ff2 := KA.out.frozen 2
            have fl := KA.out.lt
            simp only [List.getElem?_toArray, List.getElem?_cons_zero, List.getElem?_cons_succ] at f0 f1 f2
            refine Grow.wp_region_plan (.quiet [0, 1, 2, 3, 4, 5, 6, 7, 8, 10, 11, 12] (.reads [9, 13] (.tail [14, 15, 16, 17]))) (by kernel_rfl) (by kernel_rfl) (by kernel_rfl) (by kernel_rfl) ?_ ?_
            · intro c aa d v ww h
              first
                | exact Grow.bodyPost_blind h
                | (simp (config := {zetaDelta := true}) only [Exit.then, Exit.inBlock] at h ⊢; first | exact Grow.bodyPost_blind h | exact h)
            simp only [Grow.Plan.wp, Grow.pick, List.getElem?_cons_zero, List.getElem?_cons_succ, List.cons_append, List.nil_append]
            repeat (go_big_quiet_step (fail))
            refine wpQuiet_nil ?_
            repeat (go_big_quiet_step (fail))
            refine wpQuiet_nil ?_
            go_upto_region 13 with (fail)
            clear f0 ff0 f1 ff1 f2 ff2 fl
            refine seal_wp fun W2b hX => ?_
            have N1 := Lib.hid (show Known W2b ga #[.int .i64 1, .int .i64 2, .int .i64 0] by rw [hX.out]; exact (known_swap12 KA.out).drew)
            have N2 := Lib.hid (show Known W2b gf #[.int .i64 D1, .int .i64 D2, .int .i64 D0] by rw [hX.out]; exact ((KF.out.other n2 _ _).other n2 _ _).drew)
            have N3 := Lib.hid (show Below ga w4 W2b by rw [hX.out]; exact ((BT.out.setCell (Nat.le_refl ga) _).setCell (Nat.le_refl ga) _).drew)
            clear hX KF KA BT
            have KA := N1
            have KF := N2
            have BT := N3
            clear N1 N2 N3
            go_wp2
            rw [rounds_succ]
            go_wp2
            rw [rounds_succ]
            go_wp2
            refine wp_loop_rounds 3 ?_
            rw [rounds_succ]
            go_upto_region 14 with (fail)
            have f0 := KF.out.cell 0
            have ff0 := KF.out.frozen 0
            have f1 := KF.out.cell 1
            have ff1 := KF.out.frozen 1
            have f2 := KF.out.cell 2
            have ff2 := KF.out.frozen 2
            have fl := KF.out.lt
            simp only [List.getElem?_toArray, List.getElem?_cons_zero, List.getElem?_cons_succ] at f0 f1 f2
            have dd : decide (D1 < D2) = true := decide_eq_true (by omega)
            go_quiet (fail)
            clear f0 ff0 f1 ff1 f2 ff2 fl
            clear dd
            have G := Lib.hid (grow_drewN (grow_refl W2b) nq : Below W2b.heap.size W2b (W2b.drewN nq))
            replace BT := Lib.hid (BT.out.trans (G.out.mono (Nat.le_of_lt KA.out.lt)))
            replace KF := Lib.hid (KF.out.below G.out)
            replace KA := Lib.hid (KA.out.below G.out)
            clear G
            generalize W2b.drewN nq = V3 at *
            go_upto_region 15 with (fail)
            have f0 := KF.out.cell 0
            have ff0 := KF.out.frozen 0
            have f1 := KF.out.cell 1
            have ff1 := KF.out.frozen 1
            have f2 := KF.out.cell 2
            have ff2 := KF.out.frozen 2
            have fl := KF.out.lt
            simp only [List.getElem?_toArray, List.getElem?_cons_zero, List.getElem?_cons_succ] at f0 f1 f2
            refine Grow.wp_region_plan (.quiet [0, 1, 2, 3, 4, 5, 6, 7, 8, 10, 11, 12] (.reads [9, 13] (.tail [14, 15, 16, 17]))) (by kernel_rfl) (by kernel_rfl) (by kernel_rfl) (by kernel_rfl) ?_ ?_
            · intro c aa d v ww h
              first
                | exact Grow.bodyPost_blind h
                | (simp (config := {zetaDelta := true}) only [Exit.then, Exit.inBlock] at h ⊢; first | exact Grow.bodyPost_blind h | exact h)
            simp only [Grow.Plan.wp, Grow.pick, List.getElem?_cons_zero, List.getElem?_cons_succ, List.cons_append, List.nil_append]
            repeat (go_big_quiet_step (fail))
            refine wpQuiet_nil ?_
            repeat (go_big_quiet_step (fail))
            refine wpQuiet_nil ?_
            go_upto_region 16 with (fail)
            clear f0 ff0 f1 ff1 f2 ff2 fl
            refine seal_wp fun W3a hX => ?_
            have N1 := Lib.hid (show Known W3a gf #[.int .i64 D2, .int .i64 D1, .int .i64 D0] by rw [hX.out]; exact (known_swap01 KF.out).drew)
            have N2 := Lib.hid (show Known W3a ga #[.int .i64 1, .int .i64 2, .int .i64 0] by rw [hX.out]; exact ((KA.out.other n1 _ _).other n1 _ _).drew)
            have N3 := Lib.hid (show Below ga w4 W3a by rw [hX.out]; exact ((BT.out.setCell (Nat.le_of_lt hgl) _).setCell (Nat.le_of_lt hgl) _).drew)
            clear hX KF KA BT
            have KF := N1
            have KA := N2
            have BT := N3
            clear N1 N2 N3
            have f0 := KA.out.cell 0
            have ff0 := KA.out.frozen 0
            have f1 := KA.out.cell 1
            have ff1 := KA.out.frozen 1
            have f2 := KA.out.cell 2
            have ff2 := KA.out.frozen 2
            have fl := KA.out.lt
            simp only [List.getElem?_toArray, List.getElem?_cons_zero, List.getElem?_cons_succ] at f0 f1 f2
            refine Grow.wp_region_plan (.quiet [0, 1, 2, 3, 4, 5, 6, 7, 8, 10, 11, 12] (.reads [9, 13] (.tail [14, 15, 16, 17]))) (by kernel_rfl) (by kernel_rfl) (by kernel_rfl) (by kernel_rfl) ?_ ?_
            · intro c aa d v ww h
              first
                | exact Grow.bodyPost_blind h
                | (simp (config := {zetaDelta := true}) only [Exit.then, Exit.inBlock] at h ⊢; first | exact Grow.bodyPost_blind h | exact h)
            simp only [Grow.Plan.wp, Grow.pick, List.getElem?_cons_zero, List.getElem?_cons_succ, List.cons_append, List.nil_append]
            repeat (go_big_quiet_step (fail))
            refine wpQuiet_nil ?_
            repeat (go_big_quiet_step (fail))
            refine wpQuiet_nil ?_
            go_upto_region 13 with (fail)
            clear f0 ff0 f1 ff1 f2 ff2 fl
            refine seal_wp fun W3b hX => ?_
            have N1 := Lib.hid (show Known W3b ga #[.int .i64 2, .int .i64 1, .int .i64 0] by rw [hX.out]; exact (known_swap01 KA.out).drew)
            have N2 := Lib.hid (show Known W3b gf #[.int .i64 D2, .int .i64 D1, .int .i64 D0] by rw [hX.out]; exact ((KF.out.other n2 _ _).other n2 _ _).drew)
            have N3 := Lib.hid (show Below ga w4 W3b by rw [hX.out]; exact ((BT.out.setCell (Nat.le_refl ga) _).setCell (Nat.le_refl ga) _).drew)
            clear hX KF KA BT
            have KA := N1
            have KF := N2
            have BT := N3
            clear N1 N2 N3
            go_wp2
            rw [rounds_succ]
            go_upto_region 14 with (fail)
            have f0 := KF.out.cell 0
            have ff0 := KF.out.frozen 0
            have f1 := KF.out.cell 1
            have ff1 := KF.out.frozen 1
            have f2 := KF.out.cell 2
            have ff2 := KF.out.frozen 2
            have fl := KF.out.lt
            simp only [List.getElem?_toArray, List.getElem?_cons_zero, List.getElem?_cons_succ] at f0 f1 f2
            have dd : decide (D1 < D0) = false := decide_eq_false (by omega)
            go_quiet (fail)
            clear f0 ff0 f1 ff1 f2 ff2 fl
            clear dd
            have G := Lib.hid (grow_drewN (grow_refl W3b) nq : Below W3b.heap.size W3b (W3b.drewN nq))
            replace BT := Lib.hid (BT.out.trans (G.out.mono (Nat.le_of_lt KA.out.lt)))
            replace KF := Lib.hid (KF.out.below G.out)
            replace KA := Lib.hid (KA.out.below G.out)
            clear G
            generalize W3b.drewN nq = V4 at *
            go_wp2
            rw [rounds_succ]
            go_wp2
            rw [rounds_succ]
            go_wp2
            go_meet
            rw [EL.out, EM.out, ES.out, HO.out]
            exact ⟨KF.out, KA.out, BT.out⟩
          · have HO := Lib.hid (show ord3 (acr p q t) = (1, 2, 0) by unfold ord3; rw [if_pos h01, if_pos h02, if_neg h12])
            have EL := Lib.hid (show longZ p q t = acr p q t 1 by unfold longZ; rw [HO.out])
            have EM := Lib.hid (show midZ p q t = acr p q t 2 by unfold midZ; rw [HO.out])
            have ES := Lib.hid (show shortZ p q t = acr p q t 0 by unfold shortZ; rw [HO.out])
            generalize acr p q t 0 = D0 at *
            generalize acr p q t 1 = D1 at *
            generalize acr p q t 2 = D2 at *
            go_wp2
            refine wp_loop_rounds 3 ?_
            rw [rounds_succ]
            go_wp2
            refine wp_loop_rounds 3 ?_
            rw [rounds_succ]
            go_upto_region 14 with (fail)
            have f0 := KF.out.cell 0
            have ff0 := KF.out.frozen 0
            have f1 := KF.out.cell 1
            have ff1 := KF.out.frozen 1
            have f2 := KF.out.cell 2
            have ff2 := KF.out.frozen 2
            have fl := KF.out.lt
            simp only [List.getElem?_toArray, List.getElem?_cons_zero, List.getElem?_cons_succ] at f0 f1 f2
            have dd : decide (D0 < D1) = true := decide_eq_true (by omega)
            go_quiet (fail)
            clear f0 ff0 f1 ff1 f2 ff2 fl
            clear dd
            have G := Lib.hid (grow_drewN (grow_refl V) nq : Below V.heap.size V (V.drewN nq))
            replace BT := Lib.hid (BT.out.trans (G.out.mono (Nat.le_of_lt KA.out.lt)))
            replace KF := Lib.hid (KF.out.below G.out)
            replace KA := Lib.hid (KA.out.below G.out)
            clear G
            generalize V.drewN nq = V1 at *
            go_upto_region 15 with (fail)
            have f0 := KF.out.cell 0
            have ff0 := KF.out.frozen 0
            have f1 := KF.out.cell 1
            have ff1 := KF.out.frozen 1
            have f2 := KF.out.cell 2
            have ff2 := KF.out.frozen 2
            have fl := KF.out.lt
            simp only [List.getElem?_toArray, List.getElem?_cons_zero, List.getElem?_cons_succ] at f0 f1 f2
            refine Grow.wp_region_plan (.quiet [0, 1, 2, 3, 4, 5, 6, 7, 8, 10, 11, 12] (.reads [9, 13] (.tail [14, 15, 16, 17]))) (by kernel_rfl) (by kernel_rfl) (by kernel_rfl) (by kernel_rfl) ?_ ?_
            · intro c aa d v ww h
              first
                | exact Grow.bodyPost_blind h
                | (simp (config := {zetaDelta := true}) only [Exit.then, Exit.inBlock] at h ⊢; first | exact Grow.bodyPost_blind h | exact h)
            simp only [Grow.Plan.wp, Grow.pick, List.getElem?_cons_zero, List.getElem?_cons_succ, List.cons_append, List.nil_append]
            repeat (go_big_quiet_step (fail))
            refine wpQuiet_nil ?_
            repeat (go_big_quiet_step (fail))
            refine wpQuiet_nil ?_
            go_upto_region 16 with (fail)
            clear f0 ff0 f1 ff1 f2 ff2 fl
            refine seal_wp fun W1a hX => ?_
            have N1 := Lib.hid (show Known W1a gf #[.int .i64 D1, .int .i64 D0, .int .i64 D2] by rw [hX.out]; exact (known_swap01 KF.out).drew)
            have N2 := Lib.hid (show Known W1a ga #[.int .i64 0, .int .i64 1, .int .i64 2] by rw [hX.out]; exact ((KA.out.other n1 _ _).other n1 _ _).drew)
            have N3 := Lib.hid (show Below ga w4 W1a by rw [hX.out]; exact ((BT.out.setCell (Nat.le_of_lt hgl) _).setCell (Nat.le_of_lt hgl) _).drew)
            clear hX KF KA BT
            have KF := N1
            have KA := N2
            have BT := N3
            clear N1 N2 N3
            have f0 := KA.out.cell 0
            have ff0 := KA.out.frozen 0
            have f1 := KA.out.cell 1
            have ff1 := KA.out.frozen 1
            have f2 := KA.out.cell 2
            have ff2 := KA.out.frozen 2
            have fl := KA.out.lt
            simp only [List.getElem?_toArray, List.getElem?_cons_zero, List.getElem?_cons_succ] at f0 f1 f2
            refine Grow.wp_region_plan (.quiet [0, 1, 2, 3, 4, 5, 6, 7, 8, 10, 11, 12] (.reads [9, 13] (.tail [14, 15, 16, 17]))) (by kernel_rfl) (by kernel_rfl) (by kernel_rfl) (by kernel_rfl) ?_ ?_
            · intro c aa d v ww h
              first
                | exact Grow.bodyPost_blind h
                | (simp (config := {zetaDelta := true}) only [Exit.then, Exit.inBlock] at h ⊢; first | exact Grow.bodyPost_blind h | exact h)
            simp only [Grow.Plan.wp, Grow.pick, List.getElem?_cons_zero, List.getElem?_cons_succ, List.cons_append, List.nil_append]
            repeat (go_big_quiet_step (fail))
            refine wpQuiet_nil ?_
            repeat (go_big_quiet_step (fail))
            refine wpQuiet_nil ?_
            go_upto_region 13 with (fail)
            clear f0 ff0 f1 ff1 f2 ff2 fl
            refine seal_wp fun W1b hX => ?_
            have N1 := Lib.hid (show Known W1b ga #[.int .i64 1, .int .i64 0, .int .i64 2] by rw [hX.out]; exact (known_swap01 KA.out).drew)
            have N2 := Lib.hid (show Known W1b gf #[.int .i64 D1, .int .i64 D0, .int .i64 D2] by rw [hX.out]; exact ((KF.out.other n2 _ _).other n2 _ _).drew)
            have N3 := Lib.hid (show Below ga w4 W1b by rw [hX.out]; exact ((BT.out.setCell (Nat.le_refl ga) _).setCell (Nat.le_refl ga) _).drew)
            clear hX KF KA BT
            have KA := N1
            have KF := N2
            have BT := N3
            clear N1 N2 N3
            go_wp2
            rw [rounds_succ]
            go_upto_region 14 with (fail)
            have f0 := KF.out.cell 0
            have ff0 := KF.out.frozen 0
            have f1 := KF.out.cell 1
            have ff1 := KF.out.frozen 1
            have f2 := KF.out.cell 2
            have ff2 := KF.out.frozen 2
            have fl := KF.out.lt
            simp only [List.getElem?_toArray, List.getElem?_cons_zero, List.getElem?_cons_succ] at f0 f1 f2
            have dd : decide (D0 < D2) = true := decide_eq_true (by omega)
            go_quiet (fail)
            clear f0 ff0 f1 ff1 f2 ff2 fl
            clear dd
            have G := Lib.hid (grow_drewN (grow_refl W1b) nq : Below W1b.heap.size W1b (W1b.drewN nq))
            replace BT := Lib.hid (BT.out.trans (G.out.mono (Nat.le_of_lt KA.out.lt)))
            replace KF := Lib.hid (KF.out.below G.out)
            replace KA := Lib.hid (KA.out.below G.out)
            clear G
            generalize W1b.drewN nq = V2 at *
            go_upto_region 15 with (fail)
            have f0 := KF.out.cell 0
            have ff0 := KF.out.frozen 0
            have f1 := KF.out.cell 1
            have ff1 := KF.out.frozen 1
            have f2 := KF.out.cell 2
            have ff2 := KF.out.frozen 2
            have fl := KF.out.lt
            simp only [List.getElem?_toArray, List.getElem?_cons_zero, List.getElem?_cons_succ] at f0 f1 f2
            refine Grow.wp_region_plan (.quiet [0, 1, 2, 3, 4, 5, 6, 7, 8, 10, 11, 12] (.reads [9, 13] (.tail [14, 15, 16, 17]))) (by kernel_rfl) (by kernel_rfl) (by kernel_rfl) (by kernel_rfl) ?_ ?_
            · intro c aa d v ww h
              first
                | exact Grow.bodyPost_blind h
                | (simp (config := {zetaDelta := true}) only [Exit.then, Exit.inBlock] at h ⊢; first | exact Grow.bodyPost_blind h | exact h)
            simp only [Grow.Plan.wp, Grow.pick, List.getElem?_cons_zero, List.getElem?_cons_succ, List.cons_append, List.nil_append]
            repeat (go_big_quiet_step (fail))
            refine wpQuiet_nil ?_
            repeat (go_big_quiet_step (fail))
            refine wpQuiet_nil ?_
            go_upto_region 16 with (fail)
            clear f0 ff0 f1 ff1 f2 ff2 fl
            refine seal_wp fun W2a hX => ?_
            have N1 := Lib.hid (show Known W2a gf #[.int .i64 D1, .int .i64 D2, .int .i64 D0] by rw [hX.out]; exact (known_swap12 KF.out).drew)
            have N2 := Lib.hid (show Known W2a ga #[.int .i64 1, .int .i64 0, .int .i64 2] by rw [hX.out]; exact ((KA.out.other n1 _ _).other n1 _ _).drew)
            have N3 := Lib.hid (show Below ga w4 W2a by rw [hX.out]; exact ((BT.out.setCell (Nat.le_of_lt hgl) _).setCell (Nat.le_of_lt hgl) _).drew)
            clear hX KF KA BT
            have KF := N1
            have KA := N2
            have BT := N3
            clear N1 N2 N3
            have f0 := KA.out.cell 0
            have ff0 := KA.out.frozen 0
            have f1 := KA.out.cell 1
            have ff1 := KA.out.frozen 1
            have f2 := KA.out.cell 2
            have ff2 := KA.out.frozen 2
            have fl := KA.out.lt
            simp only [List.getElem?_toArray, List.getElem?_cons_zero, List.getElem?_cons_succ] at f0 f1 f2
            refine Grow.wp_region_plan (.quiet [0, 1, 2, 3, 4, 5, 6, 7, 8, 10, 11, 12] (.reads [9, 13] (.tail [14, 15, 16, 17]))) (by kernel_rfl) (by kernel_rfl) (by kernel_rfl) (by kernel_rfl) ?_ ?_
            · intro c aa d v ww h
              first
                | exact Grow.bodyPost_blind h
                | (simp (config := {zetaDelta := true}) only [Exit.then, Exit.inBlock] at h ⊢; first | exact Grow.bodyPost_blind h | exact h)
            simp only [Grow.Plan.wp, Grow.pick, List.getElem?_cons_zero, List.getElem?_cons_succ, List.cons_append, List.nil_append]
            repeat (go_big_quiet_step (fail))
            refine wpQuiet_nil ?_
            repeat (go_big_quiet_step (fail))
            refine wpQuiet_nil ?_
            go_upto_region 13 with (fail)
            clear f0 ff0 f1 ff1 f2 ff2 fl
            refine seal_wp fun W2b hX => ?_
            have N1 := Lib.hid (show Known W2b ga #[.int .i64 1, .int .i64 2, .int .i64 0] by rw [hX.out]; exact (known_swap12 KA.out).drew)
            have N2 := Lib.hid (show Known W2b gf #[.int .i64 D1, .int .i64 D2, .int .i64 D0] by rw [hX.out]; exact ((KF.out.other n2 _ _).other n2 _ _).drew)
            have N3 := Lib.hid (show Below ga w4 W2b by rw [hX.out]; exact ((BT.out.setCell (Nat.le_refl ga) _).setCell (Nat.le_refl ga) _).drew)
            clear hX KF KA BT
            have KA := N1
            have KF := N2
            have BT := N3
            clear N1 N2 N3
            go_wp2
            rw [rounds_succ]
            go_wp2
            rw [rounds_succ]
            go_wp2
            refine wp_loop_rounds 3 ?_
            rw [rounds_succ]
            go_upto_region 14 with (fail)
            have f0 := KF.out.cell 0
            have ff0 := KF.out.frozen 0
            have f1 := KF.out.cell 1
            have ff1 := KF.out.frozen 1
            have f2 := KF.out.cell 2
            have ff2 := KF.out.frozen 2
            have fl := KF.out.lt
            simp only [List.getElem?_toArray, List.getElem?_cons_zero, List.getElem?_cons_succ] at f0 f1 f2
            have dd : decide (D1 < D2) = false := decide_eq_false (by omega)
            go_quiet (fail)
            clear f0 ff0 f1 ff1 f2 ff2 fl
            clear dd
            have G := Lib.hid (grow_drewN (grow_refl W2b) nq : Below W2b.heap.size W2b (W2b.drewN nq))
            replace BT := Lib.hid (BT.out.trans (G.out.mono (Nat.le_of_lt KA.out.lt)))
            replace KF := Lib.hid (KF.out.below G.out)
            replace KA := Lib.hid (KA.out.below G.out)
            clear G
            generalize W2b.drewN nq = V3 at *
            go_wp2
            rw [rounds_succ]
            go_upto_region 14 with (fail)
            have f0 := KF.out.cell 0
            have ff0 := KF.out.frozen 0
            have f1 := KF.out.cell 1
            have ff1 := KF.out.frozen 1
            have f2 := KF.out.cell 2
            have ff2 := KF.out.frozen 2
            have fl := KF.out.lt
            simp only [List.getElem?_toArray, List.getElem?_cons_zero, List.getElem?_cons_succ] at f0 f1 f2
            have dd : decide (D2 < D0) = false := decide_eq_false (by omega)
            go_quiet (fail)
            clear f0 ff0 f1 ff1 f2 ff2 fl
            clear dd
            have G := Lib.hid (grow_drewN (grow_refl V3) nq : Below V3.heap.size V3 (V3.drewN nq))
            replace BT := Lib.hid (BT.out.trans (G.out.mono (Nat.le_of_lt KA.out.lt)))
            replace KF := Lib.hid (KF.out.below G.out)
            replace KA := Lib.hid (KA.out.below G.out)
            clear G
            generalize V3.drewN nq = V4 at *
            go_wp2
            rw [rounds_succ]
            go_wp2
            rw [rounds_succ]
            go_wp2
            go_meet
            rw [EL.out, EM.out, ES.out, HO.out]
            exact ⟨KF.out, KA.out, BT.out⟩
        · have HO := Lib.hid (show ord3 (acr p q t) = (1, 0, 2) by unfold ord3; rw [if_pos h01, if_neg h02])
          have EL := Lib.hid (show longZ p q t = acr p q t 1 by unfold longZ; rw [HO.out])
          have EM := Lib.hid (show midZ p q t = acr p q t 0 by unfold midZ; rw [HO.out])
          have ES := Lib.hid (show shortZ p q t = acr p q t 2 by unfold shortZ; rw [HO.out])
          generalize acr p q t 0 = D0 at *
          generalize acr p q t 1 = D1 at *
          generalize acr p q t 2 = D2 at *
          go_wp2
          refine wp_loop_rounds 3 ?_
          rw [rounds_succ]
          go_wp2
          refine wp_loop_rounds 3 ?_
          rw [rounds_succ]
          go_upto_region 14 with (fail)
          have f0 := KF.out.cell 0
          have ff0 := KF.out.frozen 0
          have f1 := KF.out.cell 1
          have ff1 := KF.out.frozen 1
          have f2 := KF.out.cell 2
          have ff2 := KF.out.frozen 2
          have fl := KF.out.lt
          simp only [List.getElem?_toArray, List.getElem?_cons_zero, List.getElem?_cons_succ] at f0 f1 f2
          have dd : decide (D0 < D1) = true := decide_eq_true (by omega)
          go_quiet (fail)
          clear f0 ff0 f1 ff1 f2 ff2 fl
          clear dd
          have G := Lib.hid (grow_drewN (grow_refl V) nq : Below V.heap.size V (V.drewN nq))
          replace BT := Lib.hid (BT.out.trans (G.out.mono (Nat.le_of_lt KA.out.lt)))
          replace KF := Lib.hid (KF.out.below G.out)
          replace KA := Lib.hid (KA.out.below G.out)
          clear G
          generalize V.drewN nq = V1 at *
          go_upto_region 15 with (fail)
          have f0 := KF.out.cell 0
          have ff0 := KF.out.frozen 0
          have f1 := KF.out.cell 1
          have ff1 := KF.out.frozen 1
          have f2 := KF.out.cell 2
          have ff2 := KF.out.frozen 2
          have fl := KF.out.lt
          simp only [List.getElem?_toArray, List.getElem?_cons_zero, List.getElem?_cons_succ] at f0 f1 f2
          refine Grow.wp_region_plan (.quiet [0, 1, 2, 3, 4, 5, 6, 7, 8, 10, 11, 12] (.reads [9, 13] (.tail [14, 15, 16, 17]))) (by kernel_rfl) (by kernel_rfl) (by kernel_rfl) (by kernel_rfl) ?_ ?_
          · intro c aa d v ww h
            first
              | exact Grow.bodyPost_blind h
              | (simp (config := {zetaDelta := true}) only [Exit.then, Exit.inBlock] at h ⊢; first | exact Grow.bodyPost_blind h | exact h)
          simp only [Grow.Plan.wp, Grow.pick, List.getElem?_cons_zero, List.getElem?_cons_succ, List.cons_append, List.nil_append]
          repeat (go_big_quiet_step (fail))
          refine wpQuiet_nil ?_
          repeat (go_big_quiet_step (fail))
          refine wpQuiet_nil ?_
          go_upto_region 16 with (fail)
          clear f0 ff0 f1 ff1 f2 ff2 fl
          refine seal_wp fun W1a hX => ?_
          have N1 := Lib.hid (show Known W1a gf #[.int .i64 D1, .int .i64 D0, .int .i64 D2] by rw [hX.out]; exact (known_swap01 KF.out).drew)
          have N2 := Lib.hid (show Known W1a ga #[.int .i64 0, .int .i64 1, .int .i64 2] by rw [hX.out]; exact ((KA.out.other n1 _ _).other n1 _ _).drew)
          have N3 := Lib.hid (show Below ga w4 W1a by rw [hX.out]; exact ((BT.out.setCell (Nat.le_of_lt hgl) _).setCell (Nat.le_of_lt hgl) _).drew)
          clear hX KF KA BT
          have KF := N1
          have KA := N2
          have BT := N3
          clear N1 N2 N3
          have f0 := KA.out.cell 0
          have ff0 := KA.out.frozen 0
          have f1 := KA.out.cell 1
          have ff1 := KA.out.frozen 1
          have f2 := KA.out.cell 2
          have ff2 := KA.out.frozen 2
          have fl := KA.out.lt
          simp only [List.getElem?_toArray, List.getElem?_cons_zero, List.getElem?_cons_succ] at f0 f1 f2
          refine Grow.wp_region_plan (.quiet [0, 1, 2, 3, 4, 5, 6, 7, 8, 10, 11, 12] (.reads [9, 13] (.tail [14, 15, 16, 17]))) (by kernel_rfl) (by kernel_rfl) (by kernel_rfl) (by kernel_rfl) ?_ ?_
          · intro c aa d v ww h
            first
              | exact Grow.bodyPost_blind h
              | (simp (config := {zetaDelta := true}) only [Exit.then, Exit.inBlock] at h ⊢; first | exact Grow.bodyPost_blind h | exact h)
          simp only [Grow.Plan.wp, Grow.pick, List.getElem?_cons_zero, List.getElem?_cons_succ, List.cons_append, List.nil_append]
          repeat (go_big_quiet_step (fail))
          refine wpQuiet_nil ?_
          repeat (go_big_quiet_step (fail))
          refine wpQuiet_nil ?_
          go_upto_region 13 with (fail)
          clear f0 ff0 f1 ff1 f2 ff2 fl
          refine seal_wp fun W1b hX => ?_
          have N1 := Lib.hid (show Known W1b ga #[.int .i64 1, .int .i64 0, .int .i64 2] by rw [hX.out]; exact (known_swap01 KA.out).drew)
          have N2 := Lib.hid (show Known W1b gf #[.int .i64 D1, .int .i64 D0, .int .i64 D2] by rw [hX.out]; exact ((KF.out.other n2 _ _).other n2 _ _).drew)
          have N3 := Lib.hid (show Below ga w4 W1b by rw [hX.out]; exact ((BT.out.setCell (Nat.le_refl ga) _).setCell (Nat.le_refl ga) _).drew)
          clear hX KF KA BT
          have KA := N1
          have KF := N2
          have BT := N3
          clear N1 N2 N3
          go_wp2
          rw [rounds_succ]
          go_upto_region 14 with (fail)
          have f0 := KF.out.cell 0
          have ff0 := KF.out.frozen 0
          have f1 := KF.out.cell 1
          have ff1 := KF.out.frozen 1
          have f2 := KF.out.cell 2
          have ff2 := KF.out.frozen 2
          have fl := KF.out.lt
          simp only [List.getElem?_toArray, List.getElem?_cons_zero, List.getElem?_cons_succ] at f0 f1 f2
          have dd : decide (D0 < D2) = false := decide_eq_false (by omega)
          go_quiet (fail)
          clear f0 ff0 f1 ff1 f2 ff2 fl
          clear dd
          have G := Lib.hid (grow_drewN (grow_refl W1b) nq : Below W1b.heap.size W1b (W1b.drewN nq))
          replace BT := Lib.hid (BT.out.trans (G.out.mono (Nat.le_of_lt KA.out.lt)))
          replace KF := Lib.hid (KF.out.below G.out)
          replace KA := Lib.hid (KA.out.below G.out)
          clear G
          generalize W1b.drewN nq = V2 at *
          go_wp2
          rw [rounds_succ]
          go_wp2
          rw [rounds_succ]
          go_wp2
          refine wp_loop_rounds 3 ?_
          rw [rounds_succ]
          go_upto_region 14 with (fail)
          have f0 := KF.out.cell 0
          have ff0 := KF.out.frozen 0
          have f1 := KF.out.cell 1
          have ff1 := KF.out.frozen 1
          have f2 := KF.out.cell 2
          have ff2 := KF.out.frozen 2
          have fl := KF.out.lt
          simp only [List.getElem?_toArray, List.getElem?_cons_zero, List.getElem?_cons_succ] at f0 f1 f2
          have dd : decide (D1 < D0) = false := decide_eq_false (by omega)
          go_quiet (fail)
          clear f0 ff0 f1 ff1 f2 ff2 fl
          clear dd
          have G := Lib.hid (grow_drewN (grow_refl V2) nq : Below V2.heap.size V2 (V2.drewN nq))
          replace BT := Lib.hid (BT.out.trans (G.out.mono (Nat.le_of_lt KA.out.lt)))
          replace KF := Lib.hid (KF.out.below G.out)
          replace KA := Lib.hid (KA.out.below G.out)
          clear G
          generalize V2.drewN nq = V3 at *
          go_wp2
          rw [rounds_succ]
          go_upto_region 14 with (fail)
          have f0 := KF.out.cell 0
          have ff0 := KF.out.frozen 0
          have f1 := KF.out.cell 1
          have ff1 := KF.out.frozen 1
          have f2 := KF.out.cell 2
          have ff2 := KF.out.frozen 2
          have fl := KF.out.lt
          simp only [List.getElem?_toArray, List.getElem?_cons_zero, List.getElem?_cons_succ] at f0 f1 f2
          have dd : decide (D0 < D2) = false := decide_eq_false (by omega)
          go_quiet (fail)
          clear f0 ff0 f1 ff1 f2 ff2 fl
          clear dd
          have G := Lib.hid (grow_drewN (grow_refl V3) nq : Below V3.heap.size V3 (V3.drewN nq))
          replace BT := Lib.hid (BT.out.trans (G.out.mono (Nat.le_of_lt KA.out.lt)))
          replace KF := Lib.hid (KF.out.below G.out)
          replace KA := Lib.hid (KA.out.below G.out)
          clear G
          generalize V3.drewN nq = V4 at *
          go_wp2
          rw [rounds_succ]
          go_wp2
          rw [rounds_succ]
          go_wp2
          go_meet
          rw [EL.out, EM.out, ES.out, HO.out]
          exact ⟨KF.out, KA.out, BT.out⟩
      · by_cases h12 : acr p q t 1 < acr p q t 2
        · by_cases h02 : acr p q t 0 < acr p q t 2
          · have HO := Lib.hid (show ord3 (acr p q t) = (2, 0, 1) by unfold ord3; rw [if_neg h01, if_pos h12, if_pos h02])
            have EL := Lib.hid (show longZ p q t = acr p q t 2 by unfold longZ; rw [HO.out])
            have EM := Lib.hid (show midZ p q t = acr p q t 0 by unfold midZ; rw [HO.out])
            have ES := Lib.hid (show shortZ p q t = acr p q t 1 by unfold shortZ; rw [HO.out])
            generalize acr p q t 0 = D0 at *
            generalize acr p q t 1 = D1 at *
            generalize acr p q t 2 = D2 at *
            go_wp2
            refine wp_loop_rounds 3 ?_
            rw [rounds_succ]
            go_wp2
            refine wp_loop_rounds 3 ?_
            rw [rounds_succ]
            go_upto_region 14 with (fail)
            have f0 := KF.out.cell 0
            have ff0 := KF.out.frozen 0
            have f1 := KF.out.cell 1
            have ff1 := KF.out.frozen 1
            have f2 := KF.out.cell 2
            have ff2 := KF.out.frozen 2
            have fl := KF.out.lt
            simp only [List.getElem?_toArray, List.getElem?_cons_zero, List.getElem?_cons_succ] at f0 f1 f2
            have dd : decide (D0 < D1) = false := decide_eq_false (by omega)
            go_quiet (fail)
            clear f0 ff0 f1 ff1 f2 ff2 fl
            clear dd
            have G := Lib.hid (grow_drewN (grow_refl V) nq : Below V.heap.size V (V.drewN nq))
            replace BT := Lib.hid (BT.out.trans (G.out.mono (Nat.le_of_lt KA.out.lt)))
            replace KF := Lib.hid (KF.out.below G.out)
            replace KA := Lib.hid (KA.out.below G.out)
            clear G
            generalize V.drewN nq = V1 at *
            go_wp2
            rw [rounds_succ]
            go_upto_region 14 with (fail)
            have f0 := KF.out.cell 0
            have ff0 := KF.out.frozen 0
            have f1 := KF.out.cell 1
            have ff1 := KF.out.frozen 1
            have f2 := KF.out.cell 2
            have ff2 := KF.out.frozen 2
            have fl := KF.out.lt
            simp only [List.getElem?_toArray, List.getElem?_cons_zero, List.getElem?_cons_succ] at f0 f1 f2
            have dd : decide (D1 < D2) = true := decide_eq_true (by omega)
            go_quiet (fail)
            clear f0 ff0 f1 ff1 f2 ff2 fl
            clear dd
            have G := Lib.hid (grow_drewN (grow_refl V1) nq : Below V1.heap.size V1 (V1.drewN nq))
            replace BT := Lib.hid (BT.out.trans (G.out.mono (Nat.le_of_lt KA.out.lt)))
            replace KF := Lib.hid (KF.out.below G.out)
            replace KA := Lib.hid (KA.out.below G.out)
            clear G
            generalize V1.drewN nq = V2 at *
            go_upto_region 15 with (fail)
            have f0 := KF.out.cell 0
            have ff0 := KF.out.frozen 0
            have f1 := KF.out.cell 1
            have ff1 := KF.out.frozen 1
            have f2 := KF.out.cell 2
            have ff2 := KF.out.frozen 2
            have fl := KF.out.lt
            simp only [List.getElem?_toArray, List.getElem?_cons_zero, List.getElem?_cons_succ] at f0 f1 f2
            refine Grow.wp_region_plan (.quiet [0, 1, 2, 3, 4, 5, 6, 7, 8, 10, 11, 12] (.reads [9, 13] (.tail [14, 15, 16, 17]))) (by kernel_rfl) (by kernel_rfl) (by kernel_rfl) (by kernel_rfl) ?_ ?_
            · intro c aa d v ww h
              first
                | exact Grow.bodyPost_blind h
                | (simp (config := {zetaDelta := true}) only [Exit.then, Exit.inBlock] at h ⊢; first | exact Grow.bodyPost_blind h | exact h)
            simp only [Grow.Plan.wp, Grow.pick, List.getElem?_cons_zero, List.getElem?_cons_succ, List.cons_append, List.nil_append]
            repeat (go_big_quiet_step (fail))
            refine wpQuiet_nil ?_
            repeat (go_big_quiet_step (fail))
            refine wpQuiet_nil ?_
            go_upto_region 16 with (fail)
            clear f0 ff0 f1 ff1 f2 ff2 fl
            refine seal_wp fun W2a hX => ?_
            have N1 := Lib.hid (show Known W2a gf #[.int .i64 D0, .int .i64 D2, .int .i64 D1] by rw [hX.out]; exact (known_swap12 KF.out).drew)
            have N2 := Lib.hid (show Known W2a ga #[.int .i64 0, .int .i64 1, .int .i64 2] by rw [hX.out]; exact ((KA.out.other n1 _ _).other n1 _ _).drew)
            have N3 := Lib.hid (show Below ga w4 W2a by rw [hX.out]; exact ((BT.out.setCell (Nat.le_of_lt hgl) _).setCell (Nat.le_of_lt hgl) _).drew)
            clear hX KF KA BT
            have KF := N1
            have KA := N2
            have BT := N3
            clear N1 N2 N3
            have f0 := KA.out.cell 0
            have ff0 := KA.out.frozen 0
            have f1 := KA.out.cell 1
            have ff1 := KA.out.frozen 1
            have f2 := KA.out.cell 2
            have ff2 := KA.out.frozen 2
            have fl := KA.out.lt
            simp only [List.getElem?_toArray, List.getElem?_cons_zero, List.getElem?_cons_succ] at f0 f1 f2
            refine Grow.wp_region_plan (.quiet [0, 1, 2, 3, 4, 5, 6, 7, 8, 10, 11, 12] (.reads [9, 13] (.tail [14, 15, 16, 17]))) (by kernel_rfl) (by kernel_rfl) (by kernel_rfl) (by kernel_rfl) ?_ ?_
            · intro c aa d v ww h
              first
                | exact Grow.bodyPost_blind h
                | (simp (config := {zetaDelta := true}) only [Exit.then, Exit.inBlock] at h ⊢; first | exact Grow.bodyPost_blind h | exact h)
            simp only [Grow.Plan.wp, Grow.pick, List.getElem?_cons_zero, List.getElem?_cons_succ, List.cons_append, List.nil_append]
            repeat (go_big_quiet_step (fail))
            refine wpQuiet_nil ?_
            repeat (go_big_quiet_step (fail))
            refine wpQuiet_nil ?_
            go_upto_region 13 with (fail)
            clear f0 ff0 f1 ff1 f2 ff2 fl
            refine seal_wp fun W2b hX => ?_
            have N1 := Lib.hid (show Known W2b ga #[.int .i64 0, .int .i64 2, .int .i64 1] by rw [hX.out]; exact (known_swap12 KA.out).drew)
            have N2 := Lib.hid (show Known W2b gf #[.int .i64 D0, .int .i64 D2, .int .i64 D1] by rw [hX.out]; exact ((KF.out.other n2 _ _).other n2 _ _).drew)
            have N3 := Lib.hid (show Below ga w4 W2b by rw [hX.out]; exact ((BT.out.setCell (Nat.le_refl ga) _).setCell (Nat.le_refl ga) _).drew)
            clear hX KF KA BT
            have KA := N1
            have KF := N2
            have BT := N3
            clear N1 N2 N3
            go_wp2
            rw [rounds_succ]
            go_wp2
            rw [rounds_succ]
            go_wp2
            refine wp_loop_rounds 3 ?_
            rw [rounds_succ]
            go_upto_region 14 with (fail)
            have f0 := KF.out.cell 0
            have ff0 := KF.out.frozen 0
            have f1 := KF.out.cell 1
            have ff1 := KF.out.frozen 1
            have f2 := KF.out.cell 2
            have ff2 := KF.out.frozen 2
            have fl := KF.out.lt
            simp only [List.getElem?_toArray, List.getElem?_cons_zero, List.getElem?_cons_succ] at f0 f1 f2
            have dd : decide (D0 < D2) = true := decide_eq_true (by omega)
            go_quiet (fail)
            clear f0 ff0 f1 ff1 f2 ff2 fl
            clear dd
            have G := Lib.hid (grow_drewN (grow_refl W2b) nq : Below W2b.heap.size W2b (W2b.drewN nq))
            replace BT := Lib.hid (BT.out.trans (G.out.mono (Nat.le_of_lt KA.out.lt)))
            replace KF := Lib.hid (KF.out.below G.out)
            replace KA := Lib.hid (KA.out.below G.out)
            clear G
            generalize W2b.drewN nq = V3 at *
            go_upto_region 15 with (fail)
            have f0 := KF.out.cell 0
            have ff0 := KF.out.frozen 0
            have f1 := KF.out.cell 1
            have ff1 := KF.out.frozen 1
            have f2 := KF.out.cell 2
            have ff2 := KF.out.frozen 2
            have fl := KF.out.lt
            simp only [List.getElem?_toArray, List.getElem?_cons_zero, List.getElem?_cons_succ] at f0 f1 f2
            refine Grow.wp_region_plan (.quiet [0, 1, 2, 3, 4, 5, 6, 7, 8, 10, 11, 12] (.reads [9, 13] (.tail [14, 15, 16, 17]))) (by kernel_rfl) (by kernel_rfl) (by kernel_rfl) (by kernel_rfl) ?_ ?_
            · intro c aa d v ww h
              first
                | exact Grow.bodyPost_blind h
                | (simp (config := {zetaDelta := true}) only [Exit.then, Exit.inBlock] at h ⊢; first | exact Grow.bodyPost_blind h | exact h)
            simp only [Grow.Plan.wp, Grow.pick, List.getElem?_cons_zero, List.getElem?_cons_succ, List.cons_append, List.nil_append]
            repeat (go_big_quiet_step (fail))
            refine wpQuiet_nil ?_
            repeat (go_big_quiet_step (fail))
            refine wpQuiet_nil ?_
            go_upto_region 16 with (fail)
            clear f0 ff0 f1 ff1 f2 ff2 fl
            refine seal_wp fun W3a hX => ?_
            have N1 := Lib.hid (show Known W3a gf #[.int .i64 D2, .int .i64 D0, .int .i64 D1] by rw [hX.out]; exact (known_swap01 KF.out).drew)
            have N2 := Lib.hid (show Known W3a ga #[.int .i64 0, .int .i64 2, .int .i64 1] by rw [hX.out]; exact ((KA.out.other n1 _ _).other n1 _ _).drew)
            have N3 := Lib.hid (show Below ga w4 W3a by rw [hX.out]; exact ((BT.out.setCell (Nat.le_of_lt hgl) _).setCell (Nat.le_of_lt hgl) _).drew)
            clear hX KF KA BT
            have KF := N1
            have KA := N2
            have BT := N3
            clear N1 N2 N3
            have f0 := KA.out.cell 0
            have ff0 := KA.out.frozen 0
            have f1 := KA.out.cell 1
            have ff1 := KA.out.frozen 1
            have f2 := KA.out.cell 2
            have ff2 := KA.out.frozen 2
            have fl := KA.out.lt
            simp only [List.getElem?_toArray, List.getElem?_cons_zero, List.getElem?_cons_succ] at f0 f1 f2
            refine Grow.wp_region_plan (.quiet [0, 1, 2, 3, 4, 5, 6, 7, 8, 10, 11, 12] (.reads [9, 13] (.tail [14, 15, 16, 17]))) (by kernel_rfl) (by kernel_rfl) (by kernel_rfl) (by kernel_rfl) ?_ ?_
            · intro c aa d v ww h
              first
                | exact Grow.bodyPost_blind h
                | (simp (config := {zetaDelta := true}) only [Exit.then, Exit.inBlock] at h ⊢; first | exact Grow.bodyPost_blind h | exact h)
            simp only [Grow.Plan.wp, Grow.pick, List.getElem?_cons_zero, List.getElem?_cons_succ, List.cons_append, List.nil_append]
            repeat (go_big_quiet_step (fail))
            refine wpQuiet_nil ?_
            repeat (go_big_quiet_step (fail))
            refine wpQuiet_nil ?_
            go_upto_region 13 with (fail)
            clear f0 ff0 f1 ff1 f2 ff2 fl
            refine seal_wp fun W3b hX => ?_
            have N1 := Lib.hid (show Known W3b ga #[.int .i64 2, .int .i64 0, .int .i64 1] by rw [hX.out]; exact (known_swap01 KA.out).drew)
            have N2 := Lib.hid (show Known W3b gf #[.int .i64 D2, .int .i64 D0, .int .i64 D1] by rw [hX.out]; exact ((KF.out.other n2 _ _).other n2 _ _).drew)
            have N3 := Lib.hid (show Below ga w4 W3b by rw [hX.out]; exact ((BT.out.setCell (Nat.le_refl ga) _).setCell (Nat.le_refl ga) _).drew)
            clear hX KF KA BT
            have KA := N1
            have KF := N2
            have BT := N3
            clear N1 N2 N3
            go_wp2
            rw [rounds_succ]
            go_upto_region 14 with (fail)
            have f0 := KF.out.cell 0
            have ff0 := KF.out.frozen 0
            have f1 := KF.out.cell 1
            have ff1 := KF.out.frozen 1
            have f2 := KF.out.cell 2
            have ff2 := KF.out.frozen 2
            have fl := KF.out.lt
            simp only [List.getElem?_toArray, List.getElem?_cons_zero, List.getElem?_cons_succ] at f0 f1 f2
            have dd : decide (D0 < D1) = false := decide_eq_false (by omega)
            go_quiet (fail)
            clear f0 ff0 f1 ff1 f2 ff2 fl
            clear dd
            have G := Lib.hid (grow_drewN (grow_refl W3b) nq : Below W3b.heap.size W3b (W3b.drewN nq))
            replace BT := Lib.hid (BT.out.trans (G.out.mono (Nat.le_of_lt KA.out.lt)))
            replace KF := Lib.hid (KF.out.below G.out)
            replace KA := Lib.hid (KA.out.below G.out)
            clear G
            generalize W3b.drewN nq = V4 at *
            go_wp2
            rw [rounds_succ]
            go_wp2
            rw [rounds_succ]
            go_wp2
            go_meet
            rw [EL.out, EM.out, ES.out, HO.out]
            exact ⟨KF.out, KA.out, BT.out⟩
          · have HO := Lib.hid (show ord3 (acr p q t) = (0, 2, 1) by unfold ord3; rw [if_neg h01, if_pos h12, if_neg h02])
            have EL := Lib.hid (show longZ p q t = acr p q t 0 by unfold longZ; rw [HO.out])
            have EM := Lib.hid (show midZ p q t = acr p q t 2 by unfold midZ; rw [HO.out])
            have ES := Lib.hid (show shortZ p q t = acr p q t 1 by unfold shortZ; rw [HO.out])
            generalize acr p q t 0 = D0 at *
            generalize acr p q t 1 = D1 at *
            generalize acr p q t 2 = D2 at *
            go_wp2
            refine wp_loop_rounds 3 ?_
            rw [rounds_succ]
            go_wp2
            refine wp_loop_rounds 3 ?_
            rw [rounds_succ]
            go_upto_region 14 with (fail)
            have f0 := KF.out.cell 0
            have ff0 := KF.out.frozen 0
            have f1 := KF.out.cell 1
            have ff1 := KF.out.frozen 1
            have f2 := KF.out.cell 2
            have ff2 := KF.out.frozen 2
            have fl := KF.out.lt
            simp only [List.getElem?_toArray, List.getElem?_cons_zero, List.getElem?_cons_succ] at f0 f1 f2
            have dd : decide (D0 < D1) = false := decide_eq_false (by omega)
            go_quiet (fail)
            clear f0 ff0 f1 ff1 f2 ff2 fl
            clear dd
            have G := Lib.hid (grow_drewN (grow_refl V) nq : Below V.heap.size V (V.drewN nq))
            replace BT := Lib.hid (BT.out.trans (G.out.mono (Nat.le_of_lt KA.out.lt)))
            replace KF := Lib.hid (KF.out.below G.out)
            replace KA := Lib.hid (KA.out.below G.out)
            clear G
            generalize V.drewN nq = V1 at *
            go_wp2
            rw [rounds_succ]
            go_upto_region 14 with (fail)
            have f0 := KF.out.cell 0
            have ff0 := KF.out.frozen 0
            have f1 := KF.out.cell 1
            have ff1 := KF.out.frozen 1
            have f2 := KF.out.cell 2
            have ff2 := KF.out.frozen 2
            have fl := KF.out.lt
            simp only [List.getElem?_toArray, List.getElem?_cons_zero, List.getElem?_cons_succ] at f0 f1 f2
            have dd : decide (D1 < D2) = true := decide_eq_true (by omega)
            go_quiet (fail)
            clear f0 ff0 f1 ff1 f2 ff2 fl
            clear dd
            have G := Lib.hid (grow_drewN (grow_refl V1) nq : Below V1.heap.size V1 (V1.drewN nq))
            replace BT := Lib.hid (BT.out.trans (G.out.mono (Nat.le_of_lt KA.out.lt)))
            replace KF := Lib.hid (KF.out.below G.out)
            replace KA := Lib.hid (KA.out.below G.out)
            clear G
            generalize V1.drewN nq = V2 at *
            go_upto_region 15 with (fail)
            have f0 := KF.out.cell 0
            have ff0 := KF.out.frozen 0
            have f1 := KF.out.cell 1
            have ff1 := KF.out.frozen 1
            have f2 := KF.out.cell 2
            have ff2 := KF.out.frozen 2
            have fl := KF.out.lt
            simp only [List.getElem?_toArray, List.getElem?_cons_zero, List.getElem?_cons_succ] at f0 f1 f2
            refine Grow.wp_region_plan (.quiet [0, 1, 2, 3, 4, 5, 6, 7, 8, 10, 11, 12] (.reads [9, 13] (.tail [14, 15, 16, 17]))) (by kernel_rfl) (by kernel_rfl) (by kernel_rfl) (by kernel_rfl) ?_ ?_
            · intro c aa d v ww h
              first
                | exact Grow.bodyPost_blind h
                | (simp (config := {zetaDelta := true}) only [Exit.then, Exit.inBlock] at h ⊢; first | exact Grow.bodyPost_blind h | exact h)
            simp only [Grow.Plan.wp, Grow.pick, List.getElem?_cons_zero, List.getElem?_cons_succ, List.cons_append, List.nil_append]
            repeat (go_big_quiet_step (fail))
            refine wpQuiet_nil ?_
            repeat (go_big_quiet_step (fail))
            refine wpQuiet_nil ?_
            go_upto_region 16 with (fail)
            clear f0 ff0 f1 ff1 f2 ff2 fl
            refine seal_wp fun W2a hX => ?_
            have N1 := Lib.hid (show Known W2a gf #[.int .i64 D0, .int .i64 D2, .int .i64 D1] by rw [hX.out]; exact (known_swap12 KF.out).drew)
            have N2 := Lib.hid (show Known W2a ga #[.int .i64 0, .int .i64 1, .int .i64 2] by rw [hX.out]; exact ((KA.out.other n1 _ _).other n1 _ _).drew)
            have N3 := Lib.hid (show Below ga w4 W2a by rw [hX.out]; exact ((BT.out.setCell (Nat.le_of_lt hgl) _).setCell (Nat.le_of_lt hgl) _).drew)
            clear hX KF KA BT
            have KF := N1
            have KA := N2
            have BT := N3
            clear N1 N2 N3
            have f0 := KA.out.cell 0
            have ff0 := KA.out.frozen 0
            have f1 := KA.out.cell 1
            have ff1 := KA.out.frozen 1
            have f2 := KA.out.cell 2
            have ff2 := KA.out.frozen 2
            have fl := KA.out.lt
            simp only [List.getElem?_toArray, List.getElem?_cons_zero, List.getElem?_cons_succ] at f0 f1 f2
            refine Grow.wp_region_plan (.quiet [0, 1, 2, 3, 4, 5, 6, 7, 8, 10, 11, 12] (.reads [9, 13] (.tail [14, 15, 16, 17]))) (by kernel_rfl) (by kernel_rfl) (by kernel_rfl) (by kernel_rfl) ?_ ?_
            · intro c aa d v ww h
              first
                | exact Grow.bodyPost_blind h
                | (simp (config := {zetaDelta := true}) only [Exit.then, Exit.inBlock] at h ⊢; first | exact Grow.bodyPost_blind h | exact h)
            simp only [Grow.Plan.wp, Grow.pick, List.getElem?_cons_zero, List.getElem?_cons_succ, List.cons_append, List.nil_append]
            repeat (go_big_quiet_step (fail))
            refine wpQuiet_nil ?_
            repeat (go_big_quiet_step (fail))
            refine wpQuiet_nil ?_
            go_upto_region 13 with (fail)
            clear f0 ff0 f1 ff1 f2 ff2 fl
            refine seal_wp fun W2b hX => ?_
            have N1 := Lib.hid (show Known W2b ga #[.int .i64 0, .int .i64 2, .int .i64 1] by rw [hX.out]; exact (known_swap12 KA.out).drew)
            have N2 := Lib.hid (show Known W2b gf #[.int .i64 D0, .int .i64 D2, .int .i64 D1] by rw [hX.out]; exact ((KF.out.other n2 _ _).other n2 _ _).drew)
            have N3 := Lib.hid (show Below ga w4 W2b by rw [hX.out]; exact ((BT.out.setCell (Nat.le_refl ga) _).setCell (Nat.le_refl ga) _).drew)
            clear hX KF KA BT
            have KA := N1
            have KF := N2
            have BT := N3
            clear N1 N2 N3
            go_wp2
            rw [rounds_succ]
            go_wp2
            rw [rounds_succ]
            go_wp2
            refine wp_loop_rounds 3 ?_
            rw [rounds_succ]
            go_upto_region 14 with (fail)
            have f0 := KF.out.cell 0
            have ff0 := KF.out.frozen 0
            have f1 := KF.out.cell 1
            have ff1 := KF.out.frozen 1
            have f2 := KF.out.cell 2
            have ff2 := KF.out.frozen 2
            have fl := KF.out.lt
            simp only [List.getElem?_toArray, List.getElem?_cons_zero, List.getElem?_cons_succ] at f0 f1 f2
            have dd : decide (D0 < D2) = false := decide_eq_false (by omega)
            go_quiet (fail)
            clear f0 ff0 f1 ff1 f2 ff2 fl
            clear dd
            have G := Lib.hid (grow_drewN (grow_refl W2b) nq : Below W2b.heap.size W2b (W2b.drewN nq))
            replace BT := Lib.hid (BT.out.trans (G.out.mono (Nat.le_of_lt KA.out.lt)))
            replace KF := Lib.hid (KF.out.below G.out)
            replace KA := Lib.hid (KA.out.below G.out)
            clear G
            generalize W2b.drewN nq = V3 at *
            go_wp2
            rw [rounds_succ]
            go_upto_region 14 with (fail)
            have f0 := KF.out.cell 0
            have ff0 := KF.out.frozen 0
            have f1 := KF.out.cell 1
            have ff1 := KF.out.frozen 1
            have f2 := KF.out.cell 2
            have ff2 := KF.out.frozen 2
            have fl := KF.out.lt
            simp only [List.getElem?_toArray, List.getElem?_cons_zero, List.getElem?_cons_succ] at f0 f1 f2
            have dd : decide (D2 < D1) = false := decide_eq_false (by omega)
            go_quiet (fail)
            clear f0 ff0 f1 ff1 f2 ff2 fl
            clear dd
            have G := Lib.hid (grow_drewN (grow_refl V3) nq : Below V3.heap.size V3 (V3.drewN nq))
            replace BT := Lib.hid (BT.out.trans (G.out.mono (Nat.le_of_lt KA.out.lt)))
            replace KF := Lib.hid (KF.out.below G.out)
            replace KA := Lib.hid (KA.out.below G.out)
            clear G
            generalize V3.drewN nq = V4 at *
            go_wp2
            rw [rounds_succ]
            go_wp2
            rw [rounds_succ]
            go_wp2
            go_meet
            rw [EL.out, EM.out, ES.out, HO.out]
            exact ⟨KF.out, KA.out, BT.out⟩
        · have HO := Lib.hid (show ord3 (acr p q t) = (0, 1, 2) by unfold ord3; rw [if_neg h01, if_neg h12])
          have EL := Lib.hid (show longZ p q t = acr p q t 0 by unfold longZ; rw [HO.out])
          have EM := Lib.hid (show midZ p q t = acr p q t 1 by unfold midZ; rw [HO.out])
          have ES := Lib.hid (show shortZ p q t = acr p q t 2 by unfold shortZ; rw [HO.out])
          generalize acr p q t 0 = D0 at *
          generalize acr p q t 1 = D1 at *
          generalize acr p q t 2 = D2 at *
          go_wp2
          refine wp_loop_rounds 3 ?_
          rw [rounds_succ]
          go_wp2
          refine wp_loop_rounds 3 ?_
          rw [rounds_succ]
          go_upto_region 14 with (fail)
          have f0 := KF.out.cell 0
          have ff0 := KF.out.frozen 0
          have f1 := KF.out.cell 1
          have ff1 := KF.out.frozen 1
          have f2 := KF.out.cell 2
          have ff2 := KF.out.frozen 2
          have fl := KF.out.lt
          simp only [List.getElem?_toArray, List.getElem?_cons_zero, List.getElem?_cons_succ] at f0 f1 f2
          have dd : decide (D0 < D1) = false := decide_eq_false (by omega)
          go_quiet (fail)
          clear f0 ff0 f1 ff1 f2 ff2 fl
          clear dd
          have G := Lib.hid (grow_drewN (grow_refl V) nq : Below V.heap.size V (V.drewN nq))
          replace BT := Lib.hid (BT.out.trans (G.out.mono (Nat.le_of_lt KA.out.lt)))
          replace KF := Lib.hid (KF.out.below G.out)
          replace KA := Lib.hid (KA.out.below G.out)
          clear G
          generalize V.drewN nq = V1 at *
          go_wp2
          rw [rounds_succ]
          go_upto_region 14 with (fail)
          have f0 := KF.out.cell 0
          have ff0 := KF.out.frozen 0
          have f1 := KF.out.cell 1
          have ff1 := KF.out.frozen 1
          have f2 := KF.out.cell 2
          have ff2 := KF.out.frozen 2
          have fl := KF.out.lt
          simp only [List.getElem?_toArray, List.getElem?_cons_zero, List.getElem?_cons_succ] at f0 f1 f2
          have dd : decide (D1 < D2) = false := decide_eq_false (by omega)
          go_quiet (fail)
          clear f0 ff0 f1 ff1 f2 ff2 fl
          clear dd
          have G := Lib.hid (grow_drewN (grow_refl V1) nq : Below V1.heap.size V1 (V1.drewN nq))
          replace BT := Lib.hid (BT.out.trans (G.out.mono (Nat.le_of_lt KA.out.lt)))
          replace KF := Lib.hid (KF.out.below G.out)
          replace KA := Lib.hid (KA.out.below G.out)
          clear G
          generalize V1.drewN nq = V2 at *
          go_wp2
          rw [rounds_succ]
          go_wp2
          rw [rounds_succ]
          go_wp2
          refine wp_loop_rounds 3 ?_
          rw [rounds_succ]
          go_upto_region 14 with (fail)
          have f0 := KF.out.cell 0
          have ff0 := KF.out.frozen 0
          have f1 := KF.out.cell 1
          have ff1 := KF.out.frozen 1
          have f2 := KF.out.cell 2
          have ff2 := KF.out.frozen 2
          have fl := KF.out.lt
          simp only [List.getElem?_toArray, List.getElem?_cons_zero, List.getElem?_cons_succ] at f0 f1 f2
          have dd : decide (D0 < D1) = false := decide_eq_false (by omega)
          go_quiet (fail)
          clear f0 ff0 f1 ff1 f2 ff2 fl
          clear dd
          have G := Lib.hid (grow_drewN (grow_refl V2) nq : Below V2.heap.size V2 (V2.drewN nq))
          replace BT := Lib.hid (BT.out.trans (G.out.mono (Nat.le_of_lt KA.out.lt)))
          replace KF := Lib.hid (KF.out.below G.out)
          replace KA := Lib.hid (KA.out.below G.out)
          clear G
          generalize V2.drewN nq = V3 at *
          go_wp2
          rw [rounds_succ]
          go_upto_region 14 with (fail)
          have f0 := KF.out.cell 0
          have ff0 := KF.out.frozen 0
          have f1 := KF.out.cell 1
          have ff1 := KF.out.frozen 1
          have f2 := KF.out.cell 2
          have ff2 := KF.out.frozen 2
          have fl := KF.out.lt
          simp only [List.getElem?_toArray, List.getElem?_cons_zero, List.getElem?_cons_succ] at f0 f1 f2
          have dd : decide (D1 < D2) = false := decide_eq_false (by omega)
          go_quiet (fail)
          clear f0 ff0 f1 ff1 f2 ff2 fl
          clear dd
          have G := Lib.hid (grow_drewN (grow_refl V3) nq : Below V3.heap.size V3 (V3.drewN nq))
          replace BT := Lib.hid (BT.out.trans (G.out.mono (Nat.le_of_lt KA.out.lt)))
          replace KF := Lib.hid (KF.out.below G.out)
          replace KA := Lib.hid (KA.out.below G.out)
          clear G
          generalize V3.drewN nq = V4 at *
          go_wp2
          rw [rounds_succ]
          go_wp2
          rw [rounds_succ]
          go_wp2
          go_meet
          rw [EL.out, EM.out, ES.out, HO.out]
          exact ⟨KF.out, KA.out, BT.out⟩
    case rest =>
      obtain ⟨hkf, hka, hbt⟩ := hcut
      have KF := Lib.hid hkf
      have KA := Lib.hid hka
      have BT' := Lib.hid (show Below w4.heap.size w4 wc by rw [HGA.out]; exact hbt)
      clear hkf hka hbt
      have ZR := Lib.hid (ZR4.out.below BT'.out)
      have ZK := Lib.hid (ZK4.out.below BT'.out)
      have BW := Lib.hid (BW4.out.trans (BT'.out.mono BW4.out.size))
      have LK := Lib.hid (show bp < wc.heap.size ∧ gf < wc.heap.size ∧ ga < wc.heap.size from ⟨ZK.out.lt, KF.out.lt, KA.out.lt⟩)
      clear BT' E0 E1 E2
      generalize wc = V2 at *
      have OL := ord3_lt (acr p q t)
      have HHA := Lib.hid (show handZ p q t = if longZ p q t = midZ p q t ∨ midZ p q t = shortZ p q t then 0 else if arZ (pt p q t (ord3 (acr p q t)).1) (pt p q t (ord3 (acr p q t)).2.1) (pt p q t (ord3 (acr p q t)).2.2) < 0 then -1 else 1 from rfl)
      generalize hoo : ord3 (acr p q t) = oo at *
      obtain ⟨o1, o2, o3⟩ := oo
      have EO := Lib.hid hoo
      clear hoo
      dsimp only at OL HHA KA
      obtain ⟨ol1, ol2, ol3⟩ := OL
      generalize hL : longZ p q t = lo at *
      have EL := Lib.hid hL
      clear hL
      generalize hM : midZ p q t = mi at *
      have EM := Lib.hid hM
      clear hM
      generalize hS : shortZ p q t = sh at *
      have ES := Lib.hid hS
      clear hS
      generalize hH : handZ p q t = hd at *
      have EH := Lib.hid hH
      clear hH
      have f0 := KF.out.cell 0
      have ff0 := KF.out.frozen 0
      have f1 := KF.out.cell 1
      have ff1 := KF.out.frozen 1
      have f2 := KF.out.cell 2
      have ff2 := KF.out.frozen 2
      have fl := KF.out.lt
      simp only [List.getElem?_toArray, List.getElem?_cons_zero, List.getElem?_cons_succ] at f0 f1 f2
      have a0 := KA.out.cell 0
      have af0 := KA.out.frozen 0
      have a1 := KA.out.cell 1
      have af1 := KA.out.frozen 1
      have a2 := KA.out.cell 2
      have af2 := KA.out.frozen 2
      have al := KA.out.lt
      simp only [List.getElem?_toArray, List.getElem?_cons_zero, List.getElem?_cons_succ] at a0 a1 a2
      go_upto_region 17 with (fail)
      refine Grow.wp_region_plan (.quiet [0, 1, 3, 4, 6, 7, 10, 11, 13, 14, 16, 17] (.reads [2, 5, 8] (.quiet [9] (.reads [12, 15, 18] (.quiet [19] (.tail [20, 21])))))) (by kernel_rfl) (by kernel_rfl) (by kernel_rfl) (by kernel_rfl) ?_ ?_
      · intro c aa d v ww h
        first
          | exact Grow.bodyPost_blind h
          | (simp (config := {zetaDelta := true}) only [Exit.then, Exit.inBlock] at h ⊢; first | exact Grow.bodyPost_blind h | exact h)
      simp only [Grow.Plan.wp, Grow.pick, List.getElem?_cons_zero, List.getElem?_cons_succ, List.cons_append, List.nil_append]
      repeat (go_big_quiet_step (fail))
      refine wpQuiet_nil ?_
      repeat (go_big_quiet_step (fail))
      refine wpQuiet_nil ?_
      repeat (go_big_quiet_step (fail))
      refine wpQuiet_nil ?_
      repeat (go_big_quiet_step (fail))
      refine wpQuiet_nil ?_
      repeat (go_big_quiet_step (fail))
      refine wpQuiet_nil ?_
      go_upto_region 18 with (fail)
      clear f0 ff0 f1 ff1 f2 ff2 fl
      clear a0 af0 a1 af1 a2 af2 al
      refine seal_wp fun W hW => ?_
      have KQ := Lib.hid (show Known W V2.heap.size #[.int .i64 lo, .int .i64 mi, .int .i64 sh, .int .i64 0, .int .i64 (o1 : Nat), .int .i64 (o2 : Nat), .int .i64 (o3 : Nat)] by rw [hW.out]; exact (Known.new _ _ _).drew)
      have G := Lib.hid (show Below V2.heap.size V2 W by rw [hW.out]; exact grow_drew (grow_alloc (grow_refl _) _))
      clear hW
      have hwq := BW.out.size
      obtain ⟨lk1, lk2, lk3⟩ := LK.out
      have lk4 := ZR.out.lt
      replace KF := Lib.hid (KF.out.below G.out)
      replace KA := Lib.hid (KA.out.below G.out)
      replace ZR := Lib.hid (ZR.out.below G.out)
      replace ZK := Lib.hid (ZK.out.below G.out)
      replace BW := Lib.hid (BW.out.trans (G.out.mono BW.out.size))
      clear G LK
      generalize V2.heap.size = q0 at *
      have m1 : q0 ≠ bp := by omega
      have m2 : q0 ≠ gf := by omega
      have m3 : q0 ≠ ga := by omega
      have m4 : q0 ≠ b := by omega
      by_cases e1 : lo = mi
      · obtain rfl : hd = 0 := by rw [HHA.out, if_pos (.inl e1)]
        subst e1
        have f0 := KF.out.cell 0
        have ff0 := KF.out.frozen 0
        have f1 := KF.out.cell 1
        have ff1 := KF.out.frozen 1
        have f2 := KF.out.cell 2
        have ff2 := KF.out.frozen 2
        have fl := KF.out.lt
        simp only [List.getElem?_toArray, List.getElem?_cons_zero, List.getElem?_cons_succ] at f0 f1 f2
        go_quiet (fail)
        clear f0 ff0 f1 ff1 f2 ff2 fl
        have G := Lib.hid (grow_drewN (grow_refl W) nq : Below W.heap.size W (W.drewN nq))
        replace KF := Lib.hid (KF.out.below G.out)
        replace KA := Lib.hid (KA.out.below G.out)
        replace KQ := Lib.hid (KQ.out.below G.out)
        replace ZR := Lib.hid (ZR.out.below G.out)
        replace ZK := Lib.hid (ZK.out.below G.out)
        replace BW := Lib.hid (BW.out.trans (G.out.mono BW.out.size))
        clear G
        generalize W.drewN nq = U at *
        have s0 := KQ.out.cell 0
        have s1 := KQ.out.cell 1
        have s2 := KQ.out.cell 2
        have s3 := KQ.out.cell 3
        have s4 := KQ.out.cell 4
        have s5 := KQ.out.cell 5
        have s6 := KQ.out.cell 6
        have s3f := KQ.out.frozen 3
        have lq := KQ.out.lt
        simp only [List.getElem?_toArray, List.getElem?_cons_zero, List.getElem?_cons_succ] at s0 s1 s2 s3 s4 s5 s6
        have Z5 := Lib.hid ZK.out
        have d0 := Z5.out.cell 0
        have d1 := Z5.out.cell 1
        have d2 := Z5.out.cell 2
        have d3 := Z5.out.cell 3
        have d4 := Z5.out.cell 4
        have d5 := Z5.out.cell 5
        have d6 := Z5.out.cell 6
        have g0 := Z5.out.frozen 0
        have g1 := Z5.out.frozen 1
        have g2 := Z5.out.frozen 2
        have g3 := Z5.out.frozen 3
        have g4 := Z5.out.frozen 4
        have g5 := Z5.out.frozen 5
        have g6 := Z5.out.frozen 6
        have lz := Z5.out.lt
        simp only [List.getElem?_toArray, List.getElem?_cons_zero, List.getElem?_cons_succ] at d0 d1 d2 d3 d4 d5 d6
        have KF := Lib.hid (known_seven Z5.out (.int .i64 lo) (.int .i64 lo) (.int .i64 sh) (.int .i64 (0)) (.int .i64 (o1 : Nat)) (.int .i64 (o2 : Nat)) (.int .i64 (o3 : Nat)))
        go_wp2
        (try simp only [Exit.inBlock, Exit.then])
        refine bodyPost_ret (res_c2 rfl _ _ bp [.int .i64 lo, .int .i64 lo, .int .i64 sh, .int .i64 (0), .int .i64 (o1 : Nat), .int .i64 (o2 : Nat), .int .i64 (o3 : Nat)] _ rfl KF.out Tryz.underlying33 rfl (by kernel_rfl)) rfl ?_
        have hbp : w.heap.size ≤ bp := Nat.le_of_eq HBP.out
        rw [EL.out, EM.out, ES.out, EH.out, EO.out]
        exact ⟨rfl, (by (repeat (with_reducible first | exact BW.out | refine Below.drew ?_ | refine Below.setCell ?_ ?_ _)) <;> (show w.heap.size ≤ _; dsimp only; omega))⟩
      · by_cases e2 : mi = sh
        · obtain rfl : hd = 0 := by rw [HHA.out, if_pos (.inr e2)]
          have b1 : (lo == mi) = false := beq_eq_false_iff_ne.2 e1
          subst e2
          have f0 := KF.out.cell 0
          have ff0 := KF.out.frozen 0
          have f1 := KF.out.cell 1
          have ff1 := KF.out.frozen 1
          have f2 := KF.out.cell 2
          have ff2 := KF.out.frozen 2
          have fl := KF.out.lt
          simp only [List.getElem?_toArray, List.getElem?_cons_zero, List.getElem?_cons_succ] at f0 f1 f2
          go_quiet (fail)
          clear f0 ff0 f1 ff1 f2 ff2 fl
          have G := Lib.hid (grow_drewN (grow_refl W) nq : Below W.heap.size W (W.drewN nq))
          replace KF := Lib.hid (KF.out.below G.out)
          replace KA := Lib.hid (KA.out.below G.out)
          replace KQ := Lib.hid (KQ.out.below G.out)
          replace ZR := Lib.hid (ZR.out.below G.out)
          replace ZK := Lib.hid (ZK.out.below G.out)
          replace BW := Lib.hid (BW.out.trans (G.out.mono BW.out.size))
          clear G
          generalize W.drewN nq = U at *
          have s0 := KQ.out.cell 0
          have s1 := KQ.out.cell 1
          have s2 := KQ.out.cell 2
          have s3 := KQ.out.cell 3
          have s4 := KQ.out.cell 4
          have s5 := KQ.out.cell 5
          have s6 := KQ.out.cell 6
          have s3f := KQ.out.frozen 3
          have lq := KQ.out.lt
          simp only [List.getElem?_toArray, List.getElem?_cons_zero, List.getElem?_cons_succ] at s0 s1 s2 s3 s4 s5 s6
          have Z5 := Lib.hid ZK.out
          have d0 := Z5.out.cell 0
          have d1 := Z5.out.cell 1
          have d2 := Z5.out.cell 2
          have d3 := Z5.out.cell 3
          have d4 := Z5.out.cell 4
          have d5 := Z5.out.cell 5
          have d6 := Z5.out.cell 6
          have g0 := Z5.out.frozen 0
          have g1 := Z5.out.frozen 1
          have g2 := Z5.out.frozen 2
          have g3 := Z5.out.frozen 3
          have g4 := Z5.out.frozen 4
          have g5 := Z5.out.frozen 5
          have g6 := Z5.out.frozen 6
          have lz := Z5.out.lt
          simp only [List.getElem?_toArray, List.getElem?_cons_zero, List.getElem?_cons_succ] at d0 d1 d2 d3 d4 d5 d6
          have KF := Lib.hid (known_seven Z5.out (.int .i64 lo) (.int .i64 mi) (.int .i64 mi) (.int .i64 (0)) (.int .i64 (o1 : Nat)) (.int .i64 (o2 : Nat)) (.int .i64 (o3 : Nat)))
          go_wp2
          (try simp only [Exit.inBlock, Exit.then])
          refine bodyPost_ret (res_c2 rfl _ _ bp [.int .i64 lo, .int .i64 mi, .int .i64 mi, .int .i64 (0), .int .i64 (o1 : Nat), .int .i64 (o2 : Nat), .int .i64 (o3 : Nat)] _ rfl KF.out Tryz.underlying33 rfl (by kernel_rfl)) rfl ?_
          have hbp : w.heap.size ≤ bp := Nat.le_of_eq HBP.out
          rw [EL.out, EM.out, ES.out, EH.out, EO.out]
          exact ⟨rfl, (by (repeat (with_reducible first | exact BW.out | refine Below.drew ?_ | refine Below.setCell ?_ ?_ _)) <;> (show w.heap.size ≤ _; dsimp only; omega))⟩
        · have b1 : (lo == mi) = false := beq_eq_false_iff_ne.2 e1
          have b2 : (mi == sh) = false := beq_eq_false_iff_ne.2 e2
          have b3 : (lo != mi) = true := by simp [bne, b1]
          have b4 : (mi != sh) = true := by simp [bne, b2]
          have f0 := KF.out.cell 0
          have ff0 := KF.out.frozen 0
          have f1 := KF.out.cell 1
          have ff1 := KF.out.frozen 1
          have f2 := KF.out.cell 2
          have ff2 := KF.out.frozen 2
          have fl := KF.out.lt
          simp only [List.getElem?_toArray, List.getElem?_cons_zero, List.getElem?_cons_succ] at f0 f1 f2
          go_quiet (fail)
          clear f0 ff0 f1 ff1 f2 ff2 fl
          have G := Lib.hid (grow_drewN (grow_refl W) nq : Below W.heap.size W (W.drewN nq))
          replace KF := Lib.hid (KF.out.below G.out)
          replace KA := Lib.hid (KA.out.below G.out)
          replace KQ := Lib.hid (KQ.out.below G.out)
          replace ZR := Lib.hid (ZR.out.below G.out)
          replace ZK := Lib.hid (ZK.out.below G.out)
          replace BW := Lib.hid (BW.out.trans (G.out.mono BW.out.size))
          clear G
          generalize W.drewN nq = U at *
          have s0 := KQ.out.cell 0
          have s1 := KQ.out.cell 1
          have s2 := KQ.out.cell 2
          have s3 := KQ.out.cell 3
          have s4 := KQ.out.cell 4
          have s5 := KQ.out.cell 5
          have s6 := KQ.out.cell 6
          have s3f := KQ.out.frozen 3
          have lq := KQ.out.lt
          simp only [List.getElem?_toArray, List.getElem?_cons_zero, List.getElem?_cons_succ] at s0 s1 s2 s3 s4 s5 s6
          go_upto_region 20 with (fail)
          clear s0 s1 s2 s3 s4 s5 s6 s3f lq
          refine seal_wp fun U2 hU => ?_
          have N1 := Lib.hid (show Known U2 q0 #[.int .i64 lo, .int .i64 mi, .int .i64 sh, .int .i64 (1), .int .i64 (o1 : Nat), .int .i64 (o2 : Nat), .int .i64 (o3 : Nat)] by rw [hU.out]; exact known_set3 KQ.out _)
          have N2 := Lib.hid (show Known U2 ga #[.int .i64 (o1 : Nat), .int .i64 (o2 : Nat), .int .i64 (o3 : Nat)] by rw [hU.out]; exact KA.out.other m3 _ _)
          have N3 := Lib.hid (show Row9 U2 b o p q t by rw [hU.out]; exact ZR.out.other m4 _ _)
          have N4 := Lib.hid (show Known U2 bp #[.int .i64 0, .int .i64 0, .int .i64 0, .int .i64 0, .int .i64 0, .int .i64 0, .int .i64 0] by rw [hU.out]; exact ZK.out.other m1 _ _)
          have N5 := Lib.hid (show Below w.heap.size w U2 by rw [hU.out]; exact BW.out.setCell hwq _)
          have N6 := Lib.hid (show Known U2 gf #[.int .i64 lo, .int .i64 mi, .int .i64 sh] by rw [hU.out]; exact KF.out.other m2 _ _)
          clear hU KQ KA ZR ZK BW KF
          have KQ := N1
          have KA := N2
          have ZR := N3
          have ZK := N4
          have BW := N5
          have KF := N6
          clear N1 N2 N3 N4 N5 N6
          have TG := Lib.hid (fun V => twice_walk (pt p q t o1) (pt p q t o2) (pt p q t o3) (pt_good ha hb hc o1) (pt_good ha hb hc o2) (pt_good ha hb hc o3) V)
          unfold drV at TG
          obtain ⟨p1, p2, p3⟩ := row9_cell ZR.out o1 ol1
          obtain ⟨p4, p5, p6⟩ := row9_cell ZR.out o2 ol2
          obtain ⟨p7, p8, p9⟩ := row9_cell ZR.out o3 ol3
          generalize har : arZ (pt p q t o1) (pt p q t o2) (pt p q t o3) = ar at *
          clear har
          generalize pt p q t o1 = P1 at *
          generalize pt p q t o2 = P2 at *
          generalize pt p q t o3 = P3 at *
          have lbb := ZR.out.lt
          have i1 : (0 : Int) ≤ (o1 : Int) := by omega
          have i2 : (0 : Int) ≤ (o2 : Int) := by omega
          have i3 : (0 : Int) ≤ (o3 : Int) := by omega
          have j1 : (o1 : Int) < (len : Int) := by omega
          have j2 : (o2 : Int) < (len : Int) := by omega
          have j3 : (o3 : Int) < (len : Int) := by omega
          have a0 := KA.out.cell 0
          have af0 := KA.out.frozen 0
          have a1 := KA.out.cell 1
          have af1 := KA.out.frozen 1
          have a2 := KA.out.cell 2
          have af2 := KA.out.frozen 2
          have al := KA.out.lt
          simp only [List.getElem?_toArray, List.getElem?_cons_zero, List.getElem?_cons_succ] at a0 a1 a2
          refine Grow.wp_region_plan (.quiet [0, 1, 2, 6, 7, 8, 12, 13, 14] (.reads [3, 9, 15] (.quiet [4, 10, 16] (.reads [5, 11, 17] (.tail [18, 19]))))) (by kernel_rfl) (by kernel_rfl) (by kernel_rfl) (by kernel_rfl) ?_ ?_
          · intro c aa d v ww h
            first
              | exact Grow.bodyPost_blind h
              | (simp (config := {zetaDelta := true}) only [Exit.then, Exit.inBlock] at h ⊢; first | exact Grow.bodyPost_blind h | exact h)
          simp only [Grow.Plan.wp, Grow.pick, List.getElem?_cons_zero, List.getElem?_cons_succ, List.cons_append, List.nil_append]
          repeat (go_big_quiet_step (fail))
          refine wpQuiet_nil ?_
          repeat (go_big_quiet_step (fail))
          refine wpQuiet_nil ?_
          repeat (go_big_quiet_step (fail))
          refine wpQuiet_nil ?_
          repeat (go_big_quiet_step (fail))
          refine wpQuiet_nil ?_
          by_cases e3 : ar < 0
          · have d3 : decide (ar < 0) = true := decide_eq_true e3
            obtain rfl : hd = -1 := by rw [HHA.out, if_neg (by intro h; rcases h with h | h; exact e1 h; exact e2 h), if_pos e3]
            go_upto_region 21 with (go_at_call 23; go_loud ((with_reducible refine (TG.out _).mono ?_); rintro e w9 ⟨rfl, hb⟩; have B9 := Lib.hid (grow_trans (grow_drew (grow_refl _)) hb : Below U2.heap.size U2 w9); clear hb p1 p2 p3 p4 p5 p6 p7 p8 p9 lbb TG a0 af0 a1 af1 a2 af2 al))
            have G := Lib.hid (B9.out : Below U2.heap.size U2 w9)
            replace KF := Lib.hid (KF.out.below G.out)
            replace KA := Lib.hid (KA.out.below G.out)
            replace KQ := Lib.hid (KQ.out.below G.out)
            replace ZR := Lib.hid (ZR.out.below G.out)
            replace ZK := Lib.hid (ZK.out.below G.out)
            replace BW := Lib.hid (BW.out.trans (G.out.mono BW.out.size))
            clear G
            clear B9
            generalize w9 = U3 at *
            have s0 := KQ.out.cell 0
            have s1 := KQ.out.cell 1
            have s2 := KQ.out.cell 2
            have s3 := KQ.out.cell 3
            have s4 := KQ.out.cell 4
            have s5 := KQ.out.cell 5
            have s6 := KQ.out.cell 6
            have s3f := KQ.out.frozen 3
            have lq := KQ.out.lt
            simp only [List.getElem?_toArray, List.getElem?_cons_zero, List.getElem?_cons_succ] at s0 s1 s2 s3 s4 s5 s6
            go_upto_region 22 with (fail)
            clear s0 s1 s2 s3 s4 s5 s6 s3f lq
            refine seal_wp fun U4 hU => ?_
            have N1 := Lib.hid (show Known U4 q0 #[.int .i64 lo, .int .i64 mi, .int .i64 sh, .int .i64 (-1), .int .i64 (o1 : Nat), .int .i64 (o2 : Nat), .int .i64 (o3 : Nat)] by rw [hU.out]; exact known_set3 KQ.out _)
            have N2 := Lib.hid (show Known U4 ga #[.int .i64 (o1 : Nat), .int .i64 (o2 : Nat), .int .i64 (o3 : Nat)] by rw [hU.out]; exact KA.out.other m3 _ _)
            have N3 := Lib.hid (show Row9 U4 b o p q t by rw [hU.out]; exact ZR.out.other m4 _ _)
            have N4 := Lib.hid (show Known U4 bp #[.int .i64 0, .int .i64 0, .int .i64 0, .int .i64 0, .int .i64 0, .int .i64 0, .int .i64 0] by rw [hU.out]; exact ZK.out.other m1 _ _)
            have N5 := Lib.hid (show Below w.heap.size w U4 by rw [hU.out]; exact BW.out.setCell hwq _)
            have N6 := Lib.hid (show Known U4 gf #[.int .i64 lo, .int .i64 mi, .int .i64 sh] by rw [hU.out]; exact KF.out.other m2 _ _)
            clear hU KQ KA ZR ZK BW KF
            have KQ := N1
            have KA := N2
            have ZR := N3
            have ZK := N4
            have BW := N5
            have KF := N6
            clear N1 N2 N3 N4 N5 N6
            have s0 := KQ.out.cell 0
            have s1 := KQ.out.cell 1
            have s2 := KQ.out.cell 2
            have s3 := KQ.out.cell 3
            have s4 := KQ.out.cell 4
            have s5 := KQ.out.cell 5
            have s6 := KQ.out.cell 6
            have s3f := KQ.out.frozen 3
            have lq := KQ.out.lt
            simp only [List.getElem?_toArray, List.getElem?_cons_zero, List.getElem?_cons_succ] at s0 s1 s2 s3 s4 s5 s6
            have Z5 := Lib.hid ZK.out
            have d0 := Z5.out.cell 0
            have d1 := Z5.out.cell 1
            have d2 := Z5.out.cell 2
            have d3 := Z5.out.cell 3
            have d4 := Z5.out.cell 4
            have d5 := Z5.out.cell 5
            have d6 := Z5.out.cell 6
            have g0 := Z5.out.frozen 0
            have g1 := Z5.out.frozen 1
            have g2 := Z5.out.frozen 2
            have g3 := Z5.out.frozen 3
            have g4 := Z5.out.frozen 4
            have g5 := Z5.out.frozen 5
            have g6 := Z5.out.frozen 6
            have lz := Z5.out.lt
            simp only [List.getElem?_toArray, List.getElem?_cons_zero, List.getElem?_cons_succ] at d0 d1 d2 d3 d4 d5 d6
            have KF := Lib.hid (known_seven Z5.out (.int .i64 lo) (.int .i64 mi) (.int .i64 sh) (.int .i64 (-1)) (.int .i64 (o1 : Nat)) (.int .i64 (o2 : Nat)) (.int .i64 (o3 : Nat)))
            go_wp2
            (try simp only [Exit.inBlock, Exit.then])
            refine bodyPost_ret (res_c2 rfl _ _ bp [.int .i64 lo, .int .i64 mi, .int .i64 sh, .int .i64 (-1), .int .i64 (o1 : Nat), .int .i64 (o2 : Nat), .int .i64 (o3 : Nat)] _ rfl KF.out Tryz.underlying33 rfl (by kernel_rfl)) rfl ?_
            have hbp : w.heap.size ≤ bp := Nat.le_of_eq HBP.out
            rw [EL.out, EM.out, ES.out, EH.out, EO.out]
            exact ⟨rfl, (by (repeat (with_reducible first | exact BW.out | refine Below.drew ?_ | refine Below.setCell ?_ ?_ _)) <;> (show w.heap.size ≤ _; dsimp only; omega))⟩
          · have d3 : decide (ar < 0) = false := decide_eq_false e3
            obtain rfl : hd = 1 := by rw [HHA.out, if_neg (by intro h; rcases h with h | h; exact e1 h; exact e2 h), if_neg e3]
            go_upto_region 22 with (go_at_call 23; go_loud ((with_reducible refine (TG.out _).mono ?_); rintro e w9 ⟨rfl, hb⟩; have B9 := Lib.hid (grow_trans (grow_drew (grow_refl _)) hb : Below U2.heap.size U2 w9); clear hb p1 p2 p3 p4 p5 p6 p7 p8 p9 lbb TG a0 af0 a1 af1 a2 af2 al))
            have G := Lib.hid (B9.out : Below U2.heap.size U2 w9)
            replace KF := Lib.hid (KF.out.below G.out)
            replace KA := Lib.hid (KA.out.below G.out)
            replace KQ := Lib.hid (KQ.out.below G.out)
            replace ZR := Lib.hid (ZR.out.below G.out)
            replace ZK := Lib.hid (ZK.out.below G.out)
            replace BW := Lib.hid (BW.out.trans (G.out.mono BW.out.size))
            clear G
            clear B9
            generalize w9 = U3 at *
            have s0 := KQ.out.cell 0
            have s1 := KQ.out.cell 1
            have s2 := KQ.out.cell 2
            have s3 := KQ.out.cell 3
            have s4 := KQ.out.cell 4
            have s5 := KQ.out.cell 5
            have s6 := KQ.out.cell 6
            have s3f := KQ.out.frozen 3
            have lq := KQ.out.lt
            simp only [List.getElem?_toArray, List.getElem?_cons_zero, List.getElem?_cons_succ] at s0 s1 s2 s3 s4 s5 s6
            have Z5 := Lib.hid ZK.out
            have d0 := Z5.out.cell 0
            have d1 := Z5.out.cell 1
            have d2 := Z5.out.cell 2
            have d3 := Z5.out.cell 3
            have d4 := Z5.out.cell 4
            have d5 := Z5.out.cell 5
            have d6 := Z5.out.cell 6
            have g0 := Z5.out.frozen 0
            have g1 := Z5.out.frozen 1
            have g2 := Z5.out.frozen 2
            have g3 := Z5.out.frozen 3
            have g4 := Z5.out.frozen 4
            have g5 := Z5.out.frozen 5
            have g6 := Z5.out.frozen 6
            have lz := Z5.out.lt
            simp only [List.getElem?_toArray, List.getElem?_cons_zero, List.getElem?_cons_succ] at d0 d1 d2 d3 d4 d5 d6
            have KF := Lib.hid (known_seven Z5.out (.int .i64 lo) (.int .i64 mi) (.int .i64 sh) (.int .i64 (1)) (.int .i64 (o1 : Nat)) (.int .i64 (o2 : Nat)) (.int .i64 (o3 : Nat)))
            go_wp2
            (try simp only [Exit.inBlock, Exit.then])
            refine bodyPost_ret (res_c2 rfl _ _ bp [.int .i64 lo, .int .i64 mi, .int .i64 sh, .int .i64 (1), .int .i64 (o1 : Nat), .int .i64 (o2 : Nat), .int .i64 (o3 : Nat)] _ rfl KF.out Tryz.underlying33 rfl (by kernel_rfl)) rfl ?_
            have hbp : w.heap.size ≤ bp := Nat.le_of_eq HBP.out
            rw [EL.out, EM.out, ES.out, EH.out, EO.out]
            exact ⟨rfl, (by (repeat (with_reducible first | exact BW.out | refine Below.drew ?_ | refine Below.setCell ?_ ?_ _)) <;> (show w.heap.size ≤ _; dsimp only; omega))⟩
end Go.Proofs.YtlnbeildplafbaaGreatDoor
