/- Shapes of three points: corners where there is a shape. -/
import Derived.Test.YtlnbeildplafbaaGreatDoorPs5
import Derived.Test.YtlnbeildplafbaaGreatDoorPlc
import Derived.Laws.EntriesVeiled
import Derived.Laws.Cover3
set_option linter.unusedSimpArgs false
set_option linter.unusedVariables false
namespace Go.Pl
open Go.Atl
/-- What stands in the corners' order. -/
def longZ (a b c : Dr) : Int := acr a b c (ord3 (acr a b c)).1
def midZ (a b c : Dr) : Int := acr a b c (ord3 (acr a b c)).2.1
def shortZ (a b c : Dr) : Int := acr a b c (ord3 (acr a b c)).2.2
def pt (a b c : Dr) : Nat → Dr
  | 0 => a
  | 1 => b
  | _ => c
def handZ (a b c : Dr) : Int := if longZ a b c = midZ a b c ∨ midZ a b c = shortZ a b c then 0 else if arZ (pt a b c (ord3 (acr a b c)).1) (pt a b c (ord3 (acr a b c)).2.1) (pt a b c (ord3 (acr a b c)).2.2) < 0 then -1 else 1
theorem ord3_lt (D : Nat → Int) : (ord3 D).1 < 3 ∧ (ord3 D).2.1 < 3 ∧ (ord3 D).2.2 < 3 := by
  unfold ord3
  split <;> split <;> (try split) <;> decide
end Go.Pl
namespace Go.Proofs.YtlnbeildplafbaaGreatDoor
open Go.RowKit Go.Grow Go.Wd Go.Atl Go.Pl

theorem pts_cell {V : World} {bp : Nat} {a b c : Dr} (h : Known V bp (cellsP a b c)) (o : Nat) (ho : o < 3) : V.cell? ⟨bp, o * 3, none⟩ = some (.int .i64 (pt a b c o).x) ∧ V.cell? ⟨bp, o * 3 + 1, none⟩ = some (.int .i64 (pt a b c o).y) ∧ V.cell? ⟨bp, o * 3 + 2, none⟩ = some (.int .i64 (pt a b c o).z) := by
  match o, ho with
  | 0, _ => exact ⟨h.cell 0, h.cell 1, h.cell 2⟩
  | 1, _ => exact ⟨h.cell 3, h.cell 4, h.cell 5⟩
  | 2, _ => exact ⟨h.cell 6, h.cell 7, h.cell 8⟩
theorem pt_good {a b c : Dr} (ha : goodP a = true) (hb : goodP b = true) (hc : goodP c = true) (o : Nat) : goodP (pt a b c o) = true := by
  unfold pt
  split <;> assumption
theorem known_four {w : World} {b : Nat} {z0 z1 z2 z3 : Value} (h : Known w b #[z0, z1, z2, z3]) (a0 a1 a2 a3 : Value) : Known ((((w.setCell ⟨b, 0, none⟩ a0).setCell ⟨b, 1, none⟩ a1).setCell ⟨b, 2, none⟩ a2).setCell ⟨b, 3, none⟩ a3) b [a0, a1, a2, a3].toArray := by
  have := (((h.same 0 a0).same 1 a1).same 2 a2).same 3 a3
  simpa using this
theorem known_three {w : World} {b : Nat} {z0 z1 z2 : Value} (h : Known w b #[z0, z1, z2]) (a0 a1 a2 : Value) : Known (((w.setCell ⟨b, 0, none⟩ a0).setCell ⟨b, 1, none⟩ a1).setCell ⟨b, 2, none⟩ a2) b [a0, a1, a2].toArray := by
  have := ((h.same 0 a0).same 1 a1).same 2 a2
  simpa using this
theorem at3 (b : Nat) (w : World) : (Instr.arrayAt 64 (.slice (some ⟨b, 0, none⟩) 3 3)).run Tryz.prog w = .ok (.pointer (some ⟨b, 0, none⟩)) w := run_arrayAt w 64 _ 3 (some ⟨b, 0, none⟩) 3 3 Tryz.underlying64 (Nat.le_refl 3)
set_option maxRecDepth 100000 in
set_option maxHeartbeats 16000000 in
theorem corners_good (a b c : Dr) (ha : goodP a = true) (hb : goodP b = true) (hc : goodP c = true) (hr : arZ a b c ≠ 0) (w : World) :
    Calls Tryz.prog 21 #[arr9 a b c] w fun e w' => e = .returned (.tuple #[shV (longZ a b c) (midZ a b c) (shortZ a b c) (handZ a b c), i3V (ord3 (acr a b c)).1 (ord3 (acr a b c)).2.1 (ord3 (acr a b c)).2.2, .bool true]) ∧ Below w.heap.size w w' := by
  have GA := Lib.hid (fun X => good_walk a X)
  have GB := Lib.hid (fun X => good_walk b X)
  have GC := Lib.hid (fun X => good_walk c X)
  have AR := Lib.hid (fun X => area_walk a b c ha hb hc X)
  unfold drV at AR
  have hr' : (arZ a b c == 0) = false := by rw [beq_eq_false_iff_ne]; exact hr
  rw [ha] at GA
  rw [hb] at GB
  rw [hc] at GC
  have al1 := alloc_sh
  have al2 := alloc_i3
  unfold drV at GA GB GC
  unfold arr9 cellsP
  go_enter Tryz.func21, Tryz.ntmps21
  go_upto_region 1 with (fail)
  have KP := Lib.hid (((Known.new w #[.int .i64 a.x, .int .i64 a.y, .int .i64 a.z, .int .i64 b.x, .int .i64 b.y, .int .i64 b.z, .int .i64 c.x, .int .i64 c.y, .int .i64 c.z] 67).alloc (.cells #[.int .i64 0, .int .i64 0, .int .i64 0, .int .i64 0] 29)).alloc (.cells #[.int .i64 0, .int .i64 0, .int .i64 0] 64))
  have K1 := Lib.hid ((Known.new' (w := w.alloc (.cells #[.int .i64 a.x, .int .i64 a.y, .int .i64 a.z, .int .i64 b.x, .int .i64 b.y, .int .i64 b.z, .int .i64 c.x, .int .i64 c.y, .int .i64 c.z] 67)) (c := #[.int .i64 0, .int .i64 0, .int .i64 0, .int .i64 0]) (t := 29) (b := w.heap.size + 1) (by simp)).alloc (.cells #[.int .i64 0, .int .i64 0, .int .i64 0] 64))
  have K2 := Lib.hid (Known.new' (w := (w.alloc (.cells #[.int .i64 a.x, .int .i64 a.y, .int .i64 a.z, .int .i64 b.x, .int .i64 b.y, .int .i64 b.z, .int .i64 c.x, .int .i64 c.y, .int .i64 c.z] 67)).alloc (.cells #[.int .i64 0, .int .i64 0, .int .i64 0, .int .i64 0] 29)) (c := #[.int .i64 0, .int .i64 0, .int .i64 0]) (t := 64) (b := w.heap.size + 1 + 1) (by simp))
  have B0 := Lib.hid (show Below w.heap.size w (((w.alloc (.cells #[.int .i64 a.x, .int .i64 a.y, .int .i64 a.z, .int .i64 b.x, .int .i64 b.y, .int .i64 b.z, .int .i64 c.x, .int .i64 c.y, .int .i64 c.z] 67)).alloc (.cells #[.int .i64 0, .int .i64 0, .int .i64 0, .int .i64 0] 29)).alloc (.cells #[.int .i64 0, .int .i64 0, .int .i64 0] 64)) from grow_alloc (grow_alloc (grow_alloc (grow_refl w) _) _) _)
  generalize ((w.alloc (.cells #[.int .i64 a.x, .int .i64 a.y, .int .i64 a.z, .int .i64 b.x, .int .i64 b.y, .int .i64 b.z, .int .i64 c.x, .int .i64 c.y, .int .i64 c.z] 67)).alloc (.cells #[.int .i64 0, .int .i64 0, .int .i64 0, .int .i64 0] 29)).alloc (.cells #[.int .i64 0, .int .i64 0, .int .i64 0] 64) = W0 at *
  generalize hbp : w.heap.size = bp at *
  have HBP := Lib.hid hbp
  clear hbp
  have c0 := KP.out.cell 0
  have c1 := KP.out.cell 1
  have c2 := KP.out.cell 2
  have c3 := KP.out.cell 3
  have c4 := KP.out.cell 4
  have c5 := KP.out.cell 5
  have c6 := KP.out.cell 6
  have c7 := KP.out.cell 7
  have c8 := KP.out.cell 8
  have lp := KP.out.lt
  simp only [cellsP, List.getElem?_toArray, List.getElem?_cons_zero, List.getElem?_cons_succ] at c0 c1 c2 c3 c4 c5 c6 c7 c8
  go_upto_region 3 with (first
    | (go_at_call 53; go_loud ((with_reducible refine (GA.out _).mono ?_); rintro e w1 ⟨rfl, hb⟩; have B1 := Lib.hid (hb : Below W0.heap.size W0 w1); clear hb GA c0 c1 c2 c3 c4 c5 c6 c7 c8 lp; have c0 := (KP.out.below B1.out).cell 0; have c1 := (KP.out.below B1.out).cell 1; have c2 := (KP.out.below B1.out).cell 2; have c3 := (KP.out.below B1.out).cell 3; have c4 := (KP.out.below B1.out).cell 4; have c5 := (KP.out.below B1.out).cell 5; have c6 := (KP.out.below B1.out).cell 6; have c7 := (KP.out.below B1.out).cell 7; have c8 := (KP.out.below B1.out).cell 8; have lp := (KP.out.below B1.out).lt; simp only [cellsP, List.getElem?_toArray, List.getElem?_cons_zero, List.getElem?_cons_succ] at c0 c1 c2 c3 c4 c5 c6 c7 c8))
    | (go_at_call 53; go_loud ((with_reducible refine (GB.out _).mono ?_); rintro e w2 ⟨rfl, hb⟩; have B2 := Lib.hid (grow_trans B1.out hb : Below W0.heap.size W0 w2); clear hb GB c0 c1 c2 c3 c4 c5 c6 c7 c8 lp; have c0 := (KP.out.below B2.out).cell 0; have c1 := (KP.out.below B2.out).cell 1; have c2 := (KP.out.below B2.out).cell 2; have c3 := (KP.out.below B2.out).cell 3; have c4 := (KP.out.below B2.out).cell 4; have c5 := (KP.out.below B2.out).cell 5; have c6 := (KP.out.below B2.out).cell 6; have c7 := (KP.out.below B2.out).cell 7; have c8 := (KP.out.below B2.out).cell 8; have lp := (KP.out.below B2.out).lt; simp only [cellsP, List.getElem?_toArray, List.getElem?_cons_zero, List.getElem?_cons_succ] at c0 c1 c2 c3 c4 c5 c6 c7 c8))
    | (go_at_call 53; go_loud ((with_reducible refine (GC.out _).mono ?_); rintro e w3 ⟨rfl, hb⟩; have B3 := Lib.hid (grow_trans B2.out hb : Below W0.heap.size W0 w3); clear hb GC c0 c1 c2 c3 c4 c5 c6 c7 c8 lp; have c0 := (KP.out.below B3.out).cell 0; have c1 := (KP.out.below B3.out).cell 1; have c2 := (KP.out.below B3.out).cell 2; have c3 := (KP.out.below B3.out).cell 3; have c4 := (KP.out.below B3.out).cell 4; have c5 := (KP.out.below B3.out).cell 5; have c6 := (KP.out.below B3.out).cell 6; have c7 := (KP.out.below B3.out).cell 7; have c8 := (KP.out.below B3.out).cell 8; have lp := (KP.out.below B3.out).lt; simp only [cellsP, List.getElem?_toArray, List.getElem?_cons_zero, List.getElem?_cons_succ] at c0 c1 c2 c3 c4 c5 c6 c7 c8))
    | (go_at_call 54; go_loud ((with_reducible refine (AR.out _).mono ?_); rintro e w4 ⟨rfl, hb⟩; have B4 := Lib.hid (grow_trans B3.out hb : Below W0.heap.size W0 w4); clear hb AR c0 c1 c2 c3 c4 c5 c6 c7 c8 lp; have c0 := (KP.out.below B4.out).cell 0; have c1 := (KP.out.below B4.out).cell 1; have c2 := (KP.out.below B4.out).cell 2; have c3 := (KP.out.below B4.out).cell 3; have c4 := (KP.out.below B4.out).cell 4; have c5 := (KP.out.below B4.out).cell 5; have c6 := (KP.out.below B4.out).cell 6; have c7 := (KP.out.below B4.out).cell 7; have c8 := (KP.out.below B4.out).cell 8; have lp := (KP.out.below B4.out).lt; simp only [cellsP, List.getElem?_toArray, List.getElem?_cons_zero, List.getElem?_cons_succ] at c0 c1 c2 c3 c4 c5 c6 c7 c8)))
  clear c0 c1 c2 c3 c4 c5 c6 c7 c8 lp
  have BX := Lib.hid (show Below w.heap.size w w4 by rw [HBP.out]; exact B0.out.trans (B4.out.mono (Nat.le_of_lt KP.out.lt)))
  have LP := Lib.hid (KP.out.below B4.out)
  have L1 := Lib.hid (K1.out.below B4.out)
  have L2 := Lib.hid (K2.out.below B4.out)
  generalize w4 = X at *
  clear K1 K2 KP B0 B1 B2 B3 B4
  go_upto_region 5 with (fail)
  refine seal_wp fun Y hY => ?_
  have KT := Lib.hid (show Known Y X.heap.size #[acrV bp] by rw [hY.out]; exact (Known.new X _ _).alloc _)
  have KR := Lib.hid (show Known Y (X.heap.size + 1) #[.int .i64 0, .int .i64 1, .int .i64 2] by rw [hY.out]; exact Known.new' (by simp))
  have BY := Lib.hid (show Below X.heap.size X Y by rw [hY.out]; exact grow_alloc (grow_alloc (grow_refl X) _) _)
  clear hY
  have n1 := LP.out.lt
  have n2 := L2.out.lt
  have BW := Lib.hid (BX.out.trans (BY.out.mono BX.out.size) : Below w.heap.size w Y)
  have LP := Lib.hid (LP.out.below BY.out)
  have L1 := Lib.hid (L1.out.below BY.out)
  have L2 := Lib.hid (L2.out.below BY.out)
  have hs := BX.out.size
  clear BX BY
  generalize X.heap.size = bt at *
  have S3 := Lib.hid (sort3_walk a b c ha hb hc Y bp bt (bt + 1) ⟨LP.out, KT.out⟩ (by omega) (by omega) KR.out)
  unfold cmpV at S3
  clear KR
  have OL := ord3_lt (acr a b c)
  have HLO := Lib.hid (show longZ a b c = acr a b c (ord3 (acr a b c)).1 from rfl)
  have HMI := Lib.hid (show midZ a b c = acr a b c (ord3 (acr a b c)).2.1 from rfl)
  have HSH := Lib.hid (show shortZ a b c = acr a b c (ord3 (acr a b c)).2.2 from rfl)
  have HHA := Lib.hid (show handZ a b c = if longZ a b c = midZ a b c ∨ midZ a b c = shortZ a b c then 0 else if arZ (pt a b c (ord3 (acr a b c)).1) (pt a b c (ord3 (acr a b c)).2.1) (pt a b c (ord3 (acr a b c)).2.2) < 0 then -1 else 1 from rfl)
  generalize hoo : ord3 (acr a b c) = o at *
  obtain ⟨o1, o2, o3⟩ := o
  have EO := Lib.hid hoo
  clear hoo
  dsimp only at OL HLO HMI HSH HHA
  obtain ⟨ol1, ol2, ol3⟩ := OL
  generalize hlongZ : longZ a b c = lo at *
  have EL := Lib.hid hlongZ
  clear hlongZ
  generalize hmidZ : midZ a b c = mi at *
  have EM := Lib.hid hmidZ
  clear hmidZ
  generalize hshortZ : shortZ a b c = sh at *
  have ES := Lib.hid hshortZ
  clear hshortZ
  generalize hhandZ : handZ a b c = ha' at *
  have EH := Lib.hid hhandZ
  clear hhandZ
  go_upto_region 6 with (go_at_call 57; go_loud ((with_reducible refine (S3.out).mono ?_); rintro e w5 ⟨rfl, hso⟩; have SO := Lib.hid hso; clear hso))
  have R3 := Lib.hid SO.out.row
  have LP := Lib.hid (LP.out.but SO.out.but (by omega))
  have L1 := Lib.hid (L1.out.but SO.out.but (by omega))
  have L2 := Lib.hid (L2.out.but SO.out.but (by omega))
  have KT := Lib.hid (KT.out.but SO.out.but (by omega))
  have BW := Lib.hid (SO.out.but.below BW.out (by omega))
  clear SO S3
  generalize w5 = Z at *
  dsimp only at R3
  have A1 := Lib.hid (show ∀ V, Below Z.heap.size Z V → Calls Tryz.prog 55 #[.int .i64 (o1 : Nat), .pointer (some ⟨bp, 0, none⟩)] V fun e w' => e = .returned (.int .i64 lo) ∧ Below V.heap.size V w' from by rw [HLO.out]; exact fun V hV => across_walk a b c ha hb hc o1 ol1 V bp (LP.out.below hV))
  have A2 := Lib.hid (show ∀ V, Below Z.heap.size Z V → Calls Tryz.prog 55 #[.int .i64 (o2 : Nat), .pointer (some ⟨bp, 0, none⟩)] V fun e w' => e = .returned (.int .i64 mi) ∧ Below V.heap.size V w' from by rw [HMI.out]; exact fun V hV => across_walk a b c ha hb hc o2 ol2 V bp (LP.out.below hV))
  have A3 := Lib.hid (show ∀ V, Below Z.heap.size Z V → Calls Tryz.prog 55 #[.int .i64 (o3 : Nat), .pointer (some ⟨bp, 0, none⟩)] V fun e w' => e = .returned (.int .i64 sh) ∧ Below V.heap.size V w' from by rw [HSH.out]; exact fun V hV => across_walk a b c ha hb hc o3 ol3 V bp (LP.out.below hV))
  have t0 := KT.out.cell 0
  have tl := KT.out.lt
  have r0 := R3.out.cell 0
  have r1 := R3.out.cell 1
  have r2 := R3.out.cell 2
  have rl := R3.out.lt
  simp only [acrV, List.getElem?_toArray, List.getElem?_cons_zero, List.getElem?_cons_succ] at t0 r0 r1 r2
  have LP1 := Lib.hid (show bp < Z.heap.size ∧ bp + 1 + 1 < Z.heap.size ∧ bt + 1 < Z.heap.size from ⟨LP.out.lt, L2.out.lt, R3.out.lt⟩)
  have BW1 := Lib.hid BW.out.size
  go_cut [7] (fun v7 wx => ∃ q, v7 = .pointer (some ⟨q, 0, none⟩) ∧ Z.heap.size ≤ q ∧ Known wx q #[.int .i64 lo, .int .i64 mi, .int .i64 sh, .int .i64 1] ∧ Below Z.heap.size Z wx)
  case first =>
    refine Grow.wp_region_planC (grow_refl Z) [1, 2, 6, 7, 11, 12] (.reads [0, 3, 5, 8, 10, 13] (.two 4 (.two 9 (.two 14 (.two 15 (.tail [16, 17]) 16 (.tail [15, 17])) 16 (.tail [14, 15, 17])) 16 (.tail [9, 14, 15, 17])) 16 (.tail [4, 9, 14, 15, 17]))) (by kernel_rfl) (by kernel_rfl) (by kernel_rfl) (by kernel_rfl) (by kernel_rfl) ?_ ?_
    · intro c aa d v ww h
      simp (config := {zetaDelta := true}) only [Exit.then, Exit.inBlock] at h ⊢
      first | exact h | exact Grow.bodyPost_blind h
    simp only [Grow.Plan.wpC, Grow.pick, List.getElem?_cons_zero, List.getElem?_cons_succ, List.cons_append, List.nil_append]
    repeat (go_big_quiet_step (fail))
    refine wpQuiet_nil ?_
    repeat (go_big_quiet_step (fail))
    refine wpQuiet_nil ?_
    clear t0 tl r0 r1 r2 rl
    have B0 : Below Z.heap.size Z Z.drew := grow_drew (grow_refl Z)
    generalize Z.drew = Z1 at *
    refine ⟨?_, ?_⟩
    · (try unfold oneC)
      go_wp2_with (go_at_call 55; (with_reducible refine (A1.out _ B0).mono ?_); rintro e v1 ⟨rfl, hb⟩; have B1 : Below Z.heap.size Z v1 := grow_trans B0 hb; clear hb)
      first
        | refine ⟨B1, ?_⟩
        | skip
      refine ⟨?_, ?_⟩
      · (try unfold oneC)
        go_wp2_with (go_at_call 55; (with_reducible refine (A2.out _ B1).mono ?_); rintro e v2 ⟨rfl, hb⟩; have B2 : Below Z.heap.size Z v2 := grow_trans B1 hb; clear hb)
        first
          | refine ⟨B2, ?_⟩
          | skip
        refine ⟨?_, ?_⟩
        · (try unfold oneC)
          go_wp2_with (go_at_call 55; (with_reducible refine (A3.out _ B2).mono ?_); rintro e v3 ⟨rfl, hb⟩; have B3 : Below Z.heap.size Z v3 := grow_trans B2 hb; clear hb)
          first
            | refine ⟨B3, ?_⟩
            | skip
          refine ⟨?_, ?_⟩
          · (try unfold oneC)
            go_wp2
            first
              | refine ⟨B3, ?_⟩
              | skip
            unfold seqC
            go_wp2
            have KQ0 : Known (v3.alloc (.cells #[.int .i64 0, .int .i64 0, .int .i64 0, .int .i64 0] 29)) v3.heap.size #[.int .i64 0, .int .i64 0, .int .i64 0, .int .i64 0] := Known.new _ _ _
            have BQ : Below Z.heap.size Z (v3.alloc (.cells #[.int .i64 0, .int .i64 0, .int .i64 0, .int .i64 0] 29)) := grow_alloc B3 _
            have hq : Z.heap.size ≤ v3.heap.size := B3.size
            first
              | refine ⟨BQ, ?_⟩
              | skip
            generalize v3.alloc (.cells #[.int .i64 0, .int .i64 0, .int .i64 0, .int .i64 0] 29) = V at *
            generalize v3.heap.size = q at *
            have KQ := Lib.hid KQ0
            clear KQ0
            have q0 := KQ.out.cell 0
            have q1 := KQ.out.cell 1
            have q2 := KQ.out.cell 2
            have q3 := KQ.out.cell 3
            have f0 := KQ.out.frozen 0
            have f1 := KQ.out.frozen 1
            have f2 := KQ.out.frozen 2
            have f3 := KQ.out.frozen 3
            have lq := KQ.out.lt
            simp only [List.getElem?_toArray, List.getElem?_cons_zero, List.getElem?_cons_succ] at q0 q1 q2 q3
            have KF := Lib.hid ((((KQ.out.same 0 (.int .i64 lo)).same 1 (.int .i64 mi)).same 2 (.int .i64 sh)).same 3 (.int .i64 1))
            have BF : Below Z.heap.size Z ((((V.setCell ⟨q, 0, none⟩ (.int .i64 lo)).setCell ⟨q, 1, none⟩ (.int .i64 mi)).setCell ⟨q, 2, none⟩ (.int .i64 sh)).setCell ⟨q, 3, none⟩ (.int .i64 1)) := (((BQ.setCell hq _).setCell hq _).setCell hq _).setCell hq _
            unfold seqC
            go_wp2
            first
              | refine ⟨BF, ?_⟩
              | skip
            unfold seqC
            go_wp2
            go_meet
            exact ⟨q, rfl, hq, KF.out, BF⟩
          · (try unfold oneC)
            go_wp2
            have KQ0 : Known (v3.alloc (.cells #[.int .i64 0, .int .i64 0, .int .i64 0, .int .i64 0] 29)) v3.heap.size #[.int .i64 0, .int .i64 0, .int .i64 0, .int .i64 0] := Known.new _ _ _
            have BQ : Below Z.heap.size Z (v3.alloc (.cells #[.int .i64 0, .int .i64 0, .int .i64 0, .int .i64 0] 29)) := grow_alloc B3 _
            have hq : Z.heap.size ≤ v3.heap.size := B3.size
            first
              | refine ⟨BQ, ?_⟩
              | skip
            generalize v3.alloc (.cells #[.int .i64 0, .int .i64 0, .int .i64 0, .int .i64 0] 29) = V at *
            generalize v3.heap.size = q at *
            have KQ := Lib.hid KQ0
            clear KQ0
            unfold seqC
            go_wp2
            first
              | refine ⟨BQ, ?_⟩
              | skip
            have q0 := KQ.out.cell 0
            have q1 := KQ.out.cell 1
            have q2 := KQ.out.cell 2
            have q3 := KQ.out.cell 3
            have f0 := KQ.out.frozen 0
            have f1 := KQ.out.frozen 1
            have f2 := KQ.out.frozen 2
            have f3 := KQ.out.frozen 3
            have lq := KQ.out.lt
            simp only [List.getElem?_toArray, List.getElem?_cons_zero, List.getElem?_cons_succ] at q0 q1 q2 q3
            have KF := Lib.hid ((((KQ.out.same 0 (.int .i64 lo)).same 1 (.int .i64 mi)).same 2 (.int .i64 sh)).same 3 (.int .i64 1))
            have BF : Below Z.heap.size Z ((((V.setCell ⟨q, 0, none⟩ (.int .i64 lo)).setCell ⟨q, 1, none⟩ (.int .i64 mi)).setCell ⟨q, 2, none⟩ (.int .i64 sh)).setCell ⟨q, 3, none⟩ (.int .i64 1)) := (((BQ.setCell hq _).setCell hq _).setCell hq _).setCell hq _
            unfold seqC
            go_wp2
            first
              | refine ⟨BF, ?_⟩
              | skip
            unfold seqC
            go_wp2
            go_meet
            exact ⟨q, rfl, hq, KF.out, BF⟩
        · (try unfold oneC)
          go_wp2
          have KQ0 : Known (v2.alloc (.cells #[.int .i64 0, .int .i64 0, .int .i64 0, .int .i64 0] 29)) v2.heap.size #[.int .i64 0, .int .i64 0, .int .i64 0, .int .i64 0] := Known.new _ _ _
          have BQ : Below Z.heap.size Z (v2.alloc (.cells #[.int .i64 0, .int .i64 0, .int .i64 0, .int .i64 0] 29)) := grow_alloc B2 _
          have hq : Z.heap.size ≤ v2.heap.size := B2.size
          first
            | refine ⟨BQ, ?_⟩
            | skip
          generalize v2.alloc (.cells #[.int .i64 0, .int .i64 0, .int .i64 0, .int .i64 0] 29) = V at *
          generalize v2.heap.size = q at *
          have KQ := Lib.hid KQ0
          clear KQ0
          unfold seqC
          go_wp2_with (go_at_call 55; (with_reducible refine (A3.out _ BQ).mono ?_); rintro e v13 ⟨rfl, hb⟩; have B13 : Below Z.heap.size Z v13 := grow_trans BQ hb; have KQ' := Lib.hid (KQ.out.below hb); clear KQ; have KQ := Lib.hid KQ'.out; clear KQ'; clear hb)
          first
            | refine ⟨B13, ?_⟩
            | skip
          unfold seqC
          go_wp2
          first
            | refine ⟨B13, ?_⟩
            | skip
          have q0 := KQ.out.cell 0
          have q1 := KQ.out.cell 1
          have q2 := KQ.out.cell 2
          have q3 := KQ.out.cell 3
          have f0 := KQ.out.frozen 0
          have f1 := KQ.out.frozen 1
          have f2 := KQ.out.frozen 2
          have f3 := KQ.out.frozen 3
          have lq := KQ.out.lt
          simp only [List.getElem?_toArray, List.getElem?_cons_zero, List.getElem?_cons_succ] at q0 q1 q2 q3
          have KF := Lib.hid ((((KQ.out.same 0 (.int .i64 lo)).same 1 (.int .i64 mi)).same 2 (.int .i64 sh)).same 3 (.int .i64 1))
          have BF : Below Z.heap.size Z ((((v13.setCell ⟨q, 0, none⟩ (.int .i64 lo)).setCell ⟨q, 1, none⟩ (.int .i64 mi)).setCell ⟨q, 2, none⟩ (.int .i64 sh)).setCell ⟨q, 3, none⟩ (.int .i64 1)) := (((B13.setCell hq _).setCell hq _).setCell hq _).setCell hq _
          unfold seqC
          go_wp2
          first
            | refine ⟨BF, ?_⟩
            | skip
          unfold seqC
          go_wp2
          go_meet
          exact ⟨q, rfl, hq, KF.out, BF⟩
      · (try unfold oneC)
        go_wp2
        have KQ0 : Known (v1.alloc (.cells #[.int .i64 0, .int .i64 0, .int .i64 0, .int .i64 0] 29)) v1.heap.size #[.int .i64 0, .int .i64 0, .int .i64 0, .int .i64 0] := Known.new _ _ _
        have BQ : Below Z.heap.size Z (v1.alloc (.cells #[.int .i64 0, .int .i64 0, .int .i64 0, .int .i64 0] 29)) := grow_alloc B1 _
        have hq : Z.heap.size ≤ v1.heap.size := B1.size
        first
          | refine ⟨BQ, ?_⟩
          | skip
        generalize v1.alloc (.cells #[.int .i64 0, .int .i64 0, .int .i64 0, .int .i64 0] 29) = V at *
        generalize v1.heap.size = q at *
        have KQ := Lib.hid KQ0
        clear KQ0
        unfold seqC
        go_wp2_with (go_at_call 55; (with_reducible refine (A2.out _ BQ).mono ?_); rintro e v12 ⟨rfl, hb⟩; have B12 : Below Z.heap.size Z v12 := grow_trans BQ hb; have KQ' := Lib.hid (KQ.out.below hb); clear KQ; have KQ := Lib.hid KQ'.out; clear KQ'; clear hb)
        first
          | refine ⟨B12, ?_⟩
          | skip
        unfold seqC
        go_wp2_with (go_at_call 55; (with_reducible refine (A3.out _ B12).mono ?_); rintro e v13 ⟨rfl, hb⟩; have B13 : Below Z.heap.size Z v13 := grow_trans B12 hb; have KQ' := Lib.hid (KQ.out.below hb); clear KQ; have KQ := Lib.hid KQ'.out; clear KQ'; clear hb)
        first
          | refine ⟨B13, ?_⟩
          | skip
        unfold seqC
        go_wp2
        first
          | refine ⟨B13, ?_⟩
          | skip
        have q0 := KQ.out.cell 0
        have q1 := KQ.out.cell 1
        have q2 := KQ.out.cell 2
        have q3 := KQ.out.cell 3
        have f0 := KQ.out.frozen 0
        have f1 := KQ.out.frozen 1
        have f2 := KQ.out.frozen 2
        have f3 := KQ.out.frozen 3
        have lq := KQ.out.lt
        simp only [List.getElem?_toArray, List.getElem?_cons_zero, List.getElem?_cons_succ] at q0 q1 q2 q3
        have KF := Lib.hid ((((KQ.out.same 0 (.int .i64 lo)).same 1 (.int .i64 mi)).same 2 (.int .i64 sh)).same 3 (.int .i64 1))
        have BF : Below Z.heap.size Z ((((v13.setCell ⟨q, 0, none⟩ (.int .i64 lo)).setCell ⟨q, 1, none⟩ (.int .i64 mi)).setCell ⟨q, 2, none⟩ (.int .i64 sh)).setCell ⟨q, 3, none⟩ (.int .i64 1)) := (((B13.setCell hq _).setCell hq _).setCell hq _).setCell hq _
        unfold seqC
        go_wp2
        first
          | refine ⟨BF, ?_⟩
          | skip
        unfold seqC
        go_wp2
        go_meet
        exact ⟨q, rfl, hq, KF.out, BF⟩
    · (try unfold oneC)
      go_wp2
      have KQ0 : Known (Z1.alloc (.cells #[.int .i64 0, .int .i64 0, .int .i64 0, .int .i64 0] 29)) Z1.heap.size #[.int .i64 0, .int .i64 0, .int .i64 0, .int .i64 0] := Known.new _ _ _
      have BQ : Below Z.heap.size Z (Z1.alloc (.cells #[.int .i64 0, .int .i64 0, .int .i64 0, .int .i64 0] 29)) := grow_alloc B0 _
      have hq : Z.heap.size ≤ Z1.heap.size := B0.size
      first
        | refine ⟨BQ, ?_⟩
        | skip
      generalize Z1.alloc (.cells #[.int .i64 0, .int .i64 0, .int .i64 0, .int .i64 0] 29) = V at *
      generalize Z1.heap.size = q at *
      have KQ := Lib.hid KQ0
      clear KQ0
      unfold seqC
      go_wp2_with (go_at_call 55; (with_reducible refine (A1.out _ BQ).mono ?_); rintro e v11 ⟨rfl, hb⟩; have B11 : Below Z.heap.size Z v11 := grow_trans BQ hb; have KQ' := Lib.hid (KQ.out.below hb); clear KQ; have KQ := Lib.hid KQ'.out; clear KQ'; clear hb)
      first
        | refine ⟨B11, ?_⟩
        | skip
      unfold seqC
      go_wp2_with (go_at_call 55; (with_reducible refine (A2.out _ B11).mono ?_); rintro e v12 ⟨rfl, hb⟩; have B12 : Below Z.heap.size Z v12 := grow_trans B11 hb; have KQ' := Lib.hid (KQ.out.below hb); clear KQ; have KQ := Lib.hid KQ'.out; clear KQ'; clear hb)
      first
        | refine ⟨B12, ?_⟩
        | skip
      unfold seqC
      go_wp2_with (go_at_call 55; (with_reducible refine (A3.out _ B12).mono ?_); rintro e v13 ⟨rfl, hb⟩; have B13 : Below Z.heap.size Z v13 := grow_trans B12 hb; have KQ' := Lib.hid (KQ.out.below hb); clear KQ; have KQ := Lib.hid KQ'.out; clear KQ'; clear hb)
      first
        | refine ⟨B13, ?_⟩
        | skip
      unfold seqC
      go_wp2
      first
        | refine ⟨B13, ?_⟩
        | skip
      have q0 := KQ.out.cell 0
      have q1 := KQ.out.cell 1
      have q2 := KQ.out.cell 2
      have q3 := KQ.out.cell 3
      have f0 := KQ.out.frozen 0
      have f1 := KQ.out.frozen 1
      have f2 := KQ.out.frozen 2
      have f3 := KQ.out.frozen 3
      have lq := KQ.out.lt
      simp only [List.getElem?_toArray, List.getElem?_cons_zero, List.getElem?_cons_succ] at q0 q1 q2 q3
      have KF := Lib.hid ((((KQ.out.same 0 (.int .i64 lo)).same 1 (.int .i64 mi)).same 2 (.int .i64 sh)).same 3 (.int .i64 1))
      have BF : Below Z.heap.size Z ((((v13.setCell ⟨q, 0, none⟩ (.int .i64 lo)).setCell ⟨q, 1, none⟩ (.int .i64 mi)).setCell ⟨q, 2, none⟩ (.int .i64 sh)).setCell ⟨q, 3, none⟩ (.int .i64 1)) := (((B13.setCell hq _).setCell hq _).setCell hq _).setCell hq _
      unfold seqC
      go_wp2
      first
        | refine ⟨BF, ?_⟩
        | skip
      unfold seqC
      go_wp2
      go_meet
      exact ⟨q, rfl, hq, KF.out, BF⟩
  case rest =>
    obtain ⟨q, rfl, hq, hk, hbz⟩ := hcut
    have LP := Lib.hid (LP.out.below hbz)
    have L1 := Lib.hid (L1.out.below hbz)
    have L2 := Lib.hid (L2.out.below hbz)
    have R3 := Lib.hid (R3.out.below hbz)
    have zs := L2.out.lt
    have nq1 : q ≠ bp + 1 := by have := LP1.out; omega
    have nq2 : q ≠ bp + 1 + 1 := by have := LP1.out; omega
    have nq3 : q ≠ bt + 1 := by have := LP1.out; omega
    have nq4 : q ≠ bp := by have := LP1.out; omega
    have SQ := Lib.hid hk
    have BW := Lib.hid (BW.out.trans (hbz.mono BW.out.size))
    have hzq : w.heap.size ≤ q := Nat.le_trans BW1.out hq
    clear hk hbz
    generalize wc = T at *
    by_cases e1 : lo = mi
    · obtain rfl : ha' = 0 := by rw [HHA.out, if_pos (.inl e1)]
      subst e1
      have s0 := SQ.out.cell 0
      have s1 := SQ.out.cell 1
      have s2 := SQ.out.cell 2
      have s3 := SQ.out.cell 3
      have g3 := SQ.out.frozen 3
      have lq := SQ.out.lt
      simp only [List.getElem?_toArray, List.getElem?_cons_zero, List.getElem?_cons_succ] at s0 s1 s2 s3
      go_upto_region 11 with (fail)
      refine seal_wp fun U hU => ?_
      have SU := Lib.hid (show Known U q #[.int .i64 lo, .int .i64 lo, .int .i64 sh, .int .i64 (0)] by rw [hU.out]; exact SQ.out.same 3 _)
      have LU1 := Lib.hid (show Known U (bp + 1) #[.int .i64 0, .int .i64 0, .int .i64 0, .int .i64 0] by rw [hU.out]; exact L1.out.other nq1 3 _)
      have LU2 := Lib.hid (show Known U (bp + 1 + 1) #[.int .i64 0, .int .i64 0, .int .i64 0] by rw [hU.out]; exact L2.out.other nq2 3 _)
      have RU := Lib.hid (show Known U (bt + 1) #[.int .i64 (o1 : Nat), .int .i64 (o2 : Nat), .int .i64 (o3 : Nat)] by rw [hU.out]; exact R3.out.other nq3 3 _)
      have BU := Lib.hid (show Below w.heap.size w U by rw [hU.out]; exact BW.out.setCell hzq _)
      clear hU
      clear SQ L1 L2 R3 BW
      have s0 := SU.out.cell 0
      have s1 := SU.out.cell 1
      have s2 := SU.out.cell 2
      have s3 := SU.out.cell 3
      have lq := SU.out.lt
      have r0 := RU.out.cell 0
      have r1 := RU.out.cell 1
      have r2 := RU.out.cell 2
      have rl := RU.out.lt
      have d0 := LU1.out.cell 0
      have d1 := LU1.out.cell 1
      have d2 := LU1.out.cell 2
      have d3 := LU1.out.cell 3
      have g0 := LU1.out.frozen 0
      have g1 := LU1.out.frozen 1
      have g2 := LU1.out.frozen 2
      have g3 := LU1.out.frozen 3
      have l1 := LU1.out.lt
      have e0 := LU2.out.cell 0
      have e1 := LU2.out.cell 1
      have e2 := LU2.out.cell 2
      have h0 := LU2.out.frozen 0
      have h1 := LU2.out.frozen 1
      have h2 := LU2.out.frozen 2
      have l2 := LU2.out.lt
      simp only [List.getElem?_toArray, List.getElem?_cons_zero, List.getElem?_cons_succ] at s0 s1 s2 s3 r0 r1 r2 d0 d1 d2 d3 e0 e1 e2
      refine Grow.wp_region_plan (.quiet [1] (.two 0 (.two 2 (.two 3 (.tail [4, 5, 6]) 4 (.tail [3, 5, 6])) 4 (.tail [2, 3, 5, 6])) 2 (.two 0 (.two 3 (.tail [4, 5, 6]) 4 (.tail [3, 5, 6])) 3 (.tail [0, 4, 5, 6])))) (by kernel_rfl) (by kernel_rfl) (by kernel_rfl) (by kernel_rfl) ?_ ?_
      · intro c aa d v ww h
        first
          | exact Grow.bodyPost_blind h
          | (simp (config := {zetaDelta := true}) only [Exit.then, Exit.inBlock] at h ⊢; first | exact Grow.bodyPost_blind h | exact h)
      simp only [Grow.Plan.wp, Grow.pick, List.getElem?_cons_zero, List.getElem?_cons_succ, List.cons_append, List.nil_append]
      repeat (go_big_quiet_step (fail))
      refine wpQuiet_nil ?_
      have n12 : bp + 1 ≠ bp + 1 + 1 := by omega
      have n21 : bp + 1 + 1 ≠ bp + 1 := by omega
      have KF1 := Lib.hid (((((known_four LU1.out (.int .i64 lo) (.int .i64 lo) (.int .i64 sh) (.int .i64 (0))).other n21 0 (.int .i64 (o1 : Nat))).other n21 1 (.int .i64 (o2 : Nat))).other n21 2 (.int .i64 (o3 : Nat))).drew)
      have KF2 := Lib.hid ((known_three ((((LU2.out.other n12 0 (.int .i64 lo)).other n12 1 (.int .i64 lo)).other n12 2 (.int .i64 sh)).other n12 3 (.int .i64 (0))) (.int .i64 (o1 : Nat)) (.int .i64 (o2 : Nat)) (.int .i64 (o3 : Nat))).drew)
      clear n12 n21
      have hbp : w.heap.size ≤ bp := Nat.le_of_eq HBP.out
      have hat := fun V => at3 (bt + 1) V
      refine ⟨?_, ?_⟩
      · (try unfold oneK)
        go_wp2
        refine ⟨?_, ?_⟩
        · (try unfold oneK)
          go_wp2
          refine ⟨?_, ?_⟩
          · (try unfold oneK)
            go_wp2
            (try simp only [Exit.inBlock, Exit.then])
            refine bodyPost_ret (results_cell22 rfl _ _ (bp + 1) (bp + 1 + 1) [.int .i64 lo, .int .i64 lo, .int .i64 sh, .int .i64 (0)] [.int .i64 (o1 : Nat), .int .i64 (o2 : Nat), .int .i64 (o3 : Nat)] _ _ rfl rfl KF1.out KF2.out Tryz.underlying29 rfl (by kernel_rfl) Tryz.underlying64 rfl (by kernel_rfl)) rfl ?_
            rw [EL.out, EM.out, ES.out, EH.out, EO.out]
            exact ⟨rfl, (by (repeat (with_reducible first | exact BU.out | refine Below.drew ?_ | refine Below.setCell ?_ ?_ _)) <;> (show w.heap.size ≤ _; dsimp only; omega))⟩
          · (try unfold oneK)
            go_wp2
            (try simp only [Exit.inBlock, Exit.then])
            refine bodyPost_ret (results_cell22 rfl _ _ (bp + 1) (bp + 1 + 1) [.int .i64 lo, .int .i64 lo, .int .i64 sh, .int .i64 (0)] [.int .i64 (o1 : Nat), .int .i64 (o2 : Nat), .int .i64 (o3 : Nat)] _ _ rfl rfl KF1.out KF2.out Tryz.underlying29 rfl (by kernel_rfl) Tryz.underlying64 rfl (by kernel_rfl)) rfl ?_
            rw [EL.out, EM.out, ES.out, EH.out, EO.out]
            exact ⟨rfl, (by (repeat (with_reducible first | exact BU.out | refine Below.drew ?_ | refine Below.setCell ?_ ?_ _)) <;> (show w.heap.size ≤ _; dsimp only; omega))⟩
        · (try unfold oneK)
          go_wp2
          (try simp only [Exit.inBlock, Exit.then])
          refine bodyPost_ret (results_cell22 rfl _ _ (bp + 1) (bp + 1 + 1) [.int .i64 lo, .int .i64 lo, .int .i64 sh, .int .i64 (0)] [.int .i64 (o1 : Nat), .int .i64 (o2 : Nat), .int .i64 (o3 : Nat)] _ _ rfl rfl KF1.out KF2.out Tryz.underlying29 rfl (by kernel_rfl) Tryz.underlying64 rfl (by kernel_rfl)) rfl ?_
          rw [EL.out, EM.out, ES.out, EH.out, EO.out]
          exact ⟨rfl, (by (repeat (with_reducible first | exact BU.out | refine Below.drew ?_ | refine Below.setCell ?_ ?_ _)) <;> (show w.heap.size ≤ _; dsimp only; omega))⟩
      · (try unfold oneK)
        go_wp2
        refine ⟨?_, ?_⟩
        · (try unfold oneK)
          go_wp2
          refine ⟨?_, ?_⟩
          · (try unfold oneK)
            go_wp2
            (try simp only [Exit.inBlock, Exit.then])
            refine bodyPost_ret (results_cell22 rfl _ _ (bp + 1) (bp + 1 + 1) [.int .i64 lo, .int .i64 lo, .int .i64 sh, .int .i64 (0)] [.int .i64 (o1 : Nat), .int .i64 (o2 : Nat), .int .i64 (o3 : Nat)] _ _ rfl rfl KF1.out KF2.out Tryz.underlying29 rfl (by kernel_rfl) Tryz.underlying64 rfl (by kernel_rfl)) rfl ?_
            rw [EL.out, EM.out, ES.out, EH.out, EO.out]
            exact ⟨rfl, (by (repeat (with_reducible first | exact BU.out | refine Below.drew ?_ | refine Below.setCell ?_ ?_ _)) <;> (show w.heap.size ≤ _; dsimp only; omega))⟩
          · (try unfold oneK)
            go_wp2
            (try simp only [Exit.inBlock, Exit.then])
            refine bodyPost_ret (results_cell22 rfl _ _ (bp + 1) (bp + 1 + 1) [.int .i64 lo, .int .i64 lo, .int .i64 sh, .int .i64 (0)] [.int .i64 (o1 : Nat), .int .i64 (o2 : Nat), .int .i64 (o3 : Nat)] _ _ rfl rfl KF1.out KF2.out Tryz.underlying29 rfl (by kernel_rfl) Tryz.underlying64 rfl (by kernel_rfl)) rfl ?_
            rw [EL.out, EM.out, ES.out, EH.out, EO.out]
            exact ⟨rfl, (by (repeat (with_reducible first | exact BU.out | refine Below.drew ?_ | refine Below.setCell ?_ ?_ _)) <;> (show w.heap.size ≤ _; dsimp only; omega))⟩
        · (try unfold oneK)
          go_wp2
          (try simp only [Exit.inBlock, Exit.then])
          refine bodyPost_ret (results_cell22 rfl _ _ (bp + 1) (bp + 1 + 1) [.int .i64 lo, .int .i64 lo, .int .i64 sh, .int .i64 (0)] [.int .i64 (o1 : Nat), .int .i64 (o2 : Nat), .int .i64 (o3 : Nat)] _ _ rfl rfl KF1.out KF2.out Tryz.underlying29 rfl (by kernel_rfl) Tryz.underlying64 rfl (by kernel_rfl)) rfl ?_
          rw [EL.out, EM.out, ES.out, EH.out, EO.out]
          exact ⟨rfl, (by (repeat (with_reducible first | exact BU.out | refine Below.drew ?_ | refine Below.setCell ?_ ?_ _)) <;> (show w.heap.size ≤ _; dsimp only; omega))⟩
    · by_cases e2 : mi = sh
      · obtain rfl : ha' = 0 := by rw [HHA.out, if_pos (.inr e2)]
        have b1 : (lo == mi) = false := beq_eq_false_iff_ne.2 e1
        subst e2
        have s0 := SQ.out.cell 0
        have s1 := SQ.out.cell 1
        have s2 := SQ.out.cell 2
        have s3 := SQ.out.cell 3
        have g3 := SQ.out.frozen 3
        have lq := SQ.out.lt
        simp only [List.getElem?_toArray, List.getElem?_cons_zero, List.getElem?_cons_succ] at s0 s1 s2 s3
        go_upto_region 11 with (fail)
        refine seal_wp fun U hU => ?_
        have SU := Lib.hid (show Known U q #[.int .i64 lo, .int .i64 mi, .int .i64 mi, .int .i64 (0)] by rw [hU.out]; exact SQ.out.same 3 _)
        have LU1 := Lib.hid (show Known U (bp + 1) #[.int .i64 0, .int .i64 0, .int .i64 0, .int .i64 0] by rw [hU.out]; exact L1.out.other nq1 3 _)
        have LU2 := Lib.hid (show Known U (bp + 1 + 1) #[.int .i64 0, .int .i64 0, .int .i64 0] by rw [hU.out]; exact L2.out.other nq2 3 _)
        have RU := Lib.hid (show Known U (bt + 1) #[.int .i64 (o1 : Nat), .int .i64 (o2 : Nat), .int .i64 (o3 : Nat)] by rw [hU.out]; exact R3.out.other nq3 3 _)
        have BU := Lib.hid (show Below w.heap.size w U by rw [hU.out]; exact BW.out.setCell hzq _)
        clear hU
        clear SQ L1 L2 R3 BW
        have s0 := SU.out.cell 0
        have s1 := SU.out.cell 1
        have s2 := SU.out.cell 2
        have s3 := SU.out.cell 3
        have lq := SU.out.lt
        have r0 := RU.out.cell 0
        have r1 := RU.out.cell 1
        have r2 := RU.out.cell 2
        have rl := RU.out.lt
        have d0 := LU1.out.cell 0
        have d1 := LU1.out.cell 1
        have d2 := LU1.out.cell 2
        have d3 := LU1.out.cell 3
        have g0 := LU1.out.frozen 0
        have g1 := LU1.out.frozen 1
        have g2 := LU1.out.frozen 2
        have g3 := LU1.out.frozen 3
        have l1 := LU1.out.lt
        have e0 := LU2.out.cell 0
        have e1 := LU2.out.cell 1
        have e2 := LU2.out.cell 2
        have h0 := LU2.out.frozen 0
        have h1 := LU2.out.frozen 1
        have h2 := LU2.out.frozen 2
        have l2 := LU2.out.lt
        simp only [List.getElem?_toArray, List.getElem?_cons_zero, List.getElem?_cons_succ] at s0 s1 s2 s3 r0 r1 r2 d0 d1 d2 d3 e0 e1 e2
        refine Grow.wp_region_plan (.quiet [1] (.two 0 (.two 2 (.two 3 (.tail [4, 5, 6]) 4 (.tail [3, 5, 6])) 4 (.tail [2, 3, 5, 6])) 2 (.two 0 (.two 3 (.tail [4, 5, 6]) 4 (.tail [3, 5, 6])) 3 (.tail [0, 4, 5, 6])))) (by kernel_rfl) (by kernel_rfl) (by kernel_rfl) (by kernel_rfl) ?_ ?_
        · intro c aa d v ww h
          first
            | exact Grow.bodyPost_blind h
            | (simp (config := {zetaDelta := true}) only [Exit.then, Exit.inBlock] at h ⊢; first | exact Grow.bodyPost_blind h | exact h)
        simp only [Grow.Plan.wp, Grow.pick, List.getElem?_cons_zero, List.getElem?_cons_succ, List.cons_append, List.nil_append]
        repeat (go_big_quiet_step (fail))
        refine wpQuiet_nil ?_
        have n12 : bp + 1 ≠ bp + 1 + 1 := by omega
        have n21 : bp + 1 + 1 ≠ bp + 1 := by omega
        have KF1 := Lib.hid (((((known_four LU1.out (.int .i64 lo) (.int .i64 mi) (.int .i64 mi) (.int .i64 (0))).other n21 0 (.int .i64 (o1 : Nat))).other n21 1 (.int .i64 (o2 : Nat))).other n21 2 (.int .i64 (o3 : Nat))).drew)
        have KF2 := Lib.hid ((known_three ((((LU2.out.other n12 0 (.int .i64 lo)).other n12 1 (.int .i64 mi)).other n12 2 (.int .i64 mi)).other n12 3 (.int .i64 (0))) (.int .i64 (o1 : Nat)) (.int .i64 (o2 : Nat)) (.int .i64 (o3 : Nat))).drew)
        clear n12 n21
        have hbp : w.heap.size ≤ bp := Nat.le_of_eq HBP.out
        have hat := fun V => at3 (bt + 1) V
        refine ⟨?_, ?_⟩
        · (try unfold oneK)
          go_wp2
          refine ⟨?_, ?_⟩
          · (try unfold oneK)
            go_wp2
            refine ⟨?_, ?_⟩
            · (try unfold oneK)
              go_wp2
              (try simp only [Exit.inBlock, Exit.then])
              refine bodyPost_ret (results_cell22 rfl _ _ (bp + 1) (bp + 1 + 1) [.int .i64 lo, .int .i64 mi, .int .i64 mi, .int .i64 (0)] [.int .i64 (o1 : Nat), .int .i64 (o2 : Nat), .int .i64 (o3 : Nat)] _ _ rfl rfl KF1.out KF2.out Tryz.underlying29 rfl (by kernel_rfl) Tryz.underlying64 rfl (by kernel_rfl)) rfl ?_
              rw [EL.out, EM.out, ES.out, EH.out, EO.out]
              exact ⟨rfl, (by (repeat (with_reducible first | exact BU.out | refine Below.drew ?_ | refine Below.setCell ?_ ?_ _)) <;> (show w.heap.size ≤ _; dsimp only; omega))⟩
            · (try unfold oneK)
              go_wp2
              (try simp only [Exit.inBlock, Exit.then])
              refine bodyPost_ret (results_cell22 rfl _ _ (bp + 1) (bp + 1 + 1) [.int .i64 lo, .int .i64 mi, .int .i64 mi, .int .i64 (0)] [.int .i64 (o1 : Nat), .int .i64 (o2 : Nat), .int .i64 (o3 : Nat)] _ _ rfl rfl KF1.out KF2.out Tryz.underlying29 rfl (by kernel_rfl) Tryz.underlying64 rfl (by kernel_rfl)) rfl ?_
              rw [EL.out, EM.out, ES.out, EH.out, EO.out]
              exact ⟨rfl, (by (repeat (with_reducible first | exact BU.out | refine Below.drew ?_ | refine Below.setCell ?_ ?_ _)) <;> (show w.heap.size ≤ _; dsimp only; omega))⟩
          · (try unfold oneK)
            go_wp2
            (try simp only [Exit.inBlock, Exit.then])
            refine bodyPost_ret (results_cell22 rfl _ _ (bp + 1) (bp + 1 + 1) [.int .i64 lo, .int .i64 mi, .int .i64 mi, .int .i64 (0)] [.int .i64 (o1 : Nat), .int .i64 (o2 : Nat), .int .i64 (o3 : Nat)] _ _ rfl rfl KF1.out KF2.out Tryz.underlying29 rfl (by kernel_rfl) Tryz.underlying64 rfl (by kernel_rfl)) rfl ?_
            rw [EL.out, EM.out, ES.out, EH.out, EO.out]
            exact ⟨rfl, (by (repeat (with_reducible first | exact BU.out | refine Below.drew ?_ | refine Below.setCell ?_ ?_ _)) <;> (show w.heap.size ≤ _; dsimp only; omega))⟩
        · (try unfold oneK)
          go_wp2
          refine ⟨?_, ?_⟩
          · (try unfold oneK)
            go_wp2
            refine ⟨?_, ?_⟩
            · (try unfold oneK)
              go_wp2
              (try simp only [Exit.inBlock, Exit.then])
              refine bodyPost_ret (results_cell22 rfl _ _ (bp + 1) (bp + 1 + 1) [.int .i64 lo, .int .i64 mi, .int .i64 mi, .int .i64 (0)] [.int .i64 (o1 : Nat), .int .i64 (o2 : Nat), .int .i64 (o3 : Nat)] _ _ rfl rfl KF1.out KF2.out Tryz.underlying29 rfl (by kernel_rfl) Tryz.underlying64 rfl (by kernel_rfl)) rfl ?_
              rw [EL.out, EM.out, ES.out, EH.out, EO.out]
              exact ⟨rfl, (by (repeat (with_reducible first | exact BU.out | refine Below.drew ?_ | refine Below.setCell ?_ ?_ _)) <;> (show w.heap.size ≤ _; dsimp only; omega))⟩
            · (try unfold oneK)
              go_wp2
              (try simp only [Exit.inBlock, Exit.then])
              refine bodyPost_ret (results_cell22 rfl _ _ (bp + 1) (bp + 1 + 1) [.int .i64 lo, .int .i64 mi, .int .i64 mi, .int .i64 (0)] [.int .i64 (o1 : Nat), .int .i64 (o2 : Nat), .int .i64 (o3 : Nat)] _ _ rfl rfl KF1.out KF2.out Tryz.underlying29 rfl (by kernel_rfl) Tryz.underlying64 rfl (by kernel_rfl)) rfl ?_
              rw [EL.out, EM.out, ES.out, EH.out, EO.out]
              exact ⟨rfl, (by (repeat (with_reducible first | exact BU.out | refine Below.drew ?_ | refine Below.setCell ?_ ?_ _)) <;> (show w.heap.size ≤ _; dsimp only; omega))⟩
          · (try unfold oneK)
            go_wp2
            (try simp only [Exit.inBlock, Exit.then])
            refine bodyPost_ret (results_cell22 rfl _ _ (bp + 1) (bp + 1 + 1) [.int .i64 lo, .int .i64 mi, .int .i64 mi, .int .i64 (0)] [.int .i64 (o1 : Nat), .int .i64 (o2 : Nat), .int .i64 (o3 : Nat)] _ _ rfl rfl KF1.out KF2.out Tryz.underlying29 rfl (by kernel_rfl) Tryz.underlying64 rfl (by kernel_rfl)) rfl ?_
            rw [EL.out, EM.out, ES.out, EH.out, EO.out]
            exact ⟨rfl, (by (repeat (with_reducible first | exact BU.out | refine Below.drew ?_ | refine Below.setCell ?_ ?_ _)) <;> (show w.heap.size ≤ _; dsimp only; omega))⟩
      · have b1 : (lo == mi) = false := beq_eq_false_iff_ne.2 e1
        have b2 : (mi == sh) = false := beq_eq_false_iff_ne.2 e2
        have AG := Lib.hid (fun V => area_walk (pt a b c o1) (pt a b c o2) (pt a b c o3) (pt_good ha hb hc o1) (pt_good ha hb hc o2) (pt_good ha hb hc o3) V)
        unfold drV at AG
        obtain ⟨p1, p2, p3⟩ := pts_cell LP.out o1 ol1
        obtain ⟨p4, p5, p6⟩ := pts_cell LP.out o2 ol2
        obtain ⟨p7, p8, p9⟩ := pts_cell LP.out o3 ol3
        generalize har : arZ (pt a b c o1) (pt a b c o2) (pt a b c o3) = ar at *
        clear har
        generalize pt a b c o1 = P1 at *
        generalize pt a b c o2 = P2 at *
        generalize pt a b c o3 = P3 at *
        have lbp := LP.out.lt
        have r0 := R3.out.cell 0
        have r1 := R3.out.cell 1
        have r2 := R3.out.cell 2
        have rl := R3.out.lt
        simp only [List.getElem?_toArray, List.getElem?_cons_zero, List.getElem?_cons_succ] at r0 r1 r2
        have i1 : (0 : Int) ≤ (o1 : Int) := by omega
        have i2 : (0 : Int) ≤ (o2 : Int) := by omega
        have i3 : (0 : Int) ≤ (o3 : Int) := by omega
        have j1 : (o1 : Int) < 3 := by omega
        have j2 : (o2 : Int) < 3 := by omega
        have j3 : (o3 : Int) < 3 := by omega
        have s0 := SQ.out.cell 0
        have s1 := SQ.out.cell 1
        have s2 := SQ.out.cell 2
        have s3 := SQ.out.cell 3
        have g3 := SQ.out.frozen 3
        have lq := SQ.out.lt
        simp only [List.getElem?_toArray, List.getElem?_cons_zero, List.getElem?_cons_succ] at s0 s1 s2 s3
        by_cases e3 : ar < 0
        · have d3 : decide (ar < 0) = true := decide_eq_true e3
          obtain rfl : ha' = -1 := by rw [HHA.out, if_neg (by intro h; rcases h with h | h; exact e1 h; exact e2 h), if_pos e3]
          go_upto_region 9 with (fail)
          refine Grow.wp_region_plan (.quiet [0, 1, 5, 6, 10, 11] (.reads [2, 7, 12] (.quiet [3, 8, 13] (.reads [4, 9, 14] (.tail [15, 16, 17]))))) (by kernel_rfl) (by kernel_rfl) (by kernel_rfl) (by kernel_rfl) ?_ ?_
          · intro c aa d v ww h
            first
              | exact Grow.bodyPost_blind h
              | (simp (config := {zetaDelta := true}) only [Exit.then, Exit.inBlock] at h ⊢; first | exact Grow.bodyPost_blind h | exact h)
          simp only [Grow.Plan.wp, Grow.pick, List.getElem?_cons_zero, List.getElem?_cons_succ, List.cons_append, List.nil_append]
          repeat (go_big_quiet_step (fail))
          refine wpQuiet_nil ?_
          repeat (go_big_quiet_step (fail))
          refine wpQuiet_nil ?_
          repeat (go_big_quiet_step (fail))
          refine wpQuiet_nil ?_
          repeat (go_big_quiet_step (fail))
          refine wpQuiet_nil ?_
          go_upto_region 10 with (go_at_call 54; go_loud ((with_reducible refine (AG.out _).mono ?_); rintro e w9 ⟨rfl, hb⟩; have B9 := Lib.hid (grow_trans (grow_drew (grow_refl _)) hb : Below T.heap.size T w9); clear hb p1 p2 p3 p4 p5 p6 p7 p8 p9 lbp r0 r1 r2 rl s0 s1 s2 s3 g3 lq AG))
          have SQ := Lib.hid (SQ.out.below B9.out)
          have L1 := Lib.hid (L1.out.below B9.out)
          have L2 := Lib.hid (L2.out.below B9.out)
          have R3 := Lib.hid (R3.out.below B9.out)
          have BW := Lib.hid (BW.out.trans (B9.out.mono BW.out.size))
          clear B9
          have s0 := SQ.out.cell 0
          have s1 := SQ.out.cell 1
          have s2 := SQ.out.cell 2
          have s3 := SQ.out.cell 3
          have g3 := SQ.out.frozen 3
          have lq := SQ.out.lt
          simp only [List.getElem?_toArray, List.getElem?_cons_zero, List.getElem?_cons_succ] at s0 s1 s2 s3
          go_upto_region 11 with (fail)
          refine seal_wp fun U hU => ?_
          have SU := Lib.hid (show Known U q #[.int .i64 lo, .int .i64 mi, .int .i64 sh, .int .i64 (-1)] by rw [hU.out]; exact SQ.out.same 3 _)
          have LU1 := Lib.hid (show Known U (bp + 1) #[.int .i64 0, .int .i64 0, .int .i64 0, .int .i64 0] by rw [hU.out]; exact L1.out.other nq1 3 _)
          have LU2 := Lib.hid (show Known U (bp + 1 + 1) #[.int .i64 0, .int .i64 0, .int .i64 0] by rw [hU.out]; exact L2.out.other nq2 3 _)
          have RU := Lib.hid (show Known U (bt + 1) #[.int .i64 (o1 : Nat), .int .i64 (o2 : Nat), .int .i64 (o3 : Nat)] by rw [hU.out]; exact R3.out.other nq3 3 _)
          have BU := Lib.hid (show Below w.heap.size w U by rw [hU.out]; exact BW.out.setCell hzq _)
          clear hU
          clear SQ L1 L2 R3 BW
          have s0 := SU.out.cell 0
          have s1 := SU.out.cell 1
          have s2 := SU.out.cell 2
          have s3 := SU.out.cell 3
          have lq := SU.out.lt
          have r0 := RU.out.cell 0
          have r1 := RU.out.cell 1
          have r2 := RU.out.cell 2
          have rl := RU.out.lt
          have d0 := LU1.out.cell 0
          have d1 := LU1.out.cell 1
          have d2 := LU1.out.cell 2
          have d3 := LU1.out.cell 3
          have g0 := LU1.out.frozen 0
          have g1 := LU1.out.frozen 1
          have g2 := LU1.out.frozen 2
          have g3 := LU1.out.frozen 3
          have l1 := LU1.out.lt
          have e0 := LU2.out.cell 0
          have e1 := LU2.out.cell 1
          have e2 := LU2.out.cell 2
          have h0 := LU2.out.frozen 0
          have h1 := LU2.out.frozen 1
          have h2 := LU2.out.frozen 2
          have l2 := LU2.out.lt
          simp only [List.getElem?_toArray, List.getElem?_cons_zero, List.getElem?_cons_succ] at s0 s1 s2 s3 r0 r1 r2 d0 d1 d2 d3 e0 e1 e2
          refine Grow.wp_region_plan (.quiet [1] (.two 0 (.two 2 (.two 3 (.tail [4, 5, 6]) 4 (.tail [3, 5, 6])) 4 (.tail [2, 3, 5, 6])) 2 (.two 0 (.two 3 (.tail [4, 5, 6]) 4 (.tail [3, 5, 6])) 3 (.tail [0, 4, 5, 6])))) (by kernel_rfl) (by kernel_rfl) (by kernel_rfl) (by kernel_rfl) ?_ ?_
          · intro c aa d v ww h
            first
              | exact Grow.bodyPost_blind h
              | (simp (config := {zetaDelta := true}) only [Exit.then, Exit.inBlock] at h ⊢; first | exact Grow.bodyPost_blind h | exact h)
          simp only [Grow.Plan.wp, Grow.pick, List.getElem?_cons_zero, List.getElem?_cons_succ, List.cons_append, List.nil_append]
          repeat (go_big_quiet_step (fail))
          refine wpQuiet_nil ?_
          have n12 : bp + 1 ≠ bp + 1 + 1 := by omega
          have n21 : bp + 1 + 1 ≠ bp + 1 := by omega
          have KF1 := Lib.hid (((((known_four LU1.out (.int .i64 lo) (.int .i64 mi) (.int .i64 sh) (.int .i64 (-1))).other n21 0 (.int .i64 (o1 : Nat))).other n21 1 (.int .i64 (o2 : Nat))).other n21 2 (.int .i64 (o3 : Nat))).drew)
          have KF2 := Lib.hid ((known_three ((((LU2.out.other n12 0 (.int .i64 lo)).other n12 1 (.int .i64 mi)).other n12 2 (.int .i64 sh)).other n12 3 (.int .i64 (-1))) (.int .i64 (o1 : Nat)) (.int .i64 (o2 : Nat)) (.int .i64 (o3 : Nat))).drew)
          clear n12 n21
          have hbp : w.heap.size ≤ bp := Nat.le_of_eq HBP.out
          have hat := fun V => at3 (bt + 1) V
          refine ⟨?_, ?_⟩
          · (try unfold oneK)
            go_wp2
            refine ⟨?_, ?_⟩
            · (try unfold oneK)
              go_wp2
              refine ⟨?_, ?_⟩
              · (try unfold oneK)
                go_wp2
                (try simp only [Exit.inBlock, Exit.then])
                refine bodyPost_ret (results_cell22 rfl _ _ (bp + 1) (bp + 1 + 1) [.int .i64 lo, .int .i64 mi, .int .i64 sh, .int .i64 (-1)] [.int .i64 (o1 : Nat), .int .i64 (o2 : Nat), .int .i64 (o3 : Nat)] _ _ rfl rfl KF1.out KF2.out Tryz.underlying29 rfl (by kernel_rfl) Tryz.underlying64 rfl (by kernel_rfl)) rfl ?_
                rw [EL.out, EM.out, ES.out, EH.out, EO.out]
                exact ⟨rfl, (by (repeat (with_reducible first | exact BU.out | refine Below.drew ?_ | refine Below.setCell ?_ ?_ _)) <;> (show w.heap.size ≤ _; dsimp only; omega))⟩
              · (try unfold oneK)
                go_wp2
                (try simp only [Exit.inBlock, Exit.then])
                refine bodyPost_ret (results_cell22 rfl _ _ (bp + 1) (bp + 1 + 1) [.int .i64 lo, .int .i64 mi, .int .i64 sh, .int .i64 (-1)] [.int .i64 (o1 : Nat), .int .i64 (o2 : Nat), .int .i64 (o3 : Nat)] _ _ rfl rfl KF1.out KF2.out Tryz.underlying29 rfl (by kernel_rfl) Tryz.underlying64 rfl (by kernel_rfl)) rfl ?_
                rw [EL.out, EM.out, ES.out, EH.out, EO.out]
                exact ⟨rfl, (by (repeat (with_reducible first | exact BU.out | refine Below.drew ?_ | refine Below.setCell ?_ ?_ _)) <;> (show w.heap.size ≤ _; dsimp only; omega))⟩
            · (try unfold oneK)
              go_wp2
              (try simp only [Exit.inBlock, Exit.then])
              refine bodyPost_ret (results_cell22 rfl _ _ (bp + 1) (bp + 1 + 1) [.int .i64 lo, .int .i64 mi, .int .i64 sh, .int .i64 (-1)] [.int .i64 (o1 : Nat), .int .i64 (o2 : Nat), .int .i64 (o3 : Nat)] _ _ rfl rfl KF1.out KF2.out Tryz.underlying29 rfl (by kernel_rfl) Tryz.underlying64 rfl (by kernel_rfl)) rfl ?_
              rw [EL.out, EM.out, ES.out, EH.out, EO.out]
              exact ⟨rfl, (by (repeat (with_reducible first | exact BU.out | refine Below.drew ?_ | refine Below.setCell ?_ ?_ _)) <;> (show w.heap.size ≤ _; dsimp only; omega))⟩
          · (try unfold oneK)
            go_wp2
            refine ⟨?_, ?_⟩
            · (try unfold oneK)
              go_wp2
              refine ⟨?_, ?_⟩
              · (try unfold oneK)
                go_wp2
                (try simp only [Exit.inBlock, Exit.then])
                refine bodyPost_ret (results_cell22 rfl _ _ (bp + 1) (bp + 1 + 1) [.int .i64 lo, .int .i64 mi, .int .i64 sh, .int .i64 (-1)] [.int .i64 (o1 : Nat), .int .i64 (o2 : Nat), .int .i64 (o3 : Nat)] _ _ rfl rfl KF1.out KF2.out Tryz.underlying29 rfl (by kernel_rfl) Tryz.underlying64 rfl (by kernel_rfl)) rfl ?_
                rw [EL.out, EM.out, ES.out, EH.out, EO.out]
                exact ⟨rfl, (by (repeat (with_reducible first | exact BU.out | refine Below.drew ?_ | refine Below.setCell ?_ ?_ _)) <;> (show w.heap.size ≤ _; dsimp only; omega))⟩
              · (try unfold oneK)
                go_wp2
                (try simp only [Exit.inBlock, Exit.then])
                refine bodyPost_ret (results_cell22 rfl _ _ (bp + 1) (bp + 1 + 1) [.int .i64 lo, .int .i64 mi, .int .i64 sh, .int .i64 (-1)] [.int .i64 (o1 : Nat), .int .i64 (o2 : Nat), .int .i64 (o3 : Nat)] _ _ rfl rfl KF1.out KF2.out Tryz.underlying29 rfl (by kernel_rfl) Tryz.underlying64 rfl (by kernel_rfl)) rfl ?_
                rw [EL.out, EM.out, ES.out, EH.out, EO.out]
                exact ⟨rfl, (by (repeat (with_reducible first | exact BU.out | refine Below.drew ?_ | refine Below.setCell ?_ ?_ _)) <;> (show w.heap.size ≤ _; dsimp only; omega))⟩
            · (try unfold oneK)
              go_wp2
              (try simp only [Exit.inBlock, Exit.then])
              refine bodyPost_ret (results_cell22 rfl _ _ (bp + 1) (bp + 1 + 1) [.int .i64 lo, .int .i64 mi, .int .i64 sh, .int .i64 (-1)] [.int .i64 (o1 : Nat), .int .i64 (o2 : Nat), .int .i64 (o3 : Nat)] _ _ rfl rfl KF1.out KF2.out Tryz.underlying29 rfl (by kernel_rfl) Tryz.underlying64 rfl (by kernel_rfl)) rfl ?_
              rw [EL.out, EM.out, ES.out, EH.out, EO.out]
              exact ⟨rfl, (by (repeat (with_reducible first | exact BU.out | refine Below.drew ?_ | refine Below.setCell ?_ ?_ _)) <;> (show w.heap.size ≤ _; dsimp only; omega))⟩
        · have d3 : decide (ar < 0) = false := decide_eq_false e3
          obtain rfl : ha' = 1 := by rw [HHA.out, if_neg (by intro h; rcases h with h | h; exact e1 h; exact e2 h), if_neg e3]
          go_upto_region 9 with (fail)
          refine Grow.wp_region_plan (.quiet [0, 1, 5, 6, 10, 11] (.reads [2, 7, 12] (.quiet [3, 8, 13] (.reads [4, 9, 14] (.tail [15, 16, 17]))))) (by kernel_rfl) (by kernel_rfl) (by kernel_rfl) (by kernel_rfl) ?_ ?_
          · intro c aa d v ww h
            first
              | exact Grow.bodyPost_blind h
              | (simp (config := {zetaDelta := true}) only [Exit.then, Exit.inBlock] at h ⊢; first | exact Grow.bodyPost_blind h | exact h)
          simp only [Grow.Plan.wp, Grow.pick, List.getElem?_cons_zero, List.getElem?_cons_succ, List.cons_append, List.nil_append]
          repeat (go_big_quiet_step (fail))
          refine wpQuiet_nil ?_
          repeat (go_big_quiet_step (fail))
          refine wpQuiet_nil ?_
          repeat (go_big_quiet_step (fail))
          refine wpQuiet_nil ?_
          repeat (go_big_quiet_step (fail))
          refine wpQuiet_nil ?_
          go_upto_region 11 with (go_at_call 54; go_loud ((with_reducible refine (AG.out _).mono ?_); rintro e w9 ⟨rfl, hb⟩; have B9 := Lib.hid (grow_trans (grow_drew (grow_refl _)) hb : Below T.heap.size T w9); clear hb p1 p2 p3 p4 p5 p6 p7 p8 p9 lbp r0 r1 r2 rl s0 s1 s2 s3 g3 lq AG))
          have SQ := Lib.hid (SQ.out.below B9.out)
          have L1 := Lib.hid (L1.out.below B9.out)
          have L2 := Lib.hid (L2.out.below B9.out)
          have R3 := Lib.hid (R3.out.below B9.out)
          have BW := Lib.hid (BW.out.trans (B9.out.mono BW.out.size))
          clear B9
          have SU := Lib.hid SQ.out
          have LU1 := Lib.hid L1.out
          have LU2 := Lib.hid L2.out
          have RU := Lib.hid R3.out
          have BU := Lib.hid BW.out
          generalize w9 = U at *
          clear SQ L1 L2 R3 BW
          have s0 := SU.out.cell 0
          have s1 := SU.out.cell 1
          have s2 := SU.out.cell 2
          have s3 := SU.out.cell 3
          have lq := SU.out.lt
          have r0 := RU.out.cell 0
          have r1 := RU.out.cell 1
          have r2 := RU.out.cell 2
          have rl := RU.out.lt
          have d0 := LU1.out.cell 0
          have d1 := LU1.out.cell 1
          have d2 := LU1.out.cell 2
          have d3 := LU1.out.cell 3
          have g0 := LU1.out.frozen 0
          have g1 := LU1.out.frozen 1
          have g2 := LU1.out.frozen 2
          have g3 := LU1.out.frozen 3
          have l1 := LU1.out.lt
          have e0 := LU2.out.cell 0
          have e1 := LU2.out.cell 1
          have e2 := LU2.out.cell 2
          have h0 := LU2.out.frozen 0
          have h1 := LU2.out.frozen 1
          have h2 := LU2.out.frozen 2
          have l2 := LU2.out.lt
          simp only [List.getElem?_toArray, List.getElem?_cons_zero, List.getElem?_cons_succ] at s0 s1 s2 s3 r0 r1 r2 d0 d1 d2 d3 e0 e1 e2
          refine Grow.wp_region_plan (.quiet [1] (.two 0 (.two 2 (.two 3 (.tail [4, 5, 6]) 4 (.tail [3, 5, 6])) 4 (.tail [2, 3, 5, 6])) 2 (.two 0 (.two 3 (.tail [4, 5, 6]) 4 (.tail [3, 5, 6])) 3 (.tail [0, 4, 5, 6])))) (by kernel_rfl) (by kernel_rfl) (by kernel_rfl) (by kernel_rfl) ?_ ?_
          · intro c aa d v ww h
            first
              | exact Grow.bodyPost_blind h
              | (simp (config := {zetaDelta := true}) only [Exit.then, Exit.inBlock] at h ⊢; first | exact Grow.bodyPost_blind h | exact h)
          simp only [Grow.Plan.wp, Grow.pick, List.getElem?_cons_zero, List.getElem?_cons_succ, List.cons_append, List.nil_append]
          repeat (go_big_quiet_step (fail))
          refine wpQuiet_nil ?_
          have n12 : bp + 1 ≠ bp + 1 + 1 := by omega
          have n21 : bp + 1 + 1 ≠ bp + 1 := by omega
          have KF1 := Lib.hid (((((known_four LU1.out (.int .i64 lo) (.int .i64 mi) (.int .i64 sh) (.int .i64 (1))).other n21 0 (.int .i64 (o1 : Nat))).other n21 1 (.int .i64 (o2 : Nat))).other n21 2 (.int .i64 (o3 : Nat))).drew)
          have KF2 := Lib.hid ((known_three ((((LU2.out.other n12 0 (.int .i64 lo)).other n12 1 (.int .i64 mi)).other n12 2 (.int .i64 sh)).other n12 3 (.int .i64 (1))) (.int .i64 (o1 : Nat)) (.int .i64 (o2 : Nat)) (.int .i64 (o3 : Nat))).drew)
          clear n12 n21
          have hbp : w.heap.size ≤ bp := Nat.le_of_eq HBP.out
          have hat := fun V => at3 (bt + 1) V
          refine ⟨?_, ?_⟩
          · (try unfold oneK)
            go_wp2
            refine ⟨?_, ?_⟩
            · (try unfold oneK)
              go_wp2
              refine ⟨?_, ?_⟩
              · (try unfold oneK)
                go_wp2
                (try simp only [Exit.inBlock, Exit.then])
                refine bodyPost_ret (results_cell22 rfl _ _ (bp + 1) (bp + 1 + 1) [.int .i64 lo, .int .i64 mi, .int .i64 sh, .int .i64 (1)] [.int .i64 (o1 : Nat), .int .i64 (o2 : Nat), .int .i64 (o3 : Nat)] _ _ rfl rfl KF1.out KF2.out Tryz.underlying29 rfl (by kernel_rfl) Tryz.underlying64 rfl (by kernel_rfl)) rfl ?_
                rw [EL.out, EM.out, ES.out, EH.out, EO.out]
                exact ⟨rfl, (by (repeat (with_reducible first | exact BU.out | refine Below.drew ?_ | refine Below.setCell ?_ ?_ _)) <;> (show w.heap.size ≤ _; dsimp only; omega))⟩
              · (try unfold oneK)
                go_wp2
                (try simp only [Exit.inBlock, Exit.then])
                refine bodyPost_ret (results_cell22 rfl _ _ (bp + 1) (bp + 1 + 1) [.int .i64 lo, .int .i64 mi, .int .i64 sh, .int .i64 (1)] [.int .i64 (o1 : Nat), .int .i64 (o2 : Nat), .int .i64 (o3 : Nat)] _ _ rfl rfl KF1.out KF2.out Tryz.underlying29 rfl (by kernel_rfl) Tryz.underlying64 rfl (by kernel_rfl)) rfl ?_
                rw [EL.out, EM.out, ES.out, EH.out, EO.out]
                exact ⟨rfl, (by (repeat (with_reducible first | exact BU.out | refine Below.drew ?_ | refine Below.setCell ?_ ?_ _)) <;> (show w.heap.size ≤ _; dsimp only; omega))⟩
            · (try unfold oneK)
              go_wp2
              (try simp only [Exit.inBlock, Exit.then])
              refine bodyPost_ret (results_cell22 rfl _ _ (bp + 1) (bp + 1 + 1) [.int .i64 lo, .int .i64 mi, .int .i64 sh, .int .i64 (1)] [.int .i64 (o1 : Nat), .int .i64 (o2 : Nat), .int .i64 (o3 : Nat)] _ _ rfl rfl KF1.out KF2.out Tryz.underlying29 rfl (by kernel_rfl) Tryz.underlying64 rfl (by kernel_rfl)) rfl ?_
              rw [EL.out, EM.out, ES.out, EH.out, EO.out]
              exact ⟨rfl, (by (repeat (with_reducible first | exact BU.out | refine Below.drew ?_ | refine Below.setCell ?_ ?_ _)) <;> (show w.heap.size ≤ _; dsimp only; omega))⟩
          · (try unfold oneK)
            go_wp2
            refine ⟨?_, ?_⟩
            · (try unfold oneK)
              go_wp2
              refine ⟨?_, ?_⟩
              · (try unfold oneK)
                go_wp2
                (try simp only [Exit.inBlock, Exit.then])
                refine bodyPost_ret (results_cell22 rfl _ _ (bp + 1) (bp + 1 + 1) [.int .i64 lo, .int .i64 mi, .int .i64 sh, .int .i64 (1)] [.int .i64 (o1 : Nat), .int .i64 (o2 : Nat), .int .i64 (o3 : Nat)] _ _ rfl rfl KF1.out KF2.out Tryz.underlying29 rfl (by kernel_rfl) Tryz.underlying64 rfl (by kernel_rfl)) rfl ?_
                rw [EL.out, EM.out, ES.out, EH.out, EO.out]
                exact ⟨rfl, (by (repeat (with_reducible first | exact BU.out | refine Below.drew ?_ | refine Below.setCell ?_ ?_ _)) <;> (show w.heap.size ≤ _; dsimp only; omega))⟩
              · (try unfold oneK)
                go_wp2
                (try simp only [Exit.inBlock, Exit.then])
                refine bodyPost_ret (results_cell22 rfl _ _ (bp + 1) (bp + 1 + 1) [.int .i64 lo, .int .i64 mi, .int .i64 sh, .int .i64 (1)] [.int .i64 (o1 : Nat), .int .i64 (o2 : Nat), .int .i64 (o3 : Nat)] _ _ rfl rfl KF1.out KF2.out Tryz.underlying29 rfl (by kernel_rfl) Tryz.underlying64 rfl (by kernel_rfl)) rfl ?_
                rw [EL.out, EM.out, ES.out, EH.out, EO.out]
                exact ⟨rfl, (by (repeat (with_reducible first | exact BU.out | refine Below.drew ?_ | refine Below.setCell ?_ ?_ _)) <;> (show w.heap.size ≤ _; dsimp only; omega))⟩
            · (try unfold oneK)
              go_wp2
              (try simp only [Exit.inBlock, Exit.then])
              refine bodyPost_ret (results_cell22 rfl _ _ (bp + 1) (bp + 1 + 1) [.int .i64 lo, .int .i64 mi, .int .i64 sh, .int .i64 (1)] [.int .i64 (o1 : Nat), .int .i64 (o2 : Nat), .int .i64 (o3 : Nat)] _ _ rfl rfl KF1.out KF2.out Tryz.underlying29 rfl (by kernel_rfl) Tryz.underlying64 rfl (by kernel_rfl)) rfl ?_
              rw [EL.out, EM.out, ES.out, EH.out, EO.out]
              exact ⟨rfl, (by (repeat (with_reducible first | exact BU.out | refine Below.drew ?_ | refine Below.setCell ?_ ?_ _)) <;> (show w.heap.size ≤ _; dsimp only; omega))⟩
end Go.Proofs.YtlnbeildplafbaaGreatDoor
