/- Cells of directions: the program's Add of an entry that fits. -/
import Derived.Test.YtlnbeildplafbaaGreatDoorAc19
import Derived.Maps.AppendAt
import Derived.Deep.DeepCutAuto
import Derived.Deep.CutBlock
import Derived.Outline
set_option linter.unusedSimpArgs false
set_option linter.unusedVariables false
namespace Go.Proofs.YtlnbeildplafbaaGreatDoor
open Go.RowKit Go.Grow Go.Atl Go.Maps

theorem cell_wf {d : Dr} (h : isDir d = true) {L : Nat} (hl : L ≤ 12) : (Lit.int .i64 (cellAt d L).face).wf = true ∧ (Lit.int .i64 (cellAt d L).level).wf = true ∧ (Lit.int .i64 (cellAt d L).col).wf = true ∧ (Lit.int .i64 (cellAt d L).row).wf = true := by
  obtain ⟨h1, h2, h3, h4, h5, h6, h7, h8⟩ := (validS_iff _).1 (cell_valid h hl)
  have hp := pow_le12 (cellAt d L).level.toNat (by omega)
  exact ⟨WalkArith.wf_i64 (by omega), WalkArith.wf_i64 (by omega), WalkArith.wf_i64 (by omega), WalkArith.wf_i64 (by omega)⟩
set_option maxRecDepth 100000 in
set_option maxHeartbeats 64000000 in
theorem padd_good (a : Nat → Addr) (w : World) (B g m1 m2 : Nat) (L : Nat) (es : List En) (v : Value) (e : En) (h : PAt w B g m1 m2 L es v) (hn : e.name.size ≤ maxLen) (hx : hadUp e es es.length = false) (hd : isDir e.at' = true) (hl : es.length < 4000) (hL : L ≤ 12) :
    Calls Tryz.prog 37 #[.pointer (some ⟨g, 0, none⟩), anV e] w fun en' w' => PAdd a w B g m1 m2 L es v e en' w' := by
  have HE := Lib.hid (show addE es e = 0 by unfold addE; rw [if_neg (by rw [hx]; decide), if_neg (by rw [hd]; decide), if_neg (by omega)])
  obtain ⟨r, cap, rfl, _⟩ := ens_of_owns h.at'.2.2.2
  obtain ⟨j0, ji, jz0, jz1, jz2⟩ := info_parts info_int
  obtain ⟨i0, hi, hz0, hz1, hz2⟩ := info_parts info_an
  have JI := Lib.hid ji
  have JZ0 := Lib.hid jz0
  have JZ1 := Lib.hid jz1
  have JZ2 := Lib.hid jz2
  have HI := Lib.hid hi
  have HZ0 := Lib.hid hz0
  have HZ1 := Lib.hid hz1
  have HZ2 := Lib.hid hz2
  clear hi hz0 hz1 hz2 ji jz0 jz1 jz2
  have HH := Lib.hid h
  have hgw : g < w.heap.size := by have := h.at'.2.1; have := h.at'.2.2.1; omega
  have h1w : m1 < w.heap.size := by have := h.low; have := h.at'.2.2.1; omega
  obtain ⟨D, hown0, hnm0⟩ := h.names
  have OW := Lib.hid (map_off (X := fun _ => False) hown0 (Off.of_below (grow_drew (grow_alloc (grow_refl w) (.cells #[.string e.name, .int .i64 e.at'.x, .int .i64 e.at'.y, .int .i64 e.at'.z, .int .i64 e.light] 93)))) (fun f => f))
  have NM := Lib.hid hnm0
  have KG := Lib.hid (h.at'.1.alloc (.cells #[.string e.name, .int .i64 e.at'.x, .int .i64 e.at'.y, .int .i64 e.at'.z, .int .i64 e.light] 93))
  have KB := Lib.hid (Known.new w #[.string e.name, .int .i64 e.at'.x, .int .i64 e.at'.y, .int .i64 e.at'.z, .int .i64 e.light] 93)
  have hkey := Lib.hid (WideMaps.keyOf_string_mk (P := Tryz.prog) Tryz.underlying9 (s := e.name) hn)
  clear h hown0 hnm0
  have k1 := KG.out.cell 1
  have b0 := KB.out.cell 0
  have lg := KG.out.lt
  have lb := KB.out.lt
  simp only [List.getElem?_toArray, List.getElem?_cons_zero, List.getElem?_cons_succ] at k1 b0
  have hcase : named es e.name = false ∧ ¬ e.name = .empty ∧ ¬ 40 < e.name.size := by
    rw [hadUp_all] at hx
    simp only [Bool.or_eq_false_iff, decide_eq_false_iff_not] at hx
    exact ⟨hx.2, hx.1.1, hx.1.2⟩
  have HNF := Lib.hid hcase.1
  clear hx
  have DX := Lib.hid (fun X => direction_walk e.at' X)
  rw [hd] at DX
  unfold drV at DX
  have b1 := KB.out.cell 1
  have b2 := KB.out.cell 2
  have b3 := KB.out.cell 3
  simp only [List.getElem?_toArray, List.getElem?_cons_zero, List.getElem?_cons_succ] at b1 b2 b3
  have CA := Lib.hid (fun X (hX : AAt X B g m1 m2 L es (.slice r es.length cap)) => by
    have := coarse_walk X B g m1 m2 L es _ hX
    rw [show min (L : Int) 5 = ((min L 5 : Nat) : Int) by omega] at this
    exact this)
  have CO := Lib.hid (fun X => cellOf_good e.at' (min L 5) X hd (by omega))
  have CW := Lib.hid (cell_wf hd (L := min L 5) (by omega))
  unfold drV spV at CO
  generalize cellAt e.at' (min L 5) = cc at *
  obtain ⟨cf, cl, cx, cy⟩ := cc
  simp only at CO CW
  unfold anV
  go_enter Tryz.func37, Tryz.ntmps37
  go_wp2
  refine Grow.wp_region_plan (.quiet [0, 1, 2, 4] (.reads [3, 5] (.one 6 (.quiet [7, 8, 9, 10, 11] (.tail []))))) (by kernel_rfl) (by kernel_rfl) (by kernel_rfl) (by kernel_rfl) ?_ ?_
  · intro c aa d v ww h
    simp (config := {zetaDelta := true}) only [Exit.then, Exit.inBlock] at h ⊢
    exact Grow.bodyPost_blind h
  simp only [Grow.Plan.wp, Grow.pick, List.getElem?_cons_zero, List.getElem?_cons_succ, List.cons_append, List.nil_append]
  repeat (go_big_quiet_step (fail))
  refine wpQuiet_nil ?_
  repeat (go_big_quiet_step (fail))
  refine wpQuiet_nil ?_
  unfold oneK
  have BX := Lib.hid (grow_drew (grow_alloc (grow_refl w) (.cells #[.string e.name, .int .i64 e.at'.x, .int .i64 e.at'.y, .int .i64 e.at'.z, .int .i64 e.light] 93)))
  obtain ⟨hc, he, h4⟩ := hcase
  have hh := Lib.hid ((NM.out.1 e.name).trans hc)
  have d1 : e.name.toList.isEmpty = false := by rw [← decide_eq_emptyBytes]; exact decide_eq_false he
  have d9 : decide ((es.length : Int) = 4000) = false := decide_eq_false (by omega)
  have d2 : decide ((40 : Int) < (e.name.size : Int)) = false := decide_eq_false (by omega)
  go_wp2_with (at_lookup; refine look_ok _ rfl _ _ 97 rfl 9 3 .i64 lawSt Tryz.underlying97 Tryz.underlying3 (zeroIn _) m1 es.length D rfl OW.out _ _ rfl hkey.out false hh.out ?_; intro c)
  repeat (go_big_quiet_step (fail))
  refine wpQuiet_nil ?_
  go_upto_region 8 with (go_at_call 73; (with_reducible refine (DX.out _).mono ?_); rintro e2 w2 ⟨rfl, hb⟩; have HB2 := Lib.hid (grow_trans BX.out hb); have KB2 := Lib.hid (KB.out.drew.below hb); clear hb; have KG2 := Lib.hid (HH.out.at'.1.below HB2.out); have k2 := KG2.out.cell 2; have lg2 := KG2.out.lt; simp only [List.getElem?_toArray, List.getElem?_cons_zero, List.getElem?_cons_succ] at k2)
  go_cut [7] (fun v7 wx => ∃ p, w.heap.size < p ∧ v7 = .pointer (some ⟨p, 0, none⟩) ∧ Known wx p #[.int .i64 cf, .int .i64 cl, .int .i64 cx, .int .i64 cy] ∧ Below w.heap.size w wx ∧ Known wx w.heap.size #[.string e.name, .int .i64 e.at'.x, .int .i64 e.at'.y, .int .i64 e.at'.z, .int .i64 e.light])
  case first =>
    have c1 := KB2.out.cell 1
    have c2 := KB2.out.cell 2
    have c3 := KB2.out.cell 3
    have lb2 := KB2.out.lt
    simp only [List.getElem?_toArray, List.getElem?_cons_zero, List.getElem?_cons_succ] at c1 c2 c3
    have hal := alloc_sp
    have hne2 : w2.heap.size ≠ w.heap.size := by omega
    refine Grow.wp_region_plan (.quiet [0, 2] (.three 1 (.two 3 (.two 4 (.quiet [5, 6, 7] (.tail [8, 9, 10])) 8 (.one 4 (.quiet [5, 6, 7] (.tail [9, 10])))) 8 (.one 3 (.one 4 (.quiet [5, 6, 7] (.tail [9, 10]))))) 3 (.two 1 (.two 4 (.quiet [5, 6, 7] (.tail [8, 9, 10])) 8 (.one 4 (.quiet [5, 6, 7] (.tail [9, 10])))) 8 (.one 1 (.one 4 (.quiet [5, 6, 7] (.tail [9, 10]))))) 8 (.two 1 (.one 3 (.one 4 (.quiet [5, 6, 7] (.tail [9, 10])))) 3 (.one 1 (.one 4 (.quiet [5, 6, 7] (.tail [9, 10]))))))) (by kernel_rfl) (by kernel_rfl) (by kernel_rfl) (by kernel_rfl) ?_ ?_
    · intro c aa d v ww h
      first
        | exact Grow.bodyPost_blind h
        | (simp (config := {zetaDelta := true}) only [Exit.then, Exit.inBlock] at h ⊢; first | exact Grow.bodyPost_blind h | exact h)
    simp only [Grow.Plan.wp, Grow.pick, List.getElem?_cons_zero, List.getElem?_cons_succ, List.cons_append, List.nil_append]
    repeat (go_big_quiet_step (fail))
    refine wpQuiet_nil ?_
    unfold oneK
    refine ⟨?_, ?_, ?_⟩
    · go_wp2
      refine ⟨?_, ?_⟩
      · go_wp2_with (first | (go_at_call 76; (with_reducible refine (CA.out _ (HH.out.below (grow_drew HB2.out)).at').mono ?_); rintro e3 w3 ⟨rfl, rfl⟩))
        refine ⟨?_, ?_⟩
        · go_wp2_with (first | (go_at_call 35; (with_reducible refine (CO.out _).mono ?_); rintro e4 w4 ⟨rfl, hb⟩; have HB4 := Lib.hid (grow_trans (grow_drew HB2.out) hb); have KB4 := Lib.hid (KB2.out.drew.below hb); clear hb))
          repeat (go_big_quiet_step (fail))
          refine wpQuiet_nil ?_
          go_wp2
          go_meet
          exact ⟨_, KB4.out.lt, rfl, Known.new _ _ _, grow_alloc HB4.out _, KB4.out.alloc _⟩
        · go_wp2_with (first | (go_at_call 35; (with_reducible refine (CO.out _).mono ?_); rintro e4 w4 ⟨rfl, hb⟩; have HB4 := Lib.hid (grow_trans (grow_alloc (grow_drew HB2.out) _) hb); have KB4 := Lib.hid ((KB2.out.drew.alloc _).below hb); have KC := Lib.hid ((Known.new' (w := w2.drew) (c := #[.int .i64 0, .int .i64 0, .int .i64 0, .int .i64 0]) (t := 87) (b := w2.heap.size) rfl).below hb); have z0 := KC.out.cell 0; have z1 := KC.out.cell 1; have z2 := KC.out.cell 2; have z3 := KC.out.cell 3; have zf0 := KC.out.frozen 0; have zf1 := KC.out.frozen 1; have zf2 := KC.out.frozen 2; have zf3 := KC.out.frozen 3; have zl := KC.out.lt; simp only [List.getElem?_toArray, List.getElem?_cons_zero, List.getElem?_cons_succ] at z0 z1 z2 z3; clear hb))
          repeat (go_big_quiet_step (fail))
          refine wpQuiet_nil ?_
          go_wp2
          go_meet
          exact ⟨w2.heap.size, lb2, rfl, known_eqA ((((KC.out.same 0 _).same 1 _).same 2 _).same 3 _) (by simp), grow_setCell (grow_setCell (grow_setCell (grow_setCell HB4.out (Nat.le_of_lt lb2) _) (Nat.le_of_lt lb2) _) (Nat.le_of_lt lb2) _) (Nat.le_of_lt lb2) _, ((((KB4.out.other hne2 0 _).other hne2 1 _).other hne2 2 _).other hne2 3 _)⟩
      · go_wp2_with (first | (go_at_call 76; (with_reducible refine (CA.out _ (HH.out.below (grow_drew (grow_alloc HB2.out _))).at').mono ?_); rintro e3 w3 ⟨rfl, rfl⟩) | (go_at_call 35; (with_reducible refine (CO.out _).mono ?_); rintro e4 w4 ⟨rfl, hb⟩; have HB4 := Lib.hid (grow_trans (grow_alloc (grow_drew HB2.out) _) hb); have KB4 := Lib.hid ((KB2.out.drew.alloc _).below hb); have KC := Lib.hid ((Known.new' (w := w2.drew) (c := #[.int .i64 0, .int .i64 0, .int .i64 0, .int .i64 0]) (t := 87) (b := w2.heap.size) rfl).below hb); have z0 := KC.out.cell 0; have z1 := KC.out.cell 1; have z2 := KC.out.cell 2; have z3 := KC.out.cell 3; have zf0 := KC.out.frozen 0; have zf1 := KC.out.frozen 1; have zf2 := KC.out.frozen 2; have zf3 := KC.out.frozen 3; have zl := KC.out.lt; simp only [List.getElem?_toArray, List.getElem?_cons_zero, List.getElem?_cons_succ] at z0 z1 z2 z3; clear hb))
        repeat (go_big_quiet_step (fail))
        refine wpQuiet_nil ?_
        go_wp2
        go_meet
        exact ⟨w2.heap.size, lb2, rfl, known_eqA ((((KC.out.same 0 _).same 1 _).same 2 _).same 3 _) (by simp), grow_setCell (grow_setCell (grow_setCell (grow_setCell HB4.out (Nat.le_of_lt lb2) _) (Nat.le_of_lt lb2) _) (Nat.le_of_lt lb2) _) (Nat.le_of_lt lb2) _, ((((KB4.out.other hne2 0 _).other hne2 1 _).other hne2 2 _).other hne2 3 _)⟩
    · go_wp2_with (first | (go_at_call 76; (with_reducible refine (CA.out _ (HH.out.below (grow_drew HB2.out)).at').mono ?_); rintro e3 w3 ⟨rfl, rfl⟩))
      refine ⟨?_, ?_⟩
      · go_wp2
        refine ⟨?_, ?_⟩
        · go_wp2_with (first | (go_at_call 35; (with_reducible refine (CO.out _).mono ?_); rintro e4 w4 ⟨rfl, hb⟩; have HB4 := Lib.hid (grow_trans (grow_drew HB2.out) hb); have KB4 := Lib.hid (KB2.out.drew.below hb); clear hb))
          repeat (go_big_quiet_step (fail))
          refine wpQuiet_nil ?_
          go_wp2
          go_meet
          exact ⟨_, KB4.out.lt, rfl, Known.new _ _ _, grow_alloc HB4.out _, KB4.out.alloc _⟩
        · go_wp2_with (first | (go_at_call 35; (with_reducible refine (CO.out _).mono ?_); rintro e4 w4 ⟨rfl, hb⟩; have HB4 := Lib.hid (grow_trans (grow_alloc (grow_drew HB2.out) _) hb); have KB4 := Lib.hid ((KB2.out.drew.alloc _).below hb); have KC := Lib.hid ((Known.new' (w := w2.drew) (c := #[.int .i64 0, .int .i64 0, .int .i64 0, .int .i64 0]) (t := 87) (b := w2.heap.size) rfl).below hb); have z0 := KC.out.cell 0; have z1 := KC.out.cell 1; have z2 := KC.out.cell 2; have z3 := KC.out.cell 3; have zf0 := KC.out.frozen 0; have zf1 := KC.out.frozen 1; have zf2 := KC.out.frozen 2; have zf3 := KC.out.frozen 3; have zl := KC.out.lt; simp only [List.getElem?_toArray, List.getElem?_cons_zero, List.getElem?_cons_succ] at z0 z1 z2 z3; clear hb))
          repeat (go_big_quiet_step (fail))
          refine wpQuiet_nil ?_
          go_wp2
          go_meet
          exact ⟨w2.heap.size, lb2, rfl, known_eqA ((((KC.out.same 0 _).same 1 _).same 2 _).same 3 _) (by simp), grow_setCell (grow_setCell (grow_setCell (grow_setCell HB4.out (Nat.le_of_lt lb2) _) (Nat.le_of_lt lb2) _) (Nat.le_of_lt lb2) _) (Nat.le_of_lt lb2) _, ((((KB4.out.other hne2 0 _).other hne2 1 _).other hne2 2 _).other hne2 3 _)⟩
      · go_wp2_with (first | (go_at_call 35; (with_reducible refine (CO.out _).mono ?_); rintro e4 w4 ⟨rfl, hb⟩; have HB4 := Lib.hid (grow_trans (grow_alloc (grow_drew HB2.out) _) hb); have KB4 := Lib.hid ((KB2.out.drew.alloc _).below hb); have KC := Lib.hid ((Known.new' (w := w2.drew) (c := #[.int .i64 0, .int .i64 0, .int .i64 0, .int .i64 0]) (t := 87) (b := w2.heap.size) rfl).below hb); have z0 := KC.out.cell 0; have z1 := KC.out.cell 1; have z2 := KC.out.cell 2; have z3 := KC.out.cell 3; have zf0 := KC.out.frozen 0; have zf1 := KC.out.frozen 1; have zf2 := KC.out.frozen 2; have zf3 := KC.out.frozen 3; have zl := KC.out.lt; simp only [List.getElem?_toArray, List.getElem?_cons_zero, List.getElem?_cons_succ] at z0 z1 z2 z3; clear hb))
        repeat (go_big_quiet_step (fail))
        refine wpQuiet_nil ?_
        go_wp2
        go_meet
        exact ⟨w2.heap.size, lb2, rfl, known_eqA ((((KC.out.same 0 _).same 1 _).same 2 _).same 3 _) (by simp), grow_setCell (grow_setCell (grow_setCell (grow_setCell HB4.out (Nat.le_of_lt lb2) _) (Nat.le_of_lt lb2) _) (Nat.le_of_lt lb2) _) (Nat.le_of_lt lb2) _, ((((KB4.out.other hne2 0 _).other hne2 1 _).other hne2 2 _).other hne2 3 _)⟩
    · go_wp2
      refine ⟨?_, ?_⟩
      · go_wp2_with (first | (go_at_call 76; (with_reducible refine (CA.out _ (HH.out.below (grow_drew (grow_alloc HB2.out _))).at').mono ?_); rintro e3 w3 ⟨rfl, rfl⟩) | (go_at_call 35; (with_reducible refine (CO.out _).mono ?_); rintro e4 w4 ⟨rfl, hb⟩; have HB4 := Lib.hid (grow_trans (grow_alloc (grow_drew HB2.out) _) hb); have KB4 := Lib.hid ((KB2.out.drew.alloc _).below hb); have KC := Lib.hid ((Known.new' (w := w2.drew) (c := #[.int .i64 0, .int .i64 0, .int .i64 0, .int .i64 0]) (t := 87) (b := w2.heap.size) rfl).below hb); have z0 := KC.out.cell 0; have z1 := KC.out.cell 1; have z2 := KC.out.cell 2; have z3 := KC.out.cell 3; have zf0 := KC.out.frozen 0; have zf1 := KC.out.frozen 1; have zf2 := KC.out.frozen 2; have zf3 := KC.out.frozen 3; have zl := KC.out.lt; simp only [List.getElem?_toArray, List.getElem?_cons_zero, List.getElem?_cons_succ] at z0 z1 z2 z3; clear hb))
        repeat (go_big_quiet_step (fail))
        refine wpQuiet_nil ?_
        go_wp2
        go_meet
        exact ⟨w2.heap.size, lb2, rfl, known_eqA ((((KC.out.same 0 _).same 1 _).same 2 _).same 3 _) (by simp), grow_setCell (grow_setCell (grow_setCell (grow_setCell HB4.out (Nat.le_of_lt lb2) _) (Nat.le_of_lt lb2) _) (Nat.le_of_lt lb2) _) (Nat.le_of_lt lb2) _, ((((KB4.out.other hne2 0 _).other hne2 1 _).other hne2 2 _).other hne2 3 _)⟩
      · go_wp2_with (first | (go_at_call 76; (with_reducible refine (CA.out _ (HH.out.below (grow_drew (grow_alloc HB2.out _))).at').mono ?_); rintro e3 w3 ⟨rfl, rfl⟩) | (go_at_call 35; (with_reducible refine (CO.out _).mono ?_); rintro e4 w4 ⟨rfl, hb⟩; have HB4 := Lib.hid (grow_trans (grow_alloc (grow_drew HB2.out) _) hb); have KB4 := Lib.hid ((KB2.out.drew.alloc _).below hb); have KC := Lib.hid ((Known.new' (w := w2.drew) (c := #[.int .i64 0, .int .i64 0, .int .i64 0, .int .i64 0]) (t := 87) (b := w2.heap.size) rfl).below hb); have z0 := KC.out.cell 0; have z1 := KC.out.cell 1; have z2 := KC.out.cell 2; have z3 := KC.out.cell 3; have zf0 := KC.out.frozen 0; have zf1 := KC.out.frozen 1; have zf2 := KC.out.frozen 2; have zf3 := KC.out.frozen 3; have zl := KC.out.lt; simp only [List.getElem?_toArray, List.getElem?_cons_zero, List.getElem?_cons_succ] at z0 z1 z2 z3; clear hb))
        repeat (go_big_quiet_step (fail))
        refine wpQuiet_nil ?_
        go_wp2
        go_meet
        exact ⟨w2.heap.size, lb2, rfl, known_eqA ((((KC.out.same 0 _).same 1 _).same 2 _).same 3 _) (by simp), grow_setCell (grow_setCell (grow_setCell (grow_setCell HB4.out (Nat.le_of_lt lb2) _) (Nat.le_of_lt lb2) _) (Nat.le_of_lt lb2) _) (Nat.le_of_lt lb2) _, ((((KB4.out.other hne2 0 _).other hne2 1 _).other hne2 2 _).other hne2 3 _)⟩
  case rest =>
    obtain ⟨p, hp, rfl, ks, hbw, kb⟩ := hcut
    have GW := Lib.hid hbw
    have KS := Lib.hid ks
    have KB3 := Lib.hid kb
    have PW := Lib.hid (HH.out.below (grow_drew hbw))
    clear hbw ks kb OW NM KG KB BX k1 b0 b1 b2 b3 lg lb hh
    have KG3 := Lib.hid PW.out.at'.1
    obtain ⟨D1, hown1, hnm1⟩ := PW.out.names
    have OW := Lib.hid hown1
    have NM := Lib.hid hnm1
    clear hown1 hnm1
    have k1 := KG3.out.cell 1
    have k2 := KG3.out.cell 2
    have lg := KG3.out.lt
    have KB4 := Lib.hid KB3.out.drew
    have b0 := KB4.out.cell 0
    have lb := KB4.out.lt
    simp only [List.getElem?_toArray, List.getElem?_cons_zero, List.getElem?_cons_succ] at k1 k2 b0
    go_upto_region 9 with (fail)
    refine Grow.wp_region_plan (.quiet [0, 1, 2, 4, 6, 7, 8] (.reads [3, 5, 9] (.tail [10, 11]))) (by kernel_rfl) (by kernel_rfl) (by kernel_rfl) (by kernel_rfl) ?_ ?_
    · intro c aa d v ww h
      first
        | exact Grow.bodyPost_blind h
        | (simp (config := {zetaDelta := true}) only [Exit.then, Exit.inBlock] at h ⊢; first | exact Grow.bodyPost_blind h | exact h)
    simp only [Grow.Plan.wp, Grow.pick, List.getElem?_cons_zero, List.getElem?_cons_succ, List.cons_append, List.nil_append]
    repeat (go_big_quiet_step (fail))
    refine wpQuiet_nil ?_
    repeat (go_big_quiet_step (fail))
    refine wpQuiet_nil ?_
    go_wp2_with (at_mapUpdate; refine wpList_mapUpdate_own _ rfl _ _ _ 97 rfl 9 3 lawSt Tryz.underlying97 _ m1 es.length D1 rfl OW.out (by unfold maxLen; omega) _ _ _ rfl rfl hkey.out (.lit (.int .i64 es.length)) [] (plainElem_int Tryz.underlying3 (WalkArith.wf_i64 (by omega))) ?_; intro w4 hown4 hgrow4)
    simp only [Act.put]
    have hB := HH.out.at'.2.2.1
    have hg := HH.out.at'.2.1
    have h2B : m2 < B := by obtain ⟨E, hc⟩ := HH.out.cells; obtain ⟨_, _, _, _, _, _, h, _⟩ := hc; exact h
    have h1B := HH.out.low
    have O4 := Lib.hid (Off.grown (X := fun k => k = m1) hgrow4 (fun k h => by cases h; rfl))
    have A4 := Lib.hid (PW.out.at'.off O4.out (HH.out.ne1) (fun k hk hx => by have := (owns_block PW.out.at'.2.2.2 hk).1; omega))
    have KS4 := Lib.hid (KS.out.drew.off O4.out (by omega))
    have KB5 := Lib.hid (KB4.out.off O4.out (by omega))
    have N4 := Lib.hid hown4
    obtain ⟨E, hE⟩ := PW.out.cells
    have G4 := Lib.hid (groups_off hE O4.out (fun h => HH.out.ne h.symm) (fun k hk hb => by omega))
    have RL := Lib.hid (show ∀ es clock, w4.heap[m2]? = some (.map es clock) → ∀ x ∈ es.toList, ∀ g, x.val.ownBlock = some g → g < w.heap.size from fun es' clock hb => by
      obtain ⟨E0, hE0⟩ := HH.out.cells
      refine rows_lt hE0 es' clock ?_
      rw [← hb, O4.out.block m2 (by have := GW.out.size; simp; omega) (fun h => HH.out.ne h.symm)]
      exact ((grow_drew GW.out).block m2 (by omega)).symm)
    have HGW := Lib.hid (grow_drew GW.out)
    have hz4 := O4.out.size
    have hzw := HGW.out.size
    have hzb : w.heap.size ≤ w4.heap.size := Nat.le_trans hzw hz4
    clear k1 k2 lg lb b0 hown4 hgrow4 hE
    have KG5 := Lib.hid A4.out.1.drew
    have k3 := KG5.out.cell 3
    have k2 := KG5.out.cell 2
    have lg := KG5.out.lt
    have KS5 := Lib.hid KS4.out.drew
    have s0 := KS5.out.cell 0
    have s1 := KS5.out.cell 1
    have s2 := KS5.out.cell 2
    have s3 := KS5.out.cell 3
    have ls := KS5.out.lt
    simp only [List.getElem?_toArray, List.getElem?_cons_zero, List.getElem?_cons_succ] at k3 k2 s0 s1 s2 s3
    obtain ⟨kl, hkl⟩ := keyOf_sp ⟨cf, cl, cx, cy⟩ CW.out.1 CW.out.2.1 CW.out.2.2.1 CW.out.2.2.2
    unfold spV at hkl
    simp only at hkl
    have GX := Lib.hid (fun X (hX : Below w4.heap.size w4 X) => groups_off (X := fun _ => False) G4.out (Off.of_below hX) (fun f => f) (fun _ f => f.elim))
    refine Grow.wp_region_plan (.quiet [0, 1, 2, 5, 6, 7] (.reads [3, 4, 8] (.one 9 (.one 10 (.one 11 (.quiet [12, 14] (.tail [13, 15]))))))) (by kernel_rfl) (by kernel_rfl) (by kernel_rfl) (by kernel_rfl) ?_ ?_
    · intro c aa d v ww h
      first
        | exact Grow.bodyPost_blind h
        | (simp (config := {zetaDelta := true}) only [Exit.then, Exit.inBlock] at h ⊢; first | exact Grow.bodyPost_blind h | exact h)
    simp only [Grow.Plan.wp, Grow.pick, List.getElem?_cons_zero, List.getElem?_cons_succ, List.cons_append, List.nil_append]
    repeat (go_big_quiet_step (fail))
    refine wpQuiet_nil ?_
    repeat (go_big_quiet_step (fail))
    refine wpQuiet_nil ?_
    unfold oneK
    go_wp2_with (first
      | (refine entry_here _ rfl _ _ 99 rfl lawSp Tryz.underlying99 zeroInts (by unfold maxLen; omega) rfl (GX.out _ (by (repeat (with_reducible first | exact grow_refl _ | refine Grow.grow_drew ?_ | refine Grow.grow_alloc ?_ _)))) _ kl rfl hkl ?_; intro v0 zs st wa hga hsz hoi hzl hNo hback))
    repeat (go_big_quiet_step (fail))
    refine wpQuiet_nil ?_
    have OA := Lib.hid (show Off (fun k => k = m2) w4 wa from (Off.of_below (X := fun k => k = m2) (by (repeat (with_reducible first | exact grow_refl _ | refine Grow.grow_drew ?_ | refine Grow.grow_alloc ?_ _)))).trans (Off.grown (X := fun k => k = m2) hga (fun k h => by cases h; rfl)))
    have KN := Lib.hid (((Known.new w4 #[.int .i64 es.length] 3).drew).off (Off.grown (X := fun k => k = m2) hga (fun k h => by cases h; rfl)) (by omega))
    have VB := Lib.hid (hNo w.heap.size (fun es' clock hb => RL.out es' clock (by
      rw [← hb]
      refine (Off.block (X := fun _ => False) (Off.of_below ?_) m2 (by omega) (fun f => f)).symm
      (repeat (with_reducible first | exact grow_refl _ | refine Grow.grow_drew ?_ | refine Grow.grow_alloc ?_ _)))))
    have VI := Lib.hid hoi
    have HK := Lib.hid hback
    have hza := OA.out.size
    clear hga hNo hback hoi GX RL
    have c3 := Lib.hid (show zs.length + 1 ≤ maxLen by unfold maxLen; omega)
    have c4 := Lib.hid (show (zs.length + 1) * 8 ≤ 140737488355328 by omega)
    have c5 := Lib.hid (show B ≤ wa.heap.size from Nat.le_trans hB (Nat.le_trans hzb hza))
    go_wp2_with (first
      | (at_builtin; refine wpList_append_own_at _ rfl _ _ 70 rfl B 3 j0 (.int .i64 0) 1 8 Tryz.underlying70 JI.out JZ0.out JZ1.out JZ2.out rfl (by decide) v0 zs.length (zs.map (Value.int .i64)) rfl VI.out.1 ⟨w4.heap.size, 0, none⟩ 1 1 [.int .i64 es.length] rfl rfl (news_of KN.out) (by intro u hu; simp at hu; subst hu; rfl) c3.out c4.out c5.out ?_; intro v6 w6 hown6 hg6 hnil6 hat6; obtain ⟨w7, D7, hrun7, hD7, hg7⟩ := HK.out w6 v6 (zs ++ [(es.length : Int)]) hg6 (VI.out.appended hown6 (WalkArith.wf_i64 (by omega))) (by simp; omega) (by rcases hat6 with h | h; exact .inl h; exact .inr ⟨_, h, Nat.le_of_eq hsz.symm⟩); clear hnil6 hat6)
      | (refine store_here _ rfl _ _ _ 99 rfl rfl rfl rfl hrun7 ?_))
    simp only [Act.put, List.setIfInBounds_toArray, List.set_cons_succ, List.set_cons_zero]
    have b2 : B ≤ w4.heap.size := Nat.le_trans hB hzb
    have IA := Lib.hid (show ∀ k, v0.ownBlock = some k → B ≤ k ∧ k < w.heap.size ∧ ∃ cur, wa.heap[k]? = some (.cells cur 3) from fun k hk => by
      obtain ⟨h1, _, h3⟩ := owns_blockT VI.out.1 hk
      exact ⟨h1, VB.out k hk, h3⟩)
    have O6 := Lib.hid (Off.grown (X := fun k => v0.ownBlock = some k) hg6 (fun k h => h))
    have O7 := Lib.hid (Off.grown (X := fun k => k = m2) hg7 (fun k h => by cases h; rfl))
    clear hg6 hg7
    have A5 := Lib.hid (A4.out.off OA.out HH.out.ne2 (fun k hk hx => by have := (owns_block A4.out.2.2.2 hk).1; omega))
    have A6 := Lib.hid (A5.out.off O6.out (fun hx => by have := (IA.out _ hx).1; omega) (fun k hk hx => by
      obtain ⟨_, _, cur, h1⟩ := owns_blockT A5.out.2.2.2 hk
      obtain ⟨_, _, cur2, h2⟩ := IA.out k hx
      rw [h1] at h2
      simp at h2))
    have A7 := Lib.hid ((A6.out.off O7.out HH.out.ne2 (fun k hk hx => by have := (owns_block A6.out.2.2.2 hk).1; omega)).off (X := fun _ => False) (Off.of_below (grow_drew (grow_refl w7))) (fun f => f) (fun _ _ f => f))
    have KB7 := Lib.hid ((((KB5.out.off OA.out (by omega)).off O6.out (fun hx => by have := (IA.out _ hx).2.1; omega)).off O7.out (by omega)).drew)
    have N7 := Lib.hid (map_off (X := fun _ => False) (map_off (map_off (map_off N4.out OA.out HH.out.ne) O6.out (fun hx => by have := (IA.out _ hx).1; omega)) O7.out HH.out.ne) (Off.of_below (grow_drew (grow_refl w7))) (fun f => f))
    have C7 := Lib.hid (groups_off (X := fun _ => False) hD7 (Off.of_below (grow_drew (grow_refl w7))) (fun f => f) (fun _ f => f.elim))
    have OW7 := Lib.hid (show Off (PSet w B g m1 m2 (.slice r es.length cap)) w w7.drew from by
      have h1 : Off (PSet w B g m1 m2 (.slice r es.length cap)) w wa := ((Off.of_below HGW.out).trans (O4.out.mono fun k h => .inr (.inl h))).trans (OA.out.mono fun k h => .inr (.inr (.inl h)))
      have h0 : Off (fun k => k = m1 ∨ k = m2) w wa := ((Off.of_below HGW.out).trans (O4.out.mono fun k h => .inl h)).trans (OA.out.mono fun k h => .inr h)
      have h2 : Off (PSet w B g m1 m2 (.slice r es.length cap)) wa w6 := O6.out.mono fun k h => by
        obtain ⟨x1, x2, cur, x3⟩ := IA.out k h
        refine .inr (.inr (.inr (.inr ⟨x1, cur, ?_⟩)))
        rw [← h0.block k x2 (by omega)]
        exact x3
      exact ((h1.trans h2).trans (O7.out.mono fun k h => .inr (.inr (.inl h)))).drew)
    have hz7 : w.heap.size ≤ w7.drew.heap.size := OW7.out.size
    clear A4 A5 A6 KS KS4 KS5 KB3 KB4 KB5 KG3 KG5 N4 G4 OA KN VB VI HK hrun7 hown6 hD7 k2 k3 lg s0 s1 s2 s3 ls hkl JI JZ0 JZ1 JZ2 IA
    have OW9 := Lib.hid OW.out.isMap
    clear OW
    have x2 := A7.out.1.cell 2
    have xl := A7.out.1.lt
    have y0 := KB7.out.cell 0
    have y1 := KB7.out.cell 1
    have y2 := KB7.out.cell 2
    have y3 := KB7.out.cell 3
    have y4 := KB7.out.cell 4
    have yl := KB7.out.lt
    simp only [List.getElem?_toArray, List.getElem?_cons_zero, List.getElem?_cons_succ] at x2 y0 y1 y2 y3 y4
    have OX := Lib.hid (fun (o : Obj) => A7.out.2.2.2.alloc o)
    have C3 := Lib.hid (show es.length + 1 ≤ maxLen by unfold maxLen; omega)
    have C4 := Lib.hid (show (es.length + 1) * 48 ≤ 140737488355328 by omega)
    have C5 := Lib.hid (fun (o : Obj) => show B ≤ (w7.drew.alloc o).heap.size from Nat.le_trans hB (Nat.le_trans hz7 (by simp)))
    refine Grow.wp_region_plan (.quiet [0, 1, 2, 3] (.reads [5] (.two 4 (.tail [6, 7, 8, 9, 10]) 6 (.tail [4, 7, 8, 9, 10])))) (by kernel_rfl) (by kernel_rfl) (by kernel_rfl) (by kernel_rfl) ?_ ?_
    · intro c aa d v ww h
      first
        | exact Grow.bodyPost_blind h
        | (simp (config := {zetaDelta := true}) only [Exit.then, Exit.inBlock] at h ⊢; first | exact Grow.bodyPost_blind h | exact h)
    simp only [Grow.Plan.wp, Grow.pick, List.getElem?_cons_zero, List.getElem?_cons_succ, List.cons_append, List.nil_append]
    clear O7 O6
    generalize w7.drew = w9 at *
    repeat (go_big_quiet_step (fail))
    refine wpQuiet_nil ?_
    repeat (go_big_quiet_step (fail))
    refine wpQuiet_nil ?_
    unfold oneK
    refine ⟨?_, ?_⟩
    · go_wp2_with (at_builtin; refine wpList_append_own _ rfl _ _ 98 rfl B 93 i0 (.agg #[.string .empty, .int .i64 0, .int .i64 0, .int .i64 0, .int .i64 0]) 5 48 Tryz.underlying98 HI.out HZ0.out HZ1.out HZ2.out rfl (by decide) _ _ _ rfl (OX.out _) ⟨w9.heap.size, 0, none⟩ 1 1 (enC e) rfl rfl (news_en _ _ _) (en_cell _) C3.out C4.out (C5.out _) ?_)
      intro v' w8 hown' hg' _
      have OF := Lib.hid (Off.grown (X := fun k => (Value.slice r es.length cap).ownBlock = some k) hg' (fun k h => h))
      have OW := Lib.hid hown'
      clear hown' hg'
      obtain ⟨r', cap', rfl, _⟩ := ens_of_owns (p := es ++ [e]) (by rw [enL_append, show enL [e] = enC e by simp [enL]]; exact OW.out)
      have OT := Lib.hid (show Off (fun k => (Value.slice r es.length cap).ownBlock = some k) w9 w8 from (Off.of_below (by (repeat (with_reducible first | exact grow_refl _ | refine Grow.grow_drew ?_ | refine Grow.grow_alloc ?_ _)))).trans OF.out)
      have KY := Lib.hid (A7.out.1.off OT.out (fun hx => by have := (owns_block A7.out.2.2.2 hx).1; omega))
      have k0 := KY.out.cell 2
      have f0 := KY.out.frozen 2
      have kl := KY.out.lt
      simp only [List.getElem?_toArray, List.getElem?_cons_zero, List.getElem?_cons_succ] at k0
      go_wp2
      go_ret
      have OS := fun v => Lib.hid (Off.setCell (X := fun k => (Value.slice r es.length cap).ownBlock = some k ∨ k = g) (OT.out.mono fun k h => .inl h) (.inr rfl) 2 v)
      refine ⟨by rw [HE.out]; rfl, (OW7.out.trans (OT.out.mono fun k h => .inr (.inr (.inr (.inl h))))).setCell (.inl rfl) 2 _, .slice r' (es ++ [e]).length cap', ?_⟩
      have hL : addL es e = es ++ [e] := by unfold addL; rw [if_pos HE.out]
      have OZ := owns_off (X := fun k => k = g) OW.out (Off.setCell (X := fun k => k = g) (Off.refl _ _) rfl 2 (.slice r' (es ++ [e]).length cap')) (fun k hk hx => by have := (owns_block OW.out hk).1; omega)
      have nx : ∀ {m : Nat}, m < B → g ≠ m → ¬ ((Value.slice r es.length cap).ownBlock = some m ∨ m = g) := fun {m} hm hne h => by
        rcases h with h | h
        · have := (owns_block A7.out.2.2.2 h).1; omega
        · exact hne h.symm
      rw [hL]
      refine ⟨⟨known_eqA (KY.out.same 2 _) (by simp), hg, ?_, ?_⟩, ⟨_, ?_, NM.out.put OW9.out e HNF.out⟩, ⟨D7, ?_⟩, h1B, HH.out.ne, HH.out.ne1, HH.out.ne2⟩
      · have := OF.out.size; have := C5.out (.cells #[] 0); have := OT.out.size; simp at *; omega
      · rw [enL_append, show enL [e] = enC e by simp [enL], List.length_append]
        rw [List.length_append] at OZ
        exact OZ
      · rw [List.length_append]
        exact map_off N7.out (OS _).out (nx h1B HH.out.ne1)
      · rw [List.length_append]
        refine groups_off C7.out (OS _).out (nx h2B HH.out.ne2) ?_
        intro k hk hb cur hx
        rcases hk with hk | hk
        · obtain ⟨_, _, cur2, h2⟩ := owns_blockT A7.out.2.2.2 hk
          rw [h2] at hx
          simp at hx
        · omega
    · go_wp2_with (at_builtin; refine wpList_append_own _ rfl _ _ 98 rfl B 93 i0 (.agg #[.string .empty, .int .i64 0, .int .i64 0, .int .i64 0, .int .i64 0]) 5 48 Tryz.underlying98 HI.out HZ0.out HZ1.out HZ2.out rfl (by decide) _ _ _ rfl (OX.out _) ⟨w9.heap.size, 0, none⟩ 1 1 (enC e) rfl rfl (news_en _ _ _) (en_cell _) C3.out C4.out (C5.out _) ?_)
      intro v' w8 hown' hg' _
      have OF := Lib.hid (Off.grown (X := fun k => (Value.slice r es.length cap).ownBlock = some k) hg' (fun k h => h))
      have OW := Lib.hid hown'
      clear hown' hg'
      obtain ⟨r', cap', rfl, _⟩ := ens_of_owns (p := es ++ [e]) (by rw [enL_append, show enL [e] = enC e by simp [enL]]; exact OW.out)
      have OT := Lib.hid (show Off (fun k => (Value.slice r es.length cap).ownBlock = some k) w9 w8 from (Off.of_below (by (repeat (with_reducible first | exact grow_refl _ | refine Grow.grow_drew ?_ | refine Grow.grow_alloc ?_ _)))).trans OF.out)
      have KY := Lib.hid (A7.out.1.off OT.out (fun hx => by have := (owns_block A7.out.2.2.2 hx).1; omega))
      have k0 := KY.out.cell 2
      have f0 := KY.out.frozen 2
      have kl := KY.out.lt
      simp only [List.getElem?_toArray, List.getElem?_cons_zero, List.getElem?_cons_succ] at k0
      go_wp2
      go_ret
      have OS := fun v => Lib.hid (Off.setCell (X := fun k => (Value.slice r es.length cap).ownBlock = some k ∨ k = g) (OT.out.mono fun k h => .inl h) (.inr rfl) 2 v)
      refine ⟨by rw [HE.out]; rfl, (OW7.out.trans (OT.out.mono fun k h => .inr (.inr (.inr (.inl h))))).setCell (.inl rfl) 2 _, .slice r' (es ++ [e]).length cap', ?_⟩
      have hL : addL es e = es ++ [e] := by unfold addL; rw [if_pos HE.out]
      have OZ := owns_off (X := fun k => k = g) OW.out (Off.setCell (X := fun k => k = g) (Off.refl _ _) rfl 2 (.slice r' (es ++ [e]).length cap')) (fun k hk hx => by have := (owns_block OW.out hk).1; omega)
      have nx : ∀ {m : Nat}, m < B → g ≠ m → ¬ ((Value.slice r es.length cap).ownBlock = some m ∨ m = g) := fun {m} hm hne h => by
        rcases h with h | h
        · have := (owns_block A7.out.2.2.2 h).1; omega
        · exact hne h.symm
      rw [hL]
      refine ⟨⟨known_eqA (KY.out.same 2 _) (by simp), hg, ?_, ?_⟩, ⟨_, ?_, NM.out.put OW9.out e HNF.out⟩, ⟨D7, ?_⟩, h1B, HH.out.ne, HH.out.ne1, HH.out.ne2⟩
      · have := OF.out.size; have := C5.out (.cells #[] 0); have := OT.out.size; simp at *; omega
      · rw [enL_append, show enL [e] = enC e by simp [enL], List.length_append]
        rw [List.length_append] at OZ
        exact OZ
      · rw [List.length_append]
        exact map_off N7.out (OS _).out (nx h1B HH.out.ne1)
      · rw [List.length_append]
        refine groups_off C7.out (OS _).out (nx h2B HH.out.ne2) ?_
        intro k hk hb cur hx
        rcases hk with hk | hk
        · obtain ⟨_, _, cur2, h2⟩ := owns_blockT A7.out.2.2.2 hk
          rw [h2] at hx
          simp at hx
        · omega
end Go.Proofs.YtlnbeildplafbaaGreatDoor
