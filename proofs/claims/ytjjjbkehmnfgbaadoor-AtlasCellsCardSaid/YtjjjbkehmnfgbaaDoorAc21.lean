/- Cells of directions: the program's Add of any entry; its names in a cell. -/
import Derived.Test.YtjjjbkehmnfgbaaDoorAc20
import Derived.Test.YtjjjbkehmnfgbaaDoorAc18
set_option linter.unusedSimpArgs false
set_option linter.unusedVariables false
namespace Go.Proofs.YtjjjbkehmnfgbaaDoor
open Go.RowKit Go.Grow Go.Atl

theorem padd_walk (a : Nat → Addr) (w : World) (B g m1 m2 : Nat) (L : Nat) (es : List En) (v : Value) (e : En) (hs : Sen a [2, 5, 10] w) (h : PAt w B g m1 m2 L es v) (hn : e.name.size ≤ maxLen) (hl : es.length < 4000) (hL : L ≤ 12) :
    Calls Tryd.prog 59 #[.pointer (some ⟨g, 0, none⟩), anV e] w fun en' w' => PAdd a w B g m1 m2 L es v e en' w' := by
  cases hx : hadUp e es es.length
  · cases hd : isDir e.at'
    · exact padd_shape a w B g m1 m2 L es v e hs h hn hx hd
    · exact padd_good a w B g m1 m2 L es v e h hn hx hd hl hL
  · exact padd_name a w B g m1 m2 L es v e hs h hn hx
/-- What the sort of a row of names is to leave. -/
def Sorts (f : Nat) : Prop := ∀ (X : World) (base : Nat) (v : Value) (l m : List ByteArray), X.ownsRow base 9 1 v l.length (stL l) → l.length ≤ 4000 → m.map ByteArray.toList = (l.map ByteArray.toList).mergeSort (fun x y => decide (x ≤ y)) → Calls Tryd.prog f #[v] X fun e w' => e = .returned (.tuple #[]) ∧ w'.ownsRow base 9 1 v m.length (stL m) ∧ X.grownBy w' v.ownBlock
theorem outUp_len (es : List En) (s : Sp) (L : Nat) : ∀ k, (outUp es s L k).length ≤ k
  | 0 => Nat.le_refl _
  | k + 1 => by
    have := outUp_len es s L k
    unfold outUp
    split
    · rw [List.length_append, List.length_singleton]; omega
    · omega
set_option maxRecDepth 100000 in
set_option maxHeartbeats 32000000 in
theorem pIn_no (w : World) (B g m1 m2 : Nat) (L : Nat) (es : List En) (v : Value) (s : Sp) (h : PAt w B g m1 m2 L es v) (hno : validS s = false ∨ (L : Int) < s.level) :
    Calls Tryd.prog 26 #[.pointer (some ⟨g, 0, none⟩), spV s] w fun en' w' => en' = .returned (.slice none 0 0) ∧ Below w.heap.size w w' := by
  have VW := Lib.hid (fun X => valid_spot s X)
  obtain ⟨f, l, c, rw_⟩ := s
  unfold spV at *
  simp only at hno VW ⊢
  have KG := Lib.hid (h.at'.1.alloc (.cells #[.int .i64 f, .int .i64 l, .int .i64 c, .int .i64 rw_] 51))
  have KB := Lib.hid (Known.new w #[.int .i64 f, .int .i64 l, .int .i64 c, .int .i64 rw_] 51)
  clear h
  cases hv : validS ⟨f, l, c, rw_⟩
  · rw [hv] at VW
    go_enter Tryd.func26, Tryd.ntmps26
    go_wp2
    refine Grow.wp_region_plan (.one 0 (.one 1 (.quiet [2, 3, 4, 6, 7, 8] (.reads [5, 9] (.quiet [10, 11] (.tail [])))))) (by kernel_rfl) (by kernel_rfl) (by kernel_rfl) (by kernel_rfl) ?_ ?_
    · intro c aa d v ww h
      first
        | exact Grow.bodyPost_blind h
        | (simp (config := {zetaDelta := true}) only [Exit.then, Exit.inBlock] at h ⊢; first | exact Grow.bodyPost_blind h | exact h)
    simp only [Grow.Plan.wp, Grow.pick, List.getElem?_cons_zero, List.getElem?_cons_succ, List.cons_append, List.nil_append]
    unfold oneK
    go_wp2_with (go_at_call 24; (with_reducible refine (VW.out _).mono ?_); rintro e2 w2 ⟨rfl, hb⟩; have HB2 := Lib.hid (grow_trans (grow_drew (grow_alloc (grow_refl w) _)) hb); have KG2 := Lib.hid (KG.out.drew.below hb); have KB2 := Lib.hid (KB.out.drew.below hb); clear hb; have k0 := KG2.out.cell 0; have lg := KG2.out.lt; have b1 := KB2.out.cell 1; have lb := KB2.out.lt; simp only [List.getElem?_toArray, List.getElem?_cons_zero, List.getElem?_cons_succ] at k0 b1)
    repeat (go_big_quiet_step (fail))
    refine wpQuiet_nil ?_
    repeat (go_big_quiet_step (fail))
    refine wpQuiet_nil ?_
    repeat (go_big_quiet_step (fail))
    refine wpQuiet_nil ?_
    go_wp2
    go_ret
    exact ⟨rfl, HB2.out⟩
  · rw [hv] at VW
    have d0 : decide ((L : Int) < l) = true := decide_eq_true (by rcases hno with h | h; rw [hv] at h; cases h; exact h)
    clear hno
    go_enter Tryd.func26, Tryd.ntmps26
    go_wp2
    refine Grow.wp_region_plan (.one 0 (.one 1 (.quiet [2, 3, 4, 6, 7, 8] (.reads [5, 9] (.quiet [10, 11] (.tail [])))))) (by kernel_rfl) (by kernel_rfl) (by kernel_rfl) (by kernel_rfl) ?_ ?_
    · intro c aa d v ww h
      first
        | exact Grow.bodyPost_blind h
        | (simp (config := {zetaDelta := true}) only [Exit.then, Exit.inBlock] at h ⊢; first | exact Grow.bodyPost_blind h | exact h)
    simp only [Grow.Plan.wp, Grow.pick, List.getElem?_cons_zero, List.getElem?_cons_succ, List.cons_append, List.nil_append]
    unfold oneK
    go_wp2_with (go_at_call 24; (with_reducible refine (VW.out _).mono ?_); rintro e2 w2 ⟨rfl, hb⟩; have HB2 := Lib.hid (grow_trans (grow_drew (grow_alloc (grow_refl w) _)) hb); have KG2 := Lib.hid (KG.out.drew.below hb); have KB2 := Lib.hid (KB.out.drew.below hb); clear hb; have k0 := KG2.out.cell 0; have lg := KG2.out.lt; have b1 := KB2.out.cell 1; have lb := KB2.out.lt; simp only [List.getElem?_toArray, List.getElem?_cons_zero, List.getElem?_cons_succ] at k0 b1)
    repeat (go_big_quiet_step (fail))
    refine wpQuiet_nil ?_
    repeat (go_big_quiet_step (fail))
    refine wpQuiet_nil ?_
    repeat (go_big_quiet_step (fail))
    refine wpQuiet_nil ?_
    go_wp2
    go_ret
    exact ⟨rfl, HB2.out⟩
def PInRel (es : List En) (s : Sp) (L : Nat) (W1 : World) (v5 v27 : Value) (wr : World) : Prop :=
  ∃ k : Nat, k ≤ es.length ∧ v27 = .int .i64 k ∧ wr.ownsRow W1.heap.size 9 1 v5 (outUp es s L k).length (stL (outUp es s L k)) ∧ Below W1.heap.size W1 wr
set_option maxRecDepth 100000 in
set_option maxHeartbeats 32000000 in
theorem pIn_walk (w : World) (B g m1 m2 : Nat) (lev : Nat) (es : List En) (v : Value) (f c rw_ : Int) (L : Nat) (h : PAt w B g m1 m2 lev es v) (hl : es.length ≤ 4000) (hL : L ≤ 12) (hlev : L ≤ lev) (hv : validS ⟨f, L, c, rw_⟩ = true) (hd : ∀ k, k < es.length → isDir (en es k).at' = true) (SW : Sorts 62) :
    Calls Tryd.prog 26 #[.pointer (some ⟨g, 0, none⟩), spV ⟨f, L, c, rw_⟩] w fun en' w' => ∃ v', en' = .returned v' ∧ w'.ownsRow w.heap.size 9 1 v' (inUp es ⟨f, L, c, rw_⟩ L es.length).length (stL (inUp es ⟨f, L, c, rw_⟩ L es.length)) ∧ Below w.heap.size w w' := by
  have HDR := Lib.hid hd
  have HSW := Lib.hid SW
  have VW := Lib.hid (fun X => valid_spot ⟨f, L, c, rw_⟩ X)
  rw [hv] at VW
  clear hd SW hv
  obtain ⟨i0, hi, hz0, hz1, hz2⟩ := info_parts info_st
  have HI := Lib.hid hi
  have HZ0 := Lib.hid hz0
  have HZ1 := Lib.hid hz1
  have HZ2 := Lib.hid hz2
  clear hi hz0 hz1 hz2
  obtain ⟨r, cap, rfl, hr⟩ := ens_of_owns h.at'.2.2.2
  have KG := Lib.hid (h.at'.1.alloc (.cells #[.int .i64 f, .int .i64 L, .int .i64 c, .int .i64 rw_] 51))
  have KB := Lib.hid (Known.new w #[.int .i64 f, .int .i64 L, .int .i64 c, .int .i64 rw_] 51)
  have ER0 := Lib.hid hr
  have hgw : g < w.heap.size := by have := h.at'.2.1; have := h.at'.2.2.1; omega
  clear hr h
  have d0 : decide ((lev : Int) < (L : Int)) = false := decide_eq_false (by omega)
  have d1 : decide (lev < L) = false := decide_eq_false (by omega)
  unfold spV at VW ⊢
  simp only at VW ⊢
  go_enter Tryd.func26, Tryd.ntmps26
  go_wp2
  refine Grow.wp_region_plan (.one 0 (.one 1 (.quiet [2, 3, 4, 6, 7, 8] (.reads [5, 9] (.quiet [10, 11] (.tail [])))))) (by kernel_rfl) (by kernel_rfl) (by kernel_rfl) (by kernel_rfl) ?_ ?_
  · intro c aa d v ww h
    first
      | exact Grow.bodyPost_blind h
      | (simp (config := {zetaDelta := true}) only [Exit.then, Exit.inBlock] at h ⊢; first | exact Grow.bodyPost_blind h | exact h)
  simp only [Grow.Plan.wp, Grow.pick, List.getElem?_cons_zero, List.getElem?_cons_succ, List.cons_append, List.nil_append]
  unfold oneK
  go_wp2_with (go_at_call 24; (with_reducible refine (VW.out _).mono ?_); rintro e2 w2 ⟨rfl, hb⟩; have HB2 := Lib.hid (grow_trans (grow_drew (grow_alloc (grow_refl w) _)) hb); have KG2 := Lib.hid (KG.out.drew.below hb); have KB2 := Lib.hid (KB.out.drew.below hb); clear hb; have k0 := KG2.out.cell 0; have k2 := KG2.out.cell 2; have lg := KG2.out.lt; have b1 := KB2.out.cell 1; have lb := KB2.out.lt; simp only [List.getElem?_toArray, List.getElem?_cons_zero, List.getElem?_cons_succ] at k0 k2 b1)
  repeat (go_big_quiet_step (fail))
  refine wpQuiet_nil ?_
  repeat (go_big_quiet_step (fail))
  refine wpQuiet_nil ?_
  repeat (go_big_quiet_step (fail))
  refine wpQuiet_nil ?_
  go_wp2
  have ER2 := Lib.hid (ER0.out.below HB2.out)
  clear KG KB ER0
  go_loopw [5, 27] (fun v5 v27 wr => PInRel es ⟨f, L, c, rw_⟩ L w2 v5 v27 wr) (fun _ i _ => es.length - (intOf i).toNat)
  case atStart => exact ⟨0, Nat.zero_le _, rfl, World.ownsRow_nil _ _ _ _, Below.refl _ _⟩
  case round =>
    obtain ⟨k, hk, rfl, hown, hg⟩ := hrel
    have O := Lib.hid hown
    have G := Lib.hid hg
    clear hown hg
    have KB := Lib.hid (KB2.out.below G.out)
    have ER := Lib.hid (ER2.out.below G.out)
    have s1 := KB.out.cell 1
    have lb := KB.out.lt
    simp only [List.getElem?_toArray, List.getElem?_cons_zero, List.getElem?_cons_succ] at s1
    by_cases hlt : k < es.length
    · have hi0 : (0 : Int) ≤ (k : Int) := by omega
      have hi1 : (k : Int) < (es.length : Int) := by omega
      obtain ⟨bb, oo, rfl, hc⟩ := ER.out.resolve_left (by intro h; rw [h] at hlt; exact absurd hlt (by simp))
      obtain ⟨e0, e1, e2, e3, e4⟩ := hc k hlt
      have lbb : bb < wr.heap.size := lt_of_cellE e0
      have CW := Lib.hid (fun X => cellOf_good (en es k).at' L X (HDR.out k hlt) hL)
      have HS := Lib.hid (show outUp es ⟨f, L, c, rw_⟩ L (k + 1) = if cellAt (en es k).at' L = ⟨f, L, c, rw_⟩ then outUp es ⟨f, L, c, rw_⟩ L k ++ [(en es k).name] else outUp es ⟨f, L, c, rw_⟩ L k from rfl)
      have hul := outUp_len es ⟨f, L, c, rw_⟩ L k
      clear hc
      generalize en es k = ee at *
      obtain ⟨nm, ⟨x, y, z⟩, lt⟩ := ee
      simp only at e0 e1 e2 e3 e4 HS CW
      unfold drV at CW
      simp only at CW
      generalize cellAt ⟨x, y, z⟩ L = cc at *
      obtain ⟨cf, cl, cx, cy⟩ := cc
      unfold spV at CW
      simp only at CW
      have HBX := Lib.hid (fun (o : Obj) => grow_alloc (grow_refl wr) o)
      have KE := Lib.hid (Known.new wr #[.string nm, .int .i64 x, .int .i64 y, .int .i64 z, .int .i64 lt] 131)
      obtain ⟨r5, c5, rfl, _, _, _, _⟩ := str_of_owns2 O.out
      have hge := G.out.size
      have C3 := Lib.hid (show (outUp es ⟨f, L, c, rw_⟩ L k).length + 1 ≤ maxLen by unfold maxLen; omega)
      have C4 := Lib.hid (show ((outUp es ⟨f, L, c, rw_⟩ L k).length + 1) * 16 ≤ 140737488355328 by omega)
      by_cases hcc : cf = f ∧ cl = L ∧ cx = c ∧ cy = rw_
      · obtain ⟨rfl, rfl, rfl, rfl⟩ := hcc
        have HSP := Lib.hid (HS.out.trans (if_pos rfl))
        go_wp2_with (first
          | (go_at_call 20; (with_reducible refine (CW.out _).mono ?_); rintro e5 w3 ⟨rfl, hb⟩; have HB3 := Lib.hid (grow_trans (HBX.out _) hb); have KE3 := Lib.hid (KE.out.below hb); clear hb; have KB3 := Lib.hid (KB.out.below HB3.out); have q0 := KE3.out.cell 0; have lq := KE3.out.lt; have t0 := KB3.out.cell 0; have t1 := KB3.out.cell 1; have t2 := KB3.out.cell 2; have t3 := KB3.out.cell 3; have lt3 := KB3.out.lt; simp only [List.getElem?_toArray, List.getElem?_cons_zero, List.getElem?_cons_succ] at q0 t0 t1 t2 t3; have OX := Lib.hid (fun (o o2 : Obj) => owns_off (X := fun _ => False) O.out (Off.of_below (grow_alloc (grow_alloc HB3.out o) o2)) (fun _ _ f => f)); have CB := Lib.hid (fun (o o2 : Obj) => show w2.heap.size ≤ ((w3.alloc o).alloc o2).heap.size by have := HB3.out.size; simp; omega))
          | (at_builtin; refine wpList_append_own _ rfl _ _ 63 rfl w2.heap.size 9 i0 (.string .empty) 1 16 Tryd.underlying63 HI.out HZ0.out HZ1.out HZ2.out rfl (by decide) _ _ _ rfl (OX.out _ _) ⟨w3.heap.size + 1, 0, none⟩ 1 1 [.string nm] rfl rfl (by simpa using news_st (w3.alloc _) nm _) (st_cell _) C3.out C4.out (CB.out _ _) ?_; intro v6 w6 hown6 hg6 _))
        have OW6 := Lib.hid hown6
        have BW6 := Lib.hid (below_grownE (grow_trans G.out (grow_alloc (grow_alloc HB3.out _) _)) (CB.out _ _) hg6 (fun j hj => (owns_block O.out hj).1))
        clear hown6 hg6
        go_roundw
        case rel => exact ⟨k + 1, by omega, by go_num, by rw [HSP.out, stL_append, List.length_append]; exact OW6.out, BW6.out⟩
        case measure => simp [intOf]; omega
      · have HSN := Lib.hid (HS.out.trans (if_neg (fun h => hcc (by cases h; exact ⟨rfl, rfl, rfl, rfl⟩))))
        go_wp2_with (go_at_call 20; (with_reducible refine (CW.out _).mono ?_); rintro e5 w3 ⟨rfl, hb⟩; have HB3 := Lib.hid (grow_trans (HBX.out _) hb); have KE3 := Lib.hid (KE.out.below hb); clear hb; have KB3 := Lib.hid (KB.out.below HB3.out); have q0 := KE3.out.cell 0; have lq := KE3.out.lt; have t0 := KB3.out.cell 0; have t1 := KB3.out.cell 1; have t2 := KB3.out.cell 2; have t3 := KB3.out.cell 3; have lt3 := KB3.out.lt; simp only [List.getElem?_toArray, List.getElem?_cons_zero, List.getElem?_cons_succ] at q0 t0 t1 t2 t3)
        all_goals first
          | exact absurd ⟨by first | rfl | assumption, by first | rfl | assumption, by first | rfl | assumption, by first | rfl | assumption⟩ hcc
          | exact ⟨⟨k + 1, by omega, by go_num, by rw [HSN.out]; exact owns_off (X := fun _ => False) O.out (Off.of_below (grow_alloc HB3.out _)) (fun _ _ f => f), grow_trans G.out (grow_alloc HB3.out _)⟩, by simp [intOf]; omega⟩
    · obtain rfl : k = es.length := by omega
      have hul := outUp_len es ⟨f, L, c, rw_⟩ L es.length
      have SW := Lib.hid (HSW.out wr w2.heap.size _ _ _ O.out (by omega) (in_sorted es ⟨f, L, c, rw_⟩ L es.length))
      go_wp2_with (go_at_call 62; (with_reducible refine (SW.out).mono ?_); rintro e7 w7 ⟨rfl, hown7, hg7⟩; have OW7 := Lib.hid hown7; have HG7 := Lib.hid hg7; clear hown7 hg7)
      go_ret
      exact ⟨_, rfl, OW7.out.mono HB2.out.size, grow_trans HB2.out (below_grownE G.out G.out.size HG7.out (fun j hj => (owns_block O.out hj).1))⟩
end Go.Proofs.YtjjjbkehmnfgbaaDoor
