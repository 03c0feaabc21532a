/- Cells of directions: the document's Add. -/
import Derived.Test.YtlnbeildplafbaaGreatDoorAc11
set_option linter.unusedSimpArgs false
set_option linter.unusedVariables false
namespace Go.Proofs.YtlnbeildplafbaaGreatDoor
open Go.RowKit Go.Grow Go.Atl

/-- What Add of the document leaves. -/
def DAdd (w : World) (B g : Nat) (lev : Int) (es : List En) (v : Value) (e : En) (en' : Ending) (w' : World) : Prop :=
  en' = .returned (.int .i64 (addE es e : Nat)) ∧ Off (fun k => k = g ∨ v.ownBlock = some k) w w' ∧ ∃ v', DAt w' B g lev (addL es e) v'
theorem dadd_no {w w' : World} {B g : Nat} {lev : Int} {es : List En} {v : Value} {e : En} {x : Nat} (h : DAt w B g lev es v) (hx : addE es e = x) (h0 : x ≠ 0) (hb : Below w.heap.size w w') : DAdd w B g lev es v e (.returned (.int .i64 (x : Nat))) w' :=
  ⟨by rw [hx], Off.of_below hb, v, by
    unfold addL
    rw [if_neg (by rw [hx]; exact h0)]
    exact DAt.off (X := fun _ => False) h (Off.of_below hb) (fun f => f) (fun _ _ f => f)⟩
theorem news_en (w : World) (e : En) (t : TypeId) : ∀ j u, (enC e)[j]? = some u → (w.alloc (.cells #[.string e.name, .int .i64 e.at'.x, .int .i64 e.at'.y, .int .i64 e.at'.z, .int .i64 e.light] t)).cell? ((⟨w.heap.size, 0, none⟩ : Addr).add j) = some u := fun j u h => by
  have K := Known.new w #[.string e.name, .int .i64 e.at'.x, .int .i64 e.at'.y, .int .i64 e.at'.z, .int .i64 e.light] t
  have := K.cell j
  rw [show (⟨w.heap.size, 0, none⟩ : Addr).add j = ⟨w.heap.size, j, none⟩ by unfold Addr.add; split <;> simp_all, this]
  simpa [enC] using h
theorem en_cell (e : En) : ∀ u ∈ enC e, u.oneCell' = true := fun u h => by simp [enC] at h; rcases h with rfl | rfl | rfl | rfl | rfl <;> rfl
set_option maxRecDepth 100000 in
set_option maxHeartbeats 32000000 in
theorem dadd_walk (w : World) (B g : Nat) (lev : Int) (es : List En) (v : Value) (e : En) (h : DAt w B g lev es v) (hn : e.name.size ≤ maxLen) (hl : es.length ≤ 4000) :
    Calls Tryz.prog 38 #[.pointer (some ⟨g, 0, none⟩), enV e] w fun en' w' => DAdd w B g lev es v e en' w' := by
  obtain ⟨i0, hi, hz0, hz1, hz2⟩ := info_parts info_en
  have HI := Lib.hid hi
  have HZ0 := Lib.hid hz0
  have HZ1 := Lib.hid hz1
  have HZ2 := Lib.hid hz2
  clear hi hz0 hz1 hz2
  have HD := Lib.hid h
  have hgw : g < w.heap.size := by have := h.2.1; have := h.2.2.1; omega
  clear h
  obtain ⟨r, cap, rfl, hr⟩ := ens_of_owns HD.out.2.2.2
  have KG1 := Lib.hid (HD.out.1.alloc (.cells #[.string e.name, .int .i64 e.at'.x, .int .i64 e.at'.y, .int .i64 e.at'.z, .int .i64 e.light] 60))
  have KB1 := Lib.hid (Known.new w #[.string e.name, .int .i64 e.at'.x, .int .i64 e.at'.y, .int .i64 e.at'.z, .int .i64 e.light] 60)
  have ER1 := Lib.hid (hr.below (grow_alloc (grow_refl w) (.cells #[.string e.name, .int .i64 e.at'.x, .int .i64 e.at'.y, .int .i64 e.at'.z, .int .i64 e.light] 60)))
  have BW1 := Lib.hid (grow_alloc (grow_refl w) (.cells #[.string e.name, .int .i64 e.at'.x, .int .i64 e.at'.y, .int .i64 e.at'.z, .int .i64 e.light] 60))
  clear hr
  have DW := Lib.hid (fun X => isDirection_walk e.at' X)
  unfold maxLen at hn
  by_cases c1 : e.name = .empty
  · have H0 := Lib.hid (show hadUp e es 0 = true by rw [hadUp, decide_eq_true c1]; rfl)
    have d1 : e.name.toList.isEmpty = true := by rw [← decide_eq_emptyBytes]; exact decide_eq_true c1
    clear c1
    unfold enV
    go_enter Tryz.func38, Tryz.ntmps38
    go_wp2
    refine Grow.seal_wp ?_
    intro W1 hW1
    have KG1 := Lib.hid (show Known W1 g #[.int .i64 lev, .slice r es.length cap] from hW1.out ▸ KG1.out)
    have KB1 := Lib.hid (show Known W1 w.heap.size #[.string e.name, .int .i64 e.at'.x, .int .i64 e.at'.y, .int .i64 e.at'.z, .int .i64 e.light] from hW1.out ▸ KB1.out)
    have ER1 := Lib.hid (show EnsAt W1 r es from hW1.out ▸ ER1.out)
    have BW1 := Lib.hid (show Below w.heap.size w W1 from hW1.out ▸ BW1.out)
    clear hW1
    go_loopw [5, 6] (fun v5 v6 wr => ∃ (k : Nat) (b : Bool), k ≤ es.length ∧ v5 = .bool b ∧ v6 = .int .i64 k ∧ Hid (hadUp e es k = b) ∧ Below W1.heap.size W1 wr) (fun _ i _ => es.length - (intOf i).toNat)
    case atStart => exact ⟨0, true, Nat.zero_le _, rfl, rfl, H0, grow_refl _⟩
    case round =>
      obtain ⟨k, b, hk, rfl, rfl, HI0, hg⟩ := hrel
      have G := Lib.hid hg
      clear hg
      have KG := Lib.hid (KG1.out.below G.out)
      have KB := Lib.hid (KB1.out.below G.out)
      have ER := Lib.hid (ER1.out.below G.out)
      have g1 := KG.out.cell 1
      simp only [List.getElem?_toArray, List.getElem?_cons_zero, List.getElem?_cons_succ] at g1
      have b0 := KB.out.cell 0
      simp only [List.getElem?_toArray, List.getElem?_cons_zero, List.getElem?_cons_succ] at b0
      by_cases hlt : k < es.length
      · have hi0 : (0 : Int) ≤ (k : Int) := by omega
        have hi1 : (k : Int) < (es.length : Int) := by omega
        cases b
        · obtain ⟨b1, o1, rfl, hc⟩ := ER.out.resolve_left (by intro h; rw [h] at hlt; exact absurd hlt (by simp))
          obtain ⟨e0, _⟩ := hc k hlt
          have HS := Lib.hid (show hadUp e es (k + 1) = decide ((en es k).name = e.name) by rw [hadUp, HI0.out]; rfl)
          clear hc
          generalize (en es k).name = ni at e0 HS
          by_cases c3 : ni = e.name
          · have d3 : (ni.toList == e.name.toList) = true := by rw [toList_decE]; exact decide_eq_true c3
            have HX := Lib.hid (show hadUp e es (k + 1) = true by rw [HS.out]; exact decide_eq_true c3)
            clear c3
            go_wp2
            go_quiet (fail)
            go_wp2
            go_roundw
            case rel => exact ⟨k + 1, true, by omega, rfl, by go_num, HX, by (repeat (with_reducible first | exact G.out | refine Grow.grow_drewN ?_ _ | refine Grow.grow_drew ?_))⟩
            case measure => simp [intOf]; omega
          · have d3 : (ni.toList == e.name.toList) = false := by rw [toList_decE]; exact decide_eq_false c3
            have HX := Lib.hid (show hadUp e es (k + 1) = false by rw [HS.out]; exact decide_eq_false c3)
            clear c3
            go_wp2
            go_quiet (fail)
            go_wp2
            go_roundw
            case rel => exact ⟨k + 1, false, by omega, rfl, by go_num, HX, by (repeat (with_reducible first | exact G.out | refine Grow.grow_drewN ?_ _ | refine Grow.grow_drew ?_))⟩
            case measure => simp [intOf]; omega
        · have HX := Lib.hid (show hadUp e es (k + 1) = true by rw [hadUp, HI0.out]; rfl)
          go_wp2
          go_quiet (fail)
          go_wp2
          go_roundw
          case rel => exact ⟨k + 1, true, by omega, rfl, by go_num, HX, by (repeat (with_reducible first | exact G.out | refine Grow.grow_drewN ?_ _ | refine Grow.grow_drew ?_))⟩
          case measure => simp [intOf]; omega
      · obtain rfl : k = es.length := by omega
        cases b
        · have HA := Lib.hid (show addE es e = if isDir e.at' = false then 5 else if 4000 ≤ es.length then 2 else 0 by unfold addE; rw [HI0.out]; rfl)
          have b1 := KB.out.cell 1
          have b2 := KB.out.cell 2
          have b3 := KB.out.cell 3
          simp only [List.getElem?_toArray, List.getElem?_cons_zero, List.getElem?_cons_succ] at b1 b2 b3
          have DX := Lib.hid (fun X => DW.out X)
          unfold drV at DX
          cases hd : isDir e.at'
          · rw [hd] at DX
            have HE := Lib.hid (show addE es e = 5 by rw [HA.out, hd]; rfl)
            go_wp2_with (go_at_call 46; (with_reducible refine (DX.out _).mono ?_); rintro e2 w2 ⟨rfl, hb⟩; have HB2 := Lib.hid hb; clear hb)
            go_ret
            exact dadd_no HD.out HE.out (by decide) (grow_trans (grow_trans BW1.out G.out) HB2.out)
          · rw [hd] at DX
            by_cases c9 : 4000 ≤ es.length
            · have HE := Lib.hid (show addE es e = 2 by rw [HA.out, hd]; rw [if_neg (by decide), if_pos c9])
              have d9 : decide ((4000 : Int) ≤ (es.length : Int)) = true := decide_eq_true (by omega)
              go_wp2_with (go_at_call 46; (with_reducible refine (DX.out _).mono ?_); rintro e2 w2 ⟨rfl, hb⟩; have HB2 := Lib.hid hb; clear hb; have KG2 := Lib.hid (KG.out.below HB2.out); have g1 := KG2.out.cell 1; simp only [List.getElem?_toArray, List.getElem?_cons_zero, List.getElem?_cons_succ] at g1)
              go_ret
              exact dadd_no HD.out HE.out (by decide) (grow_trans (grow_trans BW1.out G.out) HB2.out)
            · have HE := Lib.hid (show addE es e = 0 by rw [HA.out, hd]; rw [if_neg (by decide), if_neg c9])
              have d9 : decide ((4000 : Int) ≤ (es.length : Int)) = false := decide_eq_false (by omega)
              go_wp2_with (go_at_call 46; (with_reducible refine (DX.out _).mono ?_); rintro e2 w2 ⟨rfl, hb⟩; have HB2 := Lib.hid hb; clear hb; have KG2 := Lib.hid (KG.out.below HB2.out); have KB2 := Lib.hid (KB.out.below HB2.out); have g1 := KG2.out.cell 1; have b0 := KB2.out.cell 0; have b1 := KB2.out.cell 1; have b2 := KB2.out.cell 2; have b3 := KB2.out.cell 3; have b4 := KB2.out.cell 4; have lg := KG2.out.lt; have lb := KB2.out.lt; simp only [List.getElem?_toArray, List.getElem?_cons_zero, List.getElem?_cons_succ] at g1 b0 b1 b2 b3 b4)
              refine Grow.wp_region_reads2 [0, 1, 2, 3] [5] [] 4 6 [6, 7, 8, 9, 10] [4, 7, 8, 9, 10] (by kernel_rfl) (by kernel_rfl) (by kernel_rfl) (by kernel_rfl) (by kernel_rfl) (by kernel_rfl) (by kernel_rfl) (by kernel_rfl) (by kernel_rfl) (by kernel_rfl) ?_ ?_
              · intro c aa d v ww h
                simp (config := {zetaDelta := true}) only [Exit.then, Exit.inBlock] at h ⊢
                exact Grow.bodyPost_blind h
              simp only [Grow.pick, List.getElem?_cons_zero, List.getElem?_cons_succ, List.cons_append, List.nil_append]
              repeat (go_big_quiet_step (fail))
              refine wpQuiet_nil ?_
              repeat (go_big_quiet_step (fail))
              refine wpQuiet_nil ?_
              repeat (go_big_quiet_step (fail))
              refine wpQuiet_nil ?_
              have gB : g < B := HD.out.2.1
              have BX := Lib.hid (grow_drew (grow_trans (grow_trans BW1.out G.out) HB2.out))
              have KX := Lib.hid KG2.out.drew
              clear g1 b0 b1 b2 b3 b4 KG2 KB2 lg lb HB2 KG KB ER G KG1 KB1 ER1 BW1
              generalize w2.drew = w4 at BX KX ⊢
              have OX := Lib.hid (owns_off (X := fun _ => False) HD.out.2.2.2 (Off.of_below BX.out) (fun _ _ f => f))
              have x1 := KX.out.cell 1
              have xl := KX.out.lt
              simp only [List.getElem?_toArray, List.getElem?_cons_zero, List.getElem?_cons_succ] at x1
              have C1 := BX.out.size
              have C2 := HD.out.2.2.1
              have C3 := Lib.hid (show es.length + 1 ≤ maxLen by unfold maxLen; omega)
              have C4 := Lib.hid (show (es.length + 1) * 48 ≤ 140737488355328 by omega)
              have C5 := Lib.hid (show B ≤ (w4.alloc (.cells #[Value.string e.name, .int .i64 e.at'.x, .int .i64 e.at'.y, .int .i64 e.at'.z, .int .i64 e.light] 60)).heap.size by simp; omega)
              refine ⟨?_, ?_⟩
              · go_wp2_with (at_builtin; refine wpList_append_own _ rfl _ _ 45 rfl B 60 i0 (.agg #[.string .empty, .int .i64 0, .int .i64 0, .int .i64 0, .int .i64 0]) 5 48 Tryz.underlying45 HI.out HZ0.out HZ1.out HZ2.out rfl (by decide) _ _ _ rfl (OX.out.alloc _) ⟨w4.heap.size, 0, none⟩ 1 1 (enC e) rfl rfl (news_en _ _ _) (en_cell _) C3.out C4.out C5.out ?_)
                intro v' w5 hown' hg' _
                have OF := Lib.hid (Off.grown (X := fun k => (Value.slice r es.length cap).ownBlock = some k) hg' (fun k h => h))
                have OW := Lib.hid hown'
                clear hown' hg'
                obtain ⟨r', cap', rfl, _⟩ := ens_of_owns (p := es ++ [e]) (by rw [enL_append, show enL [e] = enC e by simp [enL]]; exact OW.out)
                have KY := Lib.hid ((KX.out.alloc (.cells #[Value.string e.name, .int .i64 e.at'.x, .int .i64 e.at'.y, .int .i64 e.at'.z, .int .i64 e.light] 60)).off OF.out (fun hx => by have := (owns_block OX.out hx).1; omega))
                have k0 := KY.out.cell 0
                have k1 := KY.out.cell 1
                have f0 := KY.out.frozen 0
                have f1 := KY.out.frozen 1
                have kl := KY.out.lt
                simp only [List.getElem?_toArray, List.getElem?_cons_zero, List.getElem?_cons_succ] at k0 k1
                go_wp2
                go_ret
                refine ⟨by rw [HE.out]; rfl, ?_, .slice r' (es ++ [e]).length cap', ?_⟩
                · exact (((Off.of_below BX.out).alloc _).trans (OF.out.mono fun k h => .inr h)).setCell (.inl rfl) 1 _
                · have hL : addL es e = es ++ [e] := by unfold addL; rw [if_pos HE.out]
                  have OZ := owns_off (X := fun k => k = g) OW.out (Off.setCell (X := fun k => k = g) (Off.refl _ _) rfl 1 (.slice r' (es ++ [e]).length cap')) (fun k hk hx => by have := (owns_block OW.out hk).1; omega)
                  refine ⟨known_eqA (KY.out.same 1 _) (by simp), gB, ?_, ?_⟩
                  · have := OF.out.size; simp at this ⊢; omega
                  · rw [hL, enL_append, show enL [e] = enC e by simp [enL], List.length_append]
                    rw [List.length_append] at OZ
                    exact OZ
              · go_wp2_with (at_builtin; refine wpList_append_own _ rfl _ _ 45 rfl B 60 i0 (.agg #[.string .empty, .int .i64 0, .int .i64 0, .int .i64 0, .int .i64 0]) 5 48 Tryz.underlying45 HI.out HZ0.out HZ1.out HZ2.out rfl (by decide) _ _ _ rfl (OX.out.alloc _) ⟨w4.heap.size, 0, none⟩ 1 1 (enC e) rfl rfl (news_en _ _ _) (en_cell _) C3.out C4.out C5.out ?_)
                intro v' w5 hown' hg' _
                have OF := Lib.hid (Off.grown (X := fun k => (Value.slice r es.length cap).ownBlock = some k) hg' (fun k h => h))
                have OW := Lib.hid hown'
                clear hown' hg'
                obtain ⟨r', cap', rfl, _⟩ := ens_of_owns (p := es ++ [e]) (by rw [enL_append, show enL [e] = enC e by simp [enL]]; exact OW.out)
                have KY := Lib.hid ((KX.out.alloc (.cells #[Value.string e.name, .int .i64 e.at'.x, .int .i64 e.at'.y, .int .i64 e.at'.z, .int .i64 e.light] 60)).off OF.out (fun hx => by have := (owns_block OX.out hx).1; omega))
                have k0 := KY.out.cell 0
                have k1 := KY.out.cell 1
                have f0 := KY.out.frozen 0
                have f1 := KY.out.frozen 1
                have kl := KY.out.lt
                simp only [List.getElem?_toArray, List.getElem?_cons_zero, List.getElem?_cons_succ] at k0 k1
                go_wp2
                go_ret
                refine ⟨by rw [HE.out]; rfl, ?_, .slice r' (es ++ [e]).length cap', ?_⟩
                · exact (((Off.of_below BX.out).alloc _).trans (OF.out.mono fun k h => .inr h)).setCell (.inl rfl) 1 _
                · have hL : addL es e = es ++ [e] := by unfold addL; rw [if_pos HE.out]
                  have OZ := owns_off (X := fun k => k = g) OW.out (Off.setCell (X := fun k => k = g) (Off.refl _ _) rfl 1 (.slice r' (es ++ [e]).length cap')) (fun k hk hx => by have := (owns_block OW.out hk).1; omega)
                  refine ⟨known_eqA (KY.out.same 1 _) (by simp), gB, ?_, ?_⟩
                  · have := OF.out.size; simp at this ⊢; omega
                  · rw [hL, enL_append, show enL [e] = enC e by simp [enL], List.length_append]
                    rw [List.length_append] at OZ
                    exact OZ
        · have HE := Lib.hid (show addE es e = 10 by unfold addE; rw [if_pos HI0.out])
          go_wp2
          go_ret
          exact dadd_no HD.out HE.out (by decide) (grow_trans BW1.out G.out)
  · have d1 : e.name.toList.isEmpty = false := by rw [← decide_eq_emptyBytes]; exact decide_eq_false c1
    by_cases c2 : 40 < e.name.size
    · have d2 : decide ((40 : Int) < (e.name.size : Int)) = true := decide_eq_true (by omega)
      have d2' : decide (40 < e.name.size) = true := decide_eq_true c2
      have H0 := Lib.hid (show hadUp e es 0 = true by rw [hadUp, d2']; simp)
      unfold enV
      go_enter Tryz.func38, Tryz.ntmps38
      go_wp2
      refine Grow.seal_wp ?_
      intro W1 hW1
      have KG1 := Lib.hid (show Known W1 g #[.int .i64 lev, .slice r es.length cap] from hW1.out ▸ KG1.out)
      have KB1 := Lib.hid (show Known W1 w.heap.size #[.string e.name, .int .i64 e.at'.x, .int .i64 e.at'.y, .int .i64 e.at'.z, .int .i64 e.light] from hW1.out ▸ KB1.out)
      have ER1 := Lib.hid (show EnsAt W1 r es from hW1.out ▸ ER1.out)
      have BW1 := Lib.hid (show Below w.heap.size w W1 from hW1.out ▸ BW1.out)
      clear hW1
      go_loopw [5, 6] (fun v5 v6 wr => ∃ (k : Nat) (b : Bool), k ≤ es.length ∧ v5 = .bool b ∧ v6 = .int .i64 k ∧ Hid (hadUp e es k = b) ∧ Below W1.heap.size W1 wr) (fun _ i _ => es.length - (intOf i).toNat)
      case atStart => exact ⟨0, true, Nat.zero_le _, rfl, rfl, H0, grow_refl _⟩
      case round =>
        obtain ⟨k, b, hk, rfl, rfl, HI0, hg⟩ := hrel
        have G := Lib.hid hg
        clear hg
        have KG := Lib.hid (KG1.out.below G.out)
        have KB := Lib.hid (KB1.out.below G.out)
        have ER := Lib.hid (ER1.out.below G.out)
        have g1 := KG.out.cell 1
        simp only [List.getElem?_toArray, List.getElem?_cons_zero, List.getElem?_cons_succ] at g1
        have b0 := KB.out.cell 0
        simp only [List.getElem?_toArray, List.getElem?_cons_zero, List.getElem?_cons_succ] at b0
        by_cases hlt : k < es.length
        · have hi0 : (0 : Int) ≤ (k : Int) := by omega
          have hi1 : (k : Int) < (es.length : Int) := by omega
          cases b
          · obtain ⟨b1, o1, rfl, hc⟩ := ER.out.resolve_left (by intro h; rw [h] at hlt; exact absurd hlt (by simp))
            obtain ⟨e0, _⟩ := hc k hlt
            have HS := Lib.hid (show hadUp e es (k + 1) = decide ((en es k).name = e.name) by rw [hadUp, HI0.out]; rfl)
            clear hc
            generalize (en es k).name = ni at e0 HS
            by_cases c3 : ni = e.name
            · have d3 : (ni.toList == e.name.toList) = true := by rw [toList_decE]; exact decide_eq_true c3
              have HX := Lib.hid (show hadUp e es (k + 1) = true by rw [HS.out]; exact decide_eq_true c3)
              clear c3
              go_wp2
              go_quiet (fail)
              go_wp2
              go_roundw
              case rel => exact ⟨k + 1, true, by omega, rfl, by go_num, HX, by (repeat (with_reducible first | exact G.out | refine Grow.grow_drewN ?_ _ | refine Grow.grow_drew ?_))⟩
              case measure => simp [intOf]; omega
            · have d3 : (ni.toList == e.name.toList) = false := by rw [toList_decE]; exact decide_eq_false c3
              have HX := Lib.hid (show hadUp e es (k + 1) = false by rw [HS.out]; exact decide_eq_false c3)
              clear c3
              go_wp2
              go_quiet (fail)
              go_wp2
              go_roundw
              case rel => exact ⟨k + 1, false, by omega, rfl, by go_num, HX, by (repeat (with_reducible first | exact G.out | refine Grow.grow_drewN ?_ _ | refine Grow.grow_drew ?_))⟩
              case measure => simp [intOf]; omega
          · have HX := Lib.hid (show hadUp e es (k + 1) = true by rw [hadUp, HI0.out]; rfl)
            go_wp2
            go_quiet (fail)
            go_wp2
            go_roundw
            case rel => exact ⟨k + 1, true, by omega, rfl, by go_num, HX, by (repeat (with_reducible first | exact G.out | refine Grow.grow_drewN ?_ _ | refine Grow.grow_drew ?_))⟩
            case measure => simp [intOf]; omega
        · obtain rfl : k = es.length := by omega
          cases b
          · have HA := Lib.hid (show addE es e = if isDir e.at' = false then 5 else if 4000 ≤ es.length then 2 else 0 by unfold addE; rw [HI0.out]; rfl)
            have b1 := KB.out.cell 1
            have b2 := KB.out.cell 2
            have b3 := KB.out.cell 3
            simp only [List.getElem?_toArray, List.getElem?_cons_zero, List.getElem?_cons_succ] at b1 b2 b3
            have DX := Lib.hid (fun X => DW.out X)
            unfold drV at DX
            cases hd : isDir e.at'
            · rw [hd] at DX
              have HE := Lib.hid (show addE es e = 5 by rw [HA.out, hd]; rfl)
              go_wp2_with (go_at_call 46; (with_reducible refine (DX.out _).mono ?_); rintro e2 w2 ⟨rfl, hb⟩; have HB2 := Lib.hid hb; clear hb)
              go_ret
              exact dadd_no HD.out HE.out (by decide) (grow_trans (grow_trans BW1.out G.out) HB2.out)
            · rw [hd] at DX
              by_cases c9 : 4000 ≤ es.length
              · have HE := Lib.hid (show addE es e = 2 by rw [HA.out, hd]; rw [if_neg (by decide), if_pos c9])
                have d9 : decide ((4000 : Int) ≤ (es.length : Int)) = true := decide_eq_true (by omega)
                go_wp2_with (go_at_call 46; (with_reducible refine (DX.out _).mono ?_); rintro e2 w2 ⟨rfl, hb⟩; have HB2 := Lib.hid hb; clear hb; have KG2 := Lib.hid (KG.out.below HB2.out); have g1 := KG2.out.cell 1; simp only [List.getElem?_toArray, List.getElem?_cons_zero, List.getElem?_cons_succ] at g1)
                go_ret
                exact dadd_no HD.out HE.out (by decide) (grow_trans (grow_trans BW1.out G.out) HB2.out)
              · have HE := Lib.hid (show addE es e = 0 by rw [HA.out, hd]; rw [if_neg (by decide), if_neg c9])
                have d9 : decide ((4000 : Int) ≤ (es.length : Int)) = false := decide_eq_false (by omega)
                go_wp2_with (go_at_call 46; (with_reducible refine (DX.out _).mono ?_); rintro e2 w2 ⟨rfl, hb⟩; have HB2 := Lib.hid hb; clear hb; have KG2 := Lib.hid (KG.out.below HB2.out); have KB2 := Lib.hid (KB.out.below HB2.out); have g1 := KG2.out.cell 1; have b0 := KB2.out.cell 0; have b1 := KB2.out.cell 1; have b2 := KB2.out.cell 2; have b3 := KB2.out.cell 3; have b4 := KB2.out.cell 4; have lg := KG2.out.lt; have lb := KB2.out.lt; simp only [List.getElem?_toArray, List.getElem?_cons_zero, List.getElem?_cons_succ] at g1 b0 b1 b2 b3 b4)
                refine Grow.wp_region_reads2 [0, 1, 2, 3] [5] [] 4 6 [6, 7, 8, 9, 10] [4, 7, 8, 9, 10] (by kernel_rfl) (by kernel_rfl) (by kernel_rfl) (by kernel_rfl) (by kernel_rfl) (by kernel_rfl) (by kernel_rfl) (by kernel_rfl) (by kernel_rfl) (by kernel_rfl) ?_ ?_
                · intro c aa d v ww h
                  simp (config := {zetaDelta := true}) only [Exit.then, Exit.inBlock] at h ⊢
                  exact Grow.bodyPost_blind h
                simp only [Grow.pick, List.getElem?_cons_zero, List.getElem?_cons_succ, List.cons_append, List.nil_append]
                repeat (go_big_quiet_step (fail))
                refine wpQuiet_nil ?_
                repeat (go_big_quiet_step (fail))
                refine wpQuiet_nil ?_
                repeat (go_big_quiet_step (fail))
                refine wpQuiet_nil ?_
                have gB : g < B := HD.out.2.1
                have BX := Lib.hid (grow_drew (grow_trans (grow_trans BW1.out G.out) HB2.out))
                have KX := Lib.hid KG2.out.drew
                clear g1 b0 b1 b2 b3 b4 KG2 KB2 lg lb HB2 KG KB ER G KG1 KB1 ER1 BW1
                generalize w2.drew = w4 at BX KX ⊢
                have OX := Lib.hid (owns_off (X := fun _ => False) HD.out.2.2.2 (Off.of_below BX.out) (fun _ _ f => f))
                have x1 := KX.out.cell 1
                have xl := KX.out.lt
                simp only [List.getElem?_toArray, List.getElem?_cons_zero, List.getElem?_cons_succ] at x1
                have C1 := BX.out.size
                have C2 := HD.out.2.2.1
                have C3 := Lib.hid (show es.length + 1 ≤ maxLen by unfold maxLen; omega)
                have C4 := Lib.hid (show (es.length + 1) * 48 ≤ 140737488355328 by omega)
                have C5 := Lib.hid (show B ≤ (w4.alloc (.cells #[Value.string e.name, .int .i64 e.at'.x, .int .i64 e.at'.y, .int .i64 e.at'.z, .int .i64 e.light] 60)).heap.size by simp; omega)
                refine ⟨?_, ?_⟩
                · go_wp2_with (at_builtin; refine wpList_append_own _ rfl _ _ 45 rfl B 60 i0 (.agg #[.string .empty, .int .i64 0, .int .i64 0, .int .i64 0, .int .i64 0]) 5 48 Tryz.underlying45 HI.out HZ0.out HZ1.out HZ2.out rfl (by decide) _ _ _ rfl (OX.out.alloc _) ⟨w4.heap.size, 0, none⟩ 1 1 (enC e) rfl rfl (news_en _ _ _) (en_cell _) C3.out C4.out C5.out ?_)
                  intro v' w5 hown' hg' _
                  have OF := Lib.hid (Off.grown (X := fun k => (Value.slice r es.length cap).ownBlock = some k) hg' (fun k h => h))
                  have OW := Lib.hid hown'
                  clear hown' hg'
                  obtain ⟨r', cap', rfl, _⟩ := ens_of_owns (p := es ++ [e]) (by rw [enL_append, show enL [e] = enC e by simp [enL]]; exact OW.out)
                  have KY := Lib.hid ((KX.out.alloc (.cells #[Value.string e.name, .int .i64 e.at'.x, .int .i64 e.at'.y, .int .i64 e.at'.z, .int .i64 e.light] 60)).off OF.out (fun hx => by have := (owns_block OX.out hx).1; omega))
                  have k0 := KY.out.cell 0
                  have k1 := KY.out.cell 1
                  have f0 := KY.out.frozen 0
                  have f1 := KY.out.frozen 1
                  have kl := KY.out.lt
                  simp only [List.getElem?_toArray, List.getElem?_cons_zero, List.getElem?_cons_succ] at k0 k1
                  go_wp2
                  go_ret
                  refine ⟨by rw [HE.out]; rfl, ?_, .slice r' (es ++ [e]).length cap', ?_⟩
                  · exact (((Off.of_below BX.out).alloc _).trans (OF.out.mono fun k h => .inr h)).setCell (.inl rfl) 1 _
                  · have hL : addL es e = es ++ [e] := by unfold addL; rw [if_pos HE.out]
                    have OZ := owns_off (X := fun k => k = g) OW.out (Off.setCell (X := fun k => k = g) (Off.refl _ _) rfl 1 (.slice r' (es ++ [e]).length cap')) (fun k hk hx => by have := (owns_block OW.out hk).1; omega)
                    refine ⟨known_eqA (KY.out.same 1 _) (by simp), gB, ?_, ?_⟩
                    · have := OF.out.size; simp at this ⊢; omega
                    · rw [hL, enL_append, show enL [e] = enC e by simp [enL], List.length_append]
                      rw [List.length_append] at OZ
                      exact OZ
                · go_wp2_with (at_builtin; refine wpList_append_own _ rfl _ _ 45 rfl B 60 i0 (.agg #[.string .empty, .int .i64 0, .int .i64 0, .int .i64 0, .int .i64 0]) 5 48 Tryz.underlying45 HI.out HZ0.out HZ1.out HZ2.out rfl (by decide) _ _ _ rfl (OX.out.alloc _) ⟨w4.heap.size, 0, none⟩ 1 1 (enC e) rfl rfl (news_en _ _ _) (en_cell _) C3.out C4.out C5.out ?_)
                  intro v' w5 hown' hg' _
                  have OF := Lib.hid (Off.grown (X := fun k => (Value.slice r es.length cap).ownBlock = some k) hg' (fun k h => h))
                  have OW := Lib.hid hown'
                  clear hown' hg'
                  obtain ⟨r', cap', rfl, _⟩ := ens_of_owns (p := es ++ [e]) (by rw [enL_append, show enL [e] = enC e by simp [enL]]; exact OW.out)
                  have KY := Lib.hid ((KX.out.alloc (.cells #[Value.string e.name, .int .i64 e.at'.x, .int .i64 e.at'.y, .int .i64 e.at'.z, .int .i64 e.light] 60)).off OF.out (fun hx => by have := (owns_block OX.out hx).1; omega))
                  have k0 := KY.out.cell 0
                  have k1 := KY.out.cell 1
                  have f0 := KY.out.frozen 0
                  have f1 := KY.out.frozen 1
                  have kl := KY.out.lt
                  simp only [List.getElem?_toArray, List.getElem?_cons_zero, List.getElem?_cons_succ] at k0 k1
                  go_wp2
                  go_ret
                  refine ⟨by rw [HE.out]; rfl, ?_, .slice r' (es ++ [e]).length cap', ?_⟩
                  · exact (((Off.of_below BX.out).alloc _).trans (OF.out.mono fun k h => .inr h)).setCell (.inl rfl) 1 _
                  · have hL : addL es e = es ++ [e] := by unfold addL; rw [if_pos HE.out]
                    have OZ := owns_off (X := fun k => k = g) OW.out (Off.setCell (X := fun k => k = g) (Off.refl _ _) rfl 1 (.slice r' (es ++ [e]).length cap')) (fun k hk hx => by have := (owns_block OW.out hk).1; omega)
                    refine ⟨known_eqA (KY.out.same 1 _) (by simp), gB, ?_, ?_⟩
                    · have := OF.out.size; simp at this ⊢; omega
                    · rw [hL, enL_append, show enL [e] = enC e by simp [enL], List.length_append]
                      rw [List.length_append] at OZ
                      exact OZ
          · have HE := Lib.hid (show addE es e = 10 by unfold addE; rw [if_pos HI0.out])
            go_wp2
            go_ret
            exact dadd_no HD.out HE.out (by decide) (grow_trans BW1.out G.out)
    · have d2 : decide ((40 : Int) < (e.name.size : Int)) = false := decide_eq_false (by omega)
      have d2' : decide (40 < e.name.size) = false := decide_eq_false c2
      have H0 := Lib.hid (show hadUp e es 0 = false by rw [hadUp, d2', decide_eq_false c1]; rfl)
      unfold enV
      go_enter Tryz.func38, Tryz.ntmps38
      go_wp2
      refine Grow.seal_wp ?_
      intro W1 hW1
      have KG1 := Lib.hid (show Known W1 g #[.int .i64 lev, .slice r es.length cap] from hW1.out ▸ KG1.out)
      have KB1 := Lib.hid (show Known W1 w.heap.size #[.string e.name, .int .i64 e.at'.x, .int .i64 e.at'.y, .int .i64 e.at'.z, .int .i64 e.light] from hW1.out ▸ KB1.out)
      have ER1 := Lib.hid (show EnsAt W1 r es from hW1.out ▸ ER1.out)
      have BW1 := Lib.hid (show Below w.heap.size w W1 from hW1.out ▸ BW1.out)
      clear hW1
      go_loopw [5, 6] (fun v5 v6 wr => ∃ (k : Nat) (b : Bool), k ≤ es.length ∧ v5 = .bool b ∧ v6 = .int .i64 k ∧ Hid (hadUp e es k = b) ∧ Below W1.heap.size W1 wr) (fun _ i _ => es.length - (intOf i).toNat)
      case atStart => exact ⟨0, false, Nat.zero_le _, rfl, rfl, H0, grow_refl _⟩
      case round =>
        obtain ⟨k, b, hk, rfl, rfl, HI0, hg⟩ := hrel
        have G := Lib.hid hg
        clear hg
        have KG := Lib.hid (KG1.out.below G.out)
        have KB := Lib.hid (KB1.out.below G.out)
        have ER := Lib.hid (ER1.out.below G.out)
        have g1 := KG.out.cell 1
        simp only [List.getElem?_toArray, List.getElem?_cons_zero, List.getElem?_cons_succ] at g1
        have b0 := KB.out.cell 0
        simp only [List.getElem?_toArray, List.getElem?_cons_zero, List.getElem?_cons_succ] at b0
        by_cases hlt : k < es.length
        · have hi0 : (0 : Int) ≤ (k : Int) := by omega
          have hi1 : (k : Int) < (es.length : Int) := by omega
          cases b
          · obtain ⟨b1, o1, rfl, hc⟩ := ER.out.resolve_left (by intro h; rw [h] at hlt; exact absurd hlt (by simp))
            obtain ⟨e0, _⟩ := hc k hlt
            have HS := Lib.hid (show hadUp e es (k + 1) = decide ((en es k).name = e.name) by rw [hadUp, HI0.out]; rfl)
            clear hc
            generalize (en es k).name = ni at e0 HS
            by_cases c3 : ni = e.name
            · have d3 : (ni.toList == e.name.toList) = true := by rw [toList_decE]; exact decide_eq_true c3
              have HX := Lib.hid (show hadUp e es (k + 1) = true by rw [HS.out]; exact decide_eq_true c3)
              clear c3
              go_wp2
              go_quiet (fail)
              go_wp2
              go_roundw
              case rel => exact ⟨k + 1, true, by omega, rfl, by go_num, HX, by (repeat (with_reducible first | exact G.out | refine Grow.grow_drewN ?_ _ | refine Grow.grow_drew ?_))⟩
              case measure => simp [intOf]; omega
            · have d3 : (ni.toList == e.name.toList) = false := by rw [toList_decE]; exact decide_eq_false c3
              have HX := Lib.hid (show hadUp e es (k + 1) = false by rw [HS.out]; exact decide_eq_false c3)
              clear c3
              go_wp2
              go_quiet (fail)
              go_wp2
              go_roundw
              case rel => exact ⟨k + 1, false, by omega, rfl, by go_num, HX, by (repeat (with_reducible first | exact G.out | refine Grow.grow_drewN ?_ _ | refine Grow.grow_drew ?_))⟩
              case measure => simp [intOf]; omega
          · have HX := Lib.hid (show hadUp e es (k + 1) = true by rw [hadUp, HI0.out]; rfl)
            go_wp2
            go_quiet (fail)
            go_wp2
            go_roundw
            case rel => exact ⟨k + 1, true, by omega, rfl, by go_num, HX, by (repeat (with_reducible first | exact G.out | refine Grow.grow_drewN ?_ _ | refine Grow.grow_drew ?_))⟩
            case measure => simp [intOf]; omega
        · obtain rfl : k = es.length := by omega
          cases b
          · have HA := Lib.hid (show addE es e = if isDir e.at' = false then 5 else if 4000 ≤ es.length then 2 else 0 by unfold addE; rw [HI0.out]; rfl)
            have b1 := KB.out.cell 1
            have b2 := KB.out.cell 2
            have b3 := KB.out.cell 3
            simp only [List.getElem?_toArray, List.getElem?_cons_zero, List.getElem?_cons_succ] at b1 b2 b3
            have DX := Lib.hid (fun X => DW.out X)
            unfold drV at DX
            cases hd : isDir e.at'
            · rw [hd] at DX
              have HE := Lib.hid (show addE es e = 5 by rw [HA.out, hd]; rfl)
              go_wp2_with (go_at_call 46; (with_reducible refine (DX.out _).mono ?_); rintro e2 w2 ⟨rfl, hb⟩; have HB2 := Lib.hid hb; clear hb)
              go_ret
              exact dadd_no HD.out HE.out (by decide) (grow_trans (grow_trans BW1.out G.out) HB2.out)
            · rw [hd] at DX
              by_cases c9 : 4000 ≤ es.length
              · have HE := Lib.hid (show addE es e = 2 by rw [HA.out, hd]; rw [if_neg (by decide), if_pos c9])
                have d9 : decide ((4000 : Int) ≤ (es.length : Int)) = true := decide_eq_true (by omega)
                go_wp2_with (go_at_call 46; (with_reducible refine (DX.out _).mono ?_); rintro e2 w2 ⟨rfl, hb⟩; have HB2 := Lib.hid hb; clear hb; have KG2 := Lib.hid (KG.out.below HB2.out); have g1 := KG2.out.cell 1; simp only [List.getElem?_toArray, List.getElem?_cons_zero, List.getElem?_cons_succ] at g1)
                go_ret
                exact dadd_no HD.out HE.out (by decide) (grow_trans (grow_trans BW1.out G.out) HB2.out)
              · have HE := Lib.hid (show addE es e = 0 by rw [HA.out, hd]; rw [if_neg (by decide), if_neg c9])
                have d9 : decide ((4000 : Int) ≤ (es.length : Int)) = false := decide_eq_false (by omega)
                go_wp2_with (go_at_call 46; (with_reducible refine (DX.out _).mono ?_); rintro e2 w2 ⟨rfl, hb⟩; have HB2 := Lib.hid hb; clear hb; have KG2 := Lib.hid (KG.out.below HB2.out); have KB2 := Lib.hid (KB.out.below HB2.out); have g1 := KG2.out.cell 1; have b0 := KB2.out.cell 0; have b1 := KB2.out.cell 1; have b2 := KB2.out.cell 2; have b3 := KB2.out.cell 3; have b4 := KB2.out.cell 4; have lg := KG2.out.lt; have lb := KB2.out.lt; simp only [List.getElem?_toArray, List.getElem?_cons_zero, List.getElem?_cons_succ] at g1 b0 b1 b2 b3 b4)
                refine Grow.wp_region_reads2 [0, 1, 2, 3] [5] [] 4 6 [6, 7, 8, 9, 10] [4, 7, 8, 9, 10] (by kernel_rfl) (by kernel_rfl) (by kernel_rfl) (by kernel_rfl) (by kernel_rfl) (by kernel_rfl) (by kernel_rfl) (by kernel_rfl) (by kernel_rfl) (by kernel_rfl) ?_ ?_
                · intro c aa d v ww h
                  simp (config := {zetaDelta := true}) only [Exit.then, Exit.inBlock] at h ⊢
                  exact Grow.bodyPost_blind h
                simp only [Grow.pick, List.getElem?_cons_zero, List.getElem?_cons_succ, List.cons_append, List.nil_append]
                repeat (go_big_quiet_step (fail))
                refine wpQuiet_nil ?_
                repeat (go_big_quiet_step (fail))
                refine wpQuiet_nil ?_
                repeat (go_big_quiet_step (fail))
                refine wpQuiet_nil ?_
                have gB : g < B := HD.out.2.1
                have BX := Lib.hid (grow_drew (grow_trans (grow_trans BW1.out G.out) HB2.out))
                have KX := Lib.hid KG2.out.drew
                clear g1 b0 b1 b2 b3 b4 KG2 KB2 lg lb HB2 KG KB ER G KG1 KB1 ER1 BW1
                generalize w2.drew = w4 at BX KX ⊢
                have OX := Lib.hid (owns_off (X := fun _ => False) HD.out.2.2.2 (Off.of_below BX.out) (fun _ _ f => f))
                have x1 := KX.out.cell 1
                have xl := KX.out.lt
                simp only [List.getElem?_toArray, List.getElem?_cons_zero, List.getElem?_cons_succ] at x1
                have C1 := BX.out.size
                have C2 := HD.out.2.2.1
                have C3 := Lib.hid (show es.length + 1 ≤ maxLen by unfold maxLen; omega)
                have C4 := Lib.hid (show (es.length + 1) * 48 ≤ 140737488355328 by omega)
                have C5 := Lib.hid (show B ≤ (w4.alloc (.cells #[Value.string e.name, .int .i64 e.at'.x, .int .i64 e.at'.y, .int .i64 e.at'.z, .int .i64 e.light] 60)).heap.size by simp; omega)
                refine ⟨?_, ?_⟩
                · go_wp2_with (at_builtin; refine wpList_append_own _ rfl _ _ 45 rfl B 60 i0 (.agg #[.string .empty, .int .i64 0, .int .i64 0, .int .i64 0, .int .i64 0]) 5 48 Tryz.underlying45 HI.out HZ0.out HZ1.out HZ2.out rfl (by decide) _ _ _ rfl (OX.out.alloc _) ⟨w4.heap.size, 0, none⟩ 1 1 (enC e) rfl rfl (news_en _ _ _) (en_cell _) C3.out C4.out C5.out ?_)
                  intro v' w5 hown' hg' _
                  have OF := Lib.hid (Off.grown (X := fun k => (Value.slice r es.length cap).ownBlock = some k) hg' (fun k h => h))
                  have OW := Lib.hid hown'
                  clear hown' hg'
                  obtain ⟨r', cap', rfl, _⟩ := ens_of_owns (p := es ++ [e]) (by rw [enL_append, show enL [e] = enC e by simp [enL]]; exact OW.out)
                  have KY := Lib.hid ((KX.out.alloc (.cells #[Value.string e.name, .int .i64 e.at'.x, .int .i64 e.at'.y, .int .i64 e.at'.z, .int .i64 e.light] 60)).off OF.out (fun hx => by have := (owns_block OX.out hx).1; omega))
                  have k0 := KY.out.cell 0
                  have k1 := KY.out.cell 1
                  have f0 := KY.out.frozen 0
                  have f1 := KY.out.frozen 1
                  have kl := KY.out.lt
                  simp only [List.getElem?_toArray, List.getElem?_cons_zero, List.getElem?_cons_succ] at k0 k1
                  go_wp2
                  go_ret
                  refine ⟨by rw [HE.out]; rfl, ?_, .slice r' (es ++ [e]).length cap', ?_⟩
                  · exact (((Off.of_below BX.out).alloc _).trans (OF.out.mono fun k h => .inr h)).setCell (.inl rfl) 1 _
                  · have hL : addL es e = es ++ [e] := by unfold addL; rw [if_pos HE.out]
                    have OZ := owns_off (X := fun k => k = g) OW.out (Off.setCell (X := fun k => k = g) (Off.refl _ _) rfl 1 (.slice r' (es ++ [e]).length cap')) (fun k hk hx => by have := (owns_block OW.out hk).1; omega)
                    refine ⟨known_eqA (KY.out.same 1 _) (by simp), gB, ?_, ?_⟩
                    · have := OF.out.size; simp at this ⊢; omega
                    · rw [hL, enL_append, show enL [e] = enC e by simp [enL], List.length_append]
                      rw [List.length_append] at OZ
                      exact OZ
                · go_wp2_with (at_builtin; refine wpList_append_own _ rfl _ _ 45 rfl B 60 i0 (.agg #[.string .empty, .int .i64 0, .int .i64 0, .int .i64 0, .int .i64 0]) 5 48 Tryz.underlying45 HI.out HZ0.out HZ1.out HZ2.out rfl (by decide) _ _ _ rfl (OX.out.alloc _) ⟨w4.heap.size, 0, none⟩ 1 1 (enC e) rfl rfl (news_en _ _ _) (en_cell _) C3.out C4.out C5.out ?_)
                  intro v' w5 hown' hg' _
                  have OF := Lib.hid (Off.grown (X := fun k => (Value.slice r es.length cap).ownBlock = some k) hg' (fun k h => h))
                  have OW := Lib.hid hown'
                  clear hown' hg'
                  obtain ⟨r', cap', rfl, _⟩ := ens_of_owns (p := es ++ [e]) (by rw [enL_append, show enL [e] = enC e by simp [enL]]; exact OW.out)
                  have KY := Lib.hid ((KX.out.alloc (.cells #[Value.string e.name, .int .i64 e.at'.x, .int .i64 e.at'.y, .int .i64 e.at'.z, .int .i64 e.light] 60)).off OF.out (fun hx => by have := (owns_block OX.out hx).1; omega))
                  have k0 := KY.out.cell 0
                  have k1 := KY.out.cell 1
                  have f0 := KY.out.frozen 0
                  have f1 := KY.out.frozen 1
                  have kl := KY.out.lt
                  simp only [List.getElem?_toArray, List.getElem?_cons_zero, List.getElem?_cons_succ] at k0 k1
                  go_wp2
                  go_ret
                  refine ⟨by rw [HE.out]; rfl, ?_, .slice r' (es ++ [e]).length cap', ?_⟩
                  · exact (((Off.of_below BX.out).alloc _).trans (OF.out.mono fun k h => .inr h)).setCell (.inl rfl) 1 _
                  · have hL : addL es e = es ++ [e] := by unfold addL; rw [if_pos HE.out]
                    have OZ := owns_off (X := fun k => k = g) OW.out (Off.setCell (X := fun k => k = g) (Off.refl _ _) rfl 1 (.slice r' (es ++ [e]).length cap')) (fun k hk hx => by have := (owns_block OW.out hk).1; omega)
                    refine ⟨known_eqA (KY.out.same 1 _) (by simp), gB, ?_, ?_⟩
                    · have := OF.out.size; simp at this ⊢; omega
                    · rw [hL, enL_append, show enL [e] = enC e by simp [enL], List.length_append]
                      rw [List.length_append] at OZ
                      exact OZ
          · have HE := Lib.hid (show addE es e = 10 by unfold addE; rw [if_pos HI0.out])
            go_wp2
            go_ret
            exact dadd_no HD.out HE.out (by decide) (grow_trans BW1.out G.out)
end Go.Proofs.YtlnbeildplafbaaGreatDoor
