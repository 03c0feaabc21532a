/- Cells of directions: the document's names in a cell. -/
import Derived.Test.YtjjjbkehmnfgbaaDoorAc14
import Derived.Test.YtjjjbkehmnfgbaaDoorTw2
import Derived.Deep.Onto
set_option linter.unusedSimpArgs false
set_option linter.unusedVariables false
namespace Go.Proofs.YtjjjbkehmnfgbaaDoor
open Go.RowKit Go.Grow Go.Atl

def inUp (es : List En) (s : Sp) (L : Nat) : Nat → List ByteArray
  | 0 => []
  | k + 1 => if cellAt (en es k).at' L = s then insZ (inUp es s L k) (en es k).name else inUp es s L k
theorem inUp_len (es : List En) (s : Sp) (L : Nat) : ∀ k, (inUp es s L k).length ≤ k
  | 0 => Nat.le_refl _
  | k + 1 => by
    have := inUp_len es s L k
    unfold inUp
    split
    · rw [insZ_length]; omega
    · omega
theorem str_of_owns2 {w : World} {base n : Nat} {v : Value} {p : List ByteArray} {e : TypeId} (h : w.ownsRow base e 1 v n (stL p)) : ∃ r cap, v = .slice r p.length cap ∧ p.length ≤ cap ∧ cap ≤ maxLen ∧ (r = none → cap = 0) ∧ StrAt w r p := by
  obtain ⟨r, cap, rfl, h1, h2⟩ := str_of_owns h
  obtain ⟨hl, ⟨hv, hn⟩ | ⟨g, cap', cur, hv, _, _, hc1, hc2, _⟩⟩ := h
  · simp at hv
    exact ⟨r, cap, rfl, by rw [hv.2.1]; simp, by rw [hv.2.2]; simp [maxLen], h1, h2⟩
  · simp at hv
    obtain ⟨e1, e2, e3⟩ := hv
    exact ⟨r, cap, rfl, by omega, by omega, h1, h2⟩
def DInRel (w : World) (es : List En) (s : Sp) (L : Nat) (W1 : World) (v5 v6 : Value) (wr : World) : Prop :=
  ∃ k : Nat, k ≤ es.length ∧ v6 = .int .i64 k ∧ wr.ownsRow W1.heap.size 9 1 v5 (inUp es s L k).length (stL (inUp es s L k)) ∧ Below W1.heap.size W1 wr
set_option maxRecDepth 100000 in
set_option maxHeartbeats 32000000 in
theorem dIn_walk (w : World) (B g : Nat) (lev : Int) (es : List En) (v : Value) (f c rw_ : Int) (L : Nat) (h : DAt w B g lev es v) (hl : es.length ≤ 4000) (hL : L ≤ 12) (hlev : (L : Int) ≤ lev) (hd : ∀ k, k < es.length → isDir (en es k).at' = true) :
    Calls Tryd.prog 28 #[.pointer (some ⟨g, 0, none⟩), spV ⟨f, L, c, rw_⟩] w fun en' w' => ∃ v', en' = .returned v' ∧ w'.ownsRow w.heap.size 9 1 v' (inUp es ⟨f, L, c, rw_⟩ L es.length).length (stL (inUp es ⟨f, L, c, rw_⟩ L es.length)) ∧ Below w.heap.size w w' := by
  have HDR := Lib.hid hd
  clear hd
  have hgw : g < w.heap.size := by have := h.2.1; have := h.2.2.1; omega
  obtain ⟨r, cap, rfl, hr⟩ := ens_of_owns h.2.2.2
  have KG1 := Lib.hid (h.1.alloc (.cells #[.int .i64 f, .int .i64 L, .int .i64 c, .int .i64 rw_] 48))
  have KB1 := Lib.hid (Known.new w #[.int .i64 f, .int .i64 L, .int .i64 c, .int .i64 rw_] 48)
  have ER1 := Lib.hid (hr.below (grow_alloc (grow_refl w) (.cells #[.int .i64 f, .int .i64 L, .int .i64 c, .int .i64 rw_] 48)))
  have BW1 := Lib.hid (grow_alloc (grow_refl w) (.cells #[.int .i64 f, .int .i64 L, .int .i64 c, .int .i64 rw_] 48))
  clear hr h
  have u0 : decide (lev < (L : Int)) = false := decide_eq_false (by omega)
  unfold spV
  simp only
  have KG := KG1
  have g0 := KG1.out.cell 0
  have lg := KG1.out.lt
  simp only [List.getElem?_toArray, List.getElem?_cons_zero, List.getElem?_cons_succ] at g0
  go_enter Tryd.func28, Tryd.ntmps28
  go_wp2
  go_quiet (fail)
  go_wp2
  refine Grow.seal_wp ?_
  intro W1 hW1
  have KG2 := Lib.hid (show Known W1 g #[.int .i64 lev, .slice r es.length cap] from hW1.out ▸ KG1.out.drewN _)
  have KB2 := Lib.hid (show Known W1 w.heap.size #[.int .i64 f, .int .i64 L, .int .i64 c, .int .i64 rw_] from hW1.out ▸ KB1.out.drewN _)
  have ER2 := Lib.hid (show EnsAt W1 r es from hW1.out ▸ ER1.out.below (grow_drewN (grow_refl _) _))
  have BW2 := Lib.hid (show Below w.heap.size w W1 from hW1.out ▸ grow_drewN BW1.out _)
  clear hW1 KG KG1 KB1 ER1 BW1 g0 lg
  go_loopw [5, 6] (fun v5 v6 wr => DInRel w es ⟨f, L, c, rw_⟩ L W1 v5 v6 wr) (fun _ i _ => es.length - (intOf i).toNat)
  case atStart => exact ⟨0, Nat.zero_le _, rfl, World.ownsRow_nil _ _ _ _, Below.refl _ _⟩
  case round =>
    obtain ⟨k, hk, rfl, hown, hg⟩ := hrel
    have O := Lib.hid hown
    have G := Lib.hid hg
    clear hown hg
    have KG := Lib.hid (KG2.out.below G.out)
    have KB := Lib.hid (KB2.out.below G.out)
    have ER := Lib.hid (ER2.out.below G.out)
    have g1 := KG.out.cell 1
    have lg := KG.out.lt
    have b1' := KB.out.cell 1
    have lb := KB.out.lt
    simp only [List.getElem?_toArray, List.getElem?_cons_zero, List.getElem?_cons_succ] at g1 b1'
    by_cases hlt : k < es.length
    · have hi0 : (0 : Int) ≤ (k : Int) := by omega
      have hi1 : (k : Int) < (es.length : Int) := by omega
      obtain ⟨bb, oo, rfl, hc⟩ := ER.out.resolve_left (by intro h; rw [h] at hlt; exact absurd hlt (by simp))
      obtain ⟨e0, e1, e2, e3, _⟩ := hc k hlt
      have lbb : bb < wr.heap.size := lt_of_cellE e0
      have CW := Lib.hid (fun X => cellAt_good (en es k).at' L X (HDR.out k hlt) hL)
      have HS := Lib.hid (show inUp es ⟨f, L, c, rw_⟩ L (k + 1) = if cellAt (en es k).at' L = ⟨f, L, c, rw_⟩ then insZ (inUp es ⟨f, L, c, rw_⟩ L k) (en es k).name else inUp es ⟨f, L, c, rw_⟩ L k from rfl)
      have hul := inUp_len es ⟨f, L, c, rw_⟩ L k
      obtain ⟨r5, c5, rfl, hc1, hc2, hc3, hst⟩ := str_of_owns2 O.out
      have IW := Lib.hid (fun (s : ByteArray) X (hX : Below wr.heap.size wr X) => insert_walk r5 (inUp es ⟨f, L, c, rw_⟩ L k) c5 s X (by omega) hc1 hc2 hc3 (hst.below hX))
      clear hc1 hc2 hc3 hst
      clear hc
      generalize en es k = ee at *
      obtain ⟨nm, ⟨x, y, z⟩, lt⟩ := ee
      simp only at e0 e1 e2 e3 HS CW
      unfold drV at CW
      simp only at CW
      generalize cellAt ⟨x, y, z⟩ L = cc at *
      obtain ⟨cf, cl, cx, cy⟩ := cc
      unfold spV at CW
      simp only at CW
      go_wp2
      refine Grow.wp_region_fork [0, 1, 2, 4, 8] [3] [5, 6] [7, 9] 10 14 [11, 12, 13] [14, 15, 16] [15, 16] (by kernel_rfl) (by kernel_rfl) (by kernel_rfl) (by kernel_rfl) (by kernel_rfl) (by kernel_rfl) (by kernel_rfl) (by kernel_rfl) (by kernel_rfl) (by kernel_rfl) (by kernel_rfl) (by kernel_rfl) (by kernel_rfl) (by kernel_rfl) ?_ ?_
      · intro c aa d v ww h
        simp (config := {zetaDelta := true}) only [Exit.then, Exit.inBlock] at h ⊢
        exact Grow.bodyPost_blind h
      simp only [Grow.pick, List.getElem?_cons_zero, List.getElem?_cons_succ, List.cons_append, List.nil_append]
      repeat (go_big_quiet_step (fail))
      refine wpQuiet_nil ?_
      repeat (go_big_quiet_step (fail))
      refine wpQuiet_nil ?_
      repeat (go_big_quiet_step (fail))
      refine wpQuiet_nil ?_
      repeat (go_big_quiet_step (fail))
      refine wpQuiet_nil ?_
      refine ⟨?_, ?_⟩
      · unfold oneK
        go_wp2_with (go_at_call 21; (with_reducible refine (CW.out _).mono ?_); rintro e5 w2 ⟨rfl, hb⟩; have HB2 := Lib.hid (grow_trans (grow_drew (grow_refl wr)) hb); clear hb)
        repeat (go_big_quiet_step (fail))
        refine wpQuiet_nil ?_
        have GX := Lib.hid (grow_trans G.out HB2.out)
        have KB3 := Lib.hid (KB2.out.below GX.out)
        have KG3 := Lib.hid (KG2.out.below GX.out)
        have hlw : w.heap.size < w2.heap.size := KB3.out.lt
        have hlg : g < w2.heap.size := KG3.out.lt
        have hw2 : wr.heap.size ≤ w2.heap.size := HB2.out.size
        have hne1 : ¬ w.heap.size = w2.heap.size := by omega
        have hne2 : ¬ g = w2.heap.size := by omega
        have hne3 : ¬ bb = w2.heap.size := by omega
        have k0 := KB3.out.cell 0
        have k1 := KB3.out.cell 1
        have k2 := KB3.out.cell 2
        have k3 := KB3.out.cell 3
        have j1 := KG3.out.cell 1
        simp only [List.getElem?_toArray, List.getElem?_cons_zero, List.getElem?_cons_succ] at k0 k1 k2 k3 j1
        have m0 := (HB2.out.cell (p := ⟨bb, oo + k * 5, none⟩) lbb).trans e0
        have lb2 : bb < w2.heap.size := by omega
        have HBX := Lib.hid (fun (o : Obj) => grow_alloc HB2.out o)
        have GXX := Lib.hid (fun (o : Obj) => grow_trans G.out (HBX.out o))
        have OX := Lib.hid (fun (o : Obj) => owns_off (X := fun _ => False) O.out (Off.of_below (HBX.out o)) (fun _ _ f => f))
        have hge := G.out.size
        by_cases hcc : cf = f ∧ cl = L ∧ cx = c ∧ cy = rw_
        · obtain ⟨rfl, rfl, rfl, rfl⟩ := hcc
          have HSP := Lib.hid (HS.out.trans (if_pos rfl))
          go_wp2_with (go_at_call 63; (with_reducible refine (IW.out _ _ (HBX.out _)).mono ?_); rintro e6 w6 ⟨v6, rfl, hown6, hb6⟩; have HO6 := Lib.hid hown6; have HB6 := Lib.hid hb6; clear hown6 hb6)
          go_roundw
          case rel => exact ⟨k + 1, by omega, by go_num, by rw [HSP.out]; exact HO6.out.mono (GXX.out _).size, grow_trans (GXX.out _) HB6.out⟩
          case measure => simp [intOf]; omega
        · have HSN := Lib.hid (HS.out.trans (if_neg (fun h => hcc (by cases h; exact ⟨rfl, rfl, rfl, rfl⟩))))
          go_wp2_with (go_at_call 63; exact absurd ⟨by first | rfl | assumption, by first | rfl | assumption, by first | rfl | assumption, by first | rfl | assumption⟩ hcc)
          all_goals first
            | exact absurd ⟨by first | rfl | assumption, by first | rfl | assumption, by first | rfl | assumption, by first | rfl | assumption⟩ hcc
            | exact ⟨⟨k + 1, by omega, by go_num, by rw [HSN.out]; exact OX.out _, GXX.out _⟩, by simp [intOf]; omega⟩
      · have hal := alloc_sp5
        unfold oneK
        go_wp2_with (go_at_call 21; (with_reducible refine (CW.out _).mono ?_); rintro e5 w2 ⟨rfl, hb⟩; have HB2 := Lib.hid (grow_trans (grow_alloc (grow_drew (grow_refl wr)) (.cells #[.int .i64 0, .int .i64 0, .int .i64 0, .int .i64 0] 48)) hb); have KC := Lib.hid ((Known.new' (w := wr.drew) (c := #[.int .i64 0, .int .i64 0, .int .i64 0, .int .i64 0]) (t := 48) (b := wr.heap.size) rfl).below hb); clear hb)
        repeat (go_big_quiet_step (fail))
        refine wpQuiet_nil ?_
        have GX := Lib.hid (grow_trans G.out HB2.out)
        have KB3 := Lib.hid (KB2.out.below GX.out)
        have KG3 := Lib.hid (KG2.out.below GX.out)
        have z0 := KC.out.cell 0
        have z1 := KC.out.cell 1
        have z2 := KC.out.cell 2
        have z3 := KC.out.cell 3
        have zf0 := KC.out.frozen 0
        have zf1 := KC.out.frozen 1
        have zf2 := KC.out.frozen 2
        have zf3 := KC.out.frozen 3
        have zl := KC.out.lt
        simp only [List.getElem?_toArray, List.getElem?_cons_zero, List.getElem?_cons_succ] at z0 z1 z2 z3
        have hlw : w.heap.size < w2.heap.size := KB3.out.lt
        have hlg : g < w2.heap.size := KG3.out.lt
        have hw2 : wr.heap.size ≤ w2.heap.size := HB2.out.size
        have hne1 : ¬ w.heap.size = wr.heap.size := by omega
        have hne2 : ¬ g = wr.heap.size := by omega
        have hne3 : ¬ bb = wr.heap.size := by omega
        have k0 := KB3.out.cell 0
        have k1 := KB3.out.cell 1
        have k2 := KB3.out.cell 2
        have k3 := KB3.out.cell 3
        have j1 := KG3.out.cell 1
        simp only [List.getElem?_toArray, List.getElem?_cons_zero, List.getElem?_cons_succ] at k0 k1 k2 k3 j1
        have m0 := (HB2.out.cell (p := ⟨bb, oo + k * 5, none⟩) lbb).trans e0
        have lb2 : bb < w2.heap.size := by omega
        have HBX := Lib.hid (fun (p q s t : Value) => (show Below wr.heap.size wr ((((w2.setCell ⟨wr.heap.size, 0, none⟩ p).setCell ⟨wr.heap.size, 1, none⟩ q).setCell ⟨wr.heap.size, 2, none⟩ s).setCell ⟨wr.heap.size, 3, none⟩ t) from grow_setCell (grow_setCell (grow_setCell (grow_setCell HB2.out (Nat.le_refl _) _) (Nat.le_refl _) _) (Nat.le_refl _) _) (Nat.le_refl _) _))
        have GXX := Lib.hid (fun (p q s t : Value) => grow_trans G.out (HBX.out p q s t))
        have OX := Lib.hid (fun (p q s t : Value) => owns_off (X := fun _ => False) O.out (Off.of_below (HBX.out p q s t)) (fun _ _ f => f))
        have hge := G.out.size
        by_cases hcc : cf = f ∧ cl = L ∧ cx = c ∧ cy = rw_
        · obtain ⟨rfl, rfl, rfl, rfl⟩ := hcc
          have HSP := Lib.hid (HS.out.trans (if_pos rfl))
          go_wp2_with (go_at_call 63; (with_reducible refine (IW.out _ _ (HBX.out _ _ _ _)).mono ?_); rintro e6 w6 ⟨v6, rfl, hown6, hb6⟩; have HO6 := Lib.hid hown6; have HB6 := Lib.hid hb6; clear hown6 hb6)
          go_roundw
          case rel => exact ⟨k + 1, by omega, by go_num, by rw [HSP.out]; exact HO6.out.mono (GXX.out _ _ _ _).size, grow_trans (GXX.out _ _ _ _) HB6.out⟩
          case measure => simp [intOf]; omega
        · have HSN := Lib.hid (HS.out.trans (if_neg (fun h => hcc (by cases h; exact ⟨rfl, rfl, rfl, rfl⟩))))
          go_wp2_with (go_at_call 63; exact absurd ⟨by first | rfl | assumption, by first | rfl | assumption, by first | rfl | assumption, by first | rfl | assumption⟩ hcc)
          all_goals first
            | exact absurd ⟨by first | rfl | assumption, by first | rfl | assumption, by first | rfl | assumption, by first | rfl | assumption⟩ hcc
            | exact ⟨⟨k + 1, by omega, by go_num, by rw [HSN.out]; exact OX.out _ _ _ _, GXX.out _ _ _ _⟩, by simp [intOf]; omega⟩
    · obtain rfl : k = es.length := by omega
      go_wp2
      go_ret
      exact ⟨_, rfl, O.out.mono BW2.out.size, grow_trans BW2.out G.out⟩
end Go.Proofs.YtjjjbkehmnfgbaaDoor
