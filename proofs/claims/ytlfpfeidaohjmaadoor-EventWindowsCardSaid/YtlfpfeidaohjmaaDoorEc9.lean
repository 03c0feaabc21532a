/- EventWindows: the law's walk where track and level are right. -/
import Derived.Test.YtlfpfeidaohjmaaDoorEc8
import Derived.Test.YtlfpfeidaohjmaaDoorEc3
import Derived.Test.YtlfpfeidaohjmaaDoorEs2
import Derived.Test.YtlfpfeidaohjmaaDoorEc10
import Derived.Test.YtlfpfeidaohjmaaDoorLate
set_option linter.unusedSimpArgs false
set_option linter.unusedVariables false
namespace Go.Proofs.YtlfpfeidaohjmaaDoor
open Go.RowKit Go.Grow Go.Fl

theorem ivL_append (a b : List Int) : ivL (a ++ b) = ivL a ++ ivL b := by simp [ivL]
theorem news_iv (w : World) (c : List Int) (t : TypeId) : ∀ j u, (ivL c)[j]? = some u → (w.alloc (.cells (ivL c).toArray t)).cell? ((⟨w.heap.size, 0, none⟩ : Addr).add j) = some u := news_sp w (ivL c) t
theorem wfold_len (s : WSt) : ∀ l : List Ev, (wfold s l).W.length ≤ s.W.length + l.length
  | [] => Nat.le_refl _
  | e :: l => by
    have h1 : (wfold (wstep s e) l).W.length ≤ (wstep s e).W.length + l.length := wfold_len (wstep s e) l
    have h2 := wstep_length s e
    show (wfold (wstep s e) l).W.length ≤ s.W.length + (l.length + 1)
    omega
theorem putW_len2 (W : List (Int × Int)) (f t : Int) : (putW W f t).length ≤ W.length + 1 := by
  unfold putW
  split
  · split
    · split
      · first | (simp; done) | (simp; omega)
      · simp
    · simp
  · omega
theorem windows_length (F : Int) (S : Nat) (n : Int) (L : List Int) (h : 2 ≤ L.length) : (windows F S n L).length ≤ L.length := by
  have h1 := evUp_le F S n L (L.length - 1)
  have h2 : (wUp F S n L (L.length - 1)).W.length ≤ 0 + (evUp F S n L (L.length - 1)).length := wfold_len _ _
  unfold windows
  simp only
  split
  · have := putW_len2 (wUp F S n L (L.length - 1)).W (wUp F S n L (L.length - 1)).f (F + ((L.length : Int) - 1) * S + 1)
    omega
  · omega
def At1 (B : Nat) (W : World) (q m : Nat) (WN : List (Int × Int)) (v2 v13 v15 : Value) (wr : World) : Prop :=
  ∃ (k : Nat) (zs : List Int), k ≤ m ∧ v15 = .int .i64 k ∧ wr.ownsRow B 3 1 v13 zs.length (ivL zs) ∧ zs.length ≤ q + 4 * k ∧ wr.ownsRow B 102 2 v2 WN.length (spL WN) ∧ Below B W wr ∧ B ≤ wr.heap.size
theorem own_le {w : World} {b1 b2 : Nat} {e : TypeId} {size n : Nat} {v : Value} {xs : List Value} (h : w.ownsRow b2 e size v n xs) (hb : b1 ≤ b2) : w.ownsRow b1 e size v n xs := by
  obtain ⟨hl, h | ⟨g, cap, cur, hv, h2, h3⟩⟩ := h
  · exact ⟨hl, .inl h⟩
  · exact ⟨hl, .inr ⟨g, cap, cur, hv, by omega, h3⟩⟩
theorem rise_at {l : List (Int × Int)} (h : RiseP l) (k : Nat) (h1 : k + 1 < l.length) : l[k].2 < l[k + 1].1 := (List.pairwise_iff_getElem.1 h.2) k (k + 1) (by omega) h1 (by omega)
set_option maxRecDepth 100000 in
set_option maxHeartbeats 16000000 in
theorem win_good (a : Nat → Addr) (b o : Nat) (F S : Int) (r : Option Addr) (c : Nat) (L : List Int) (n : Int) (r3 : Option Addr) (Z : List Int) (c3 : Nat) (w : World) (hs : Sen a allK w) (h : TrAt w b o F S r c L) (hnil : r = none → c = 0) (hl1 : L.length ≤ 300) (h3 : InAt w r3 Z) (hnil3 : r3 = none → c3 = 0) (hl2 : Z.length ≤ 100) (hW : winE F S L n = 0) :
    Calls Tryd.prog 13 #[.pointer (some ⟨b, o, none⟩), .int .i64 n, .slice r3 Z.length c3] w fun e w' => e = .returned (.bool true) ∧ Below w.heap.size w w' := by
  have hE : trE F S L = 0 ∧ bigH n = false := by
    unfold winE at hW
    by_cases h1 : trE F S L = 0
    · rw [if_neg (by simpa using h1)] at hW
      refine ⟨h1, ?_⟩
      cases hb : bigH n
      · rfl
      · rw [hb] at hW; simp at hW
    · rw [if_pos h1] at hW; exact absurd hW h1
  obtain ⟨h0, hb⟩ := hE
  have FT := fit_of h0
  obtain ⟨T, rfl⟩ : ∃ T : Nat, S = (T : Int) := ⟨S.toNat, by have := FT.s; omega⟩
  obtain ⟨p0, p1, p2⟩ := fit_prod FT
  have FTH := Lib.hid FT
  obtain ⟨two, most, f1, f2, s1, l1, hh⟩ := FT
  have hn1 : -1099511627776 ≤ n ∧ n ≤ 1099511627776 := by
    unfold bigH at hb
    simp at hb
    omega
  have hs3 : Sen a [2, 3, 5] w := hs.sub (by decide)
  have TK := Lib.hid (tracked_walk a w hs3)
  have LG := Lib.hid (fun X => large_walk n X)
  rw [hb] at LG
  have CP := Lib.hid (fun X (hX : Below w.heap.size w X) => track_walk b o F T r c L X (by omega) (h.below hX) hnil)
  have WW := Lib.hid (fun X r1 c1 (hX : Below w.heap.size w X) (hi : InAt X r1 L) => windows_walk a F T r1 c1 L n X (hs3.below hX) (by omega) hi h0 hb)
  have TE := Lib.hid (fun X (hX : Below w.heap.size w X) => show Calls Tryd.prog 60 #[.pointer (some ⟨b, o, none⟩)] X fun e w' => e = .returned (.int .i64 0) ∧ Below X.heap.size X w' from by
    have h := trackError_walk b o F T r c L X (by omega) (h.below hX)
    rw [h0] at h
    exact h)
  have AB := Lib.hid (fun x (hx1 : F ≤ x) (hx2 : x ≤ F + ((L.length : Int) - 1) * T) X (hX : Below w.heap.size w X) => aboveAt_walk b o F T r c L n x X FTH.out hn1.1 hn1.2 (h.below hX) hx1 (by unfold lastT; exact hx2))
  have WS := Lib.hid (windows_spec (F := F) (S := T) (n := n) (L := L) (by omega) (by omega))
  have WL := windows_length F T n L two
  unfold WiPost at WW
  generalize windows F T n L = WN at WW WS WL
  have SO := Lib.hid (fun X r1 c1 (hi : SpAt X r1 WN) => spansOf_own r1 WN c1 X (by omega) hi)
  have IS := Lib.hid (fun X r1 c1 x (hi : SpAt X r1 WN) => inSpans_walk r1 WN c1 x X (by omega) hi)
  have HT := Lib.hid h
  have HZ := Lib.hid h3
  have n3' : ¬ (100 : Int) < Z.length := by omega
  have e3 : decide ((100 : Int) < Z.length) = false := decide_eq_false n3'
  have n1 : ¬ (300 : Int) < L.length := by omega
  have e1 : decide ((300 : Int) < L.length) = false := decide_eq_false n1
  unfold lastT at l1
  obtain ⟨last, hlast⟩ : ∃ last, F + ((L.length : Int) - 1) * T = last := ⟨_, rfl⟩
  rw [hlast] at l1
  have HL := Lib.hid hlast
  obtain ⟨i0, hi, hz0, hz1, hz2⟩ := info_parts info_in
  have HI := Lib.hid hi
  have HZ0 := Lib.hid hz0
  have HZ1 := Lib.hid hz1
  have HZ2 := Lib.hid hz2
  have HN3 := Lib.hid hnil3
  clear hs h hnil h3 hW h0 hb hh hs3 hi hz0 hz1 hz2 hnil3
  go_enter Tryd.func13, Tryd.ntmps13
  go_wp2_with (first
    | (go_at_call 56; (with_reducible refine TK.out.mono ?_); rintro e w1 ⟨rfl, hb⟩; have G := Lib.hid hb; have d2 := (HT.out.below hb).c2; have lb := (HT.out.below hb).lt; clear hb)
    | (go_at_call 61; (with_reducible refine (LG.out _).mono ?_); rintro e w2 ⟨rfl, rfl⟩)
    | (go_at_call 57; (with_reducible refine (CP.out _ G.out).mono ?_); rintro e w3 ⟨r1, k1, rfl, hi, hb⟩; have IN := Lib.hid hi; replace G := Lib.hid (grow_trans G.out hb); clear hb hi)
    | (go_at_call 66; (with_reducible refine (WW.out _ _ _ G.out IN.out).mono ?_); rintro e w4 ⟨r4, k4, rfl, hsp, hb⟩; have SP := Lib.hid hsp; replace G := Lib.hid (grow_trans G.out hb); clear hb IN hsp)
    | (go_at_call 60; (with_reducible refine (TE.out _ G.out).mono ?_); rintro e w5 ⟨rfl, hb⟩; replace SP := Lib.hid (SP.out.below hb); replace G := Lib.hid (grow_trans G.out hb); clear hb d2 lb; have TX := Lib.hid (HT.out.below G.out); have d0 := TX.out.c0; have d1 := TX.out.c1; have d2 := TX.out.c2; have lb := TX.out.lt))
  go_quiet (fail)
  obtain ⟨W0, hW0⟩ : ∃ W0, w5.drewN nq = W0 := ⟨_, rfl⟩
  have G0 := Lib.hid (show Below w.heap.size w W0 by rw [← hW0]; exact grow_drewN G.out _)
  have S0 := Lib.hid (show SpAt W0 r4 WN by rw [← hW0]; exact SP.out.below (grow_drewN (grow_refl _) _))
  rw [hW0]
  clear hW0 G SP TX d0 d1 d2 lb
  have Z0 := Lib.hid (HZ.out.below G0.out)
  go_wp2_with (first
    | (at_builtin; refine wpList_append_in rfl _ _ rfl rfl _ _ Z rfl Z0.out HN3.out (by omega) ?_; intro v1 W1 hown hb9; have O1 := Lib.hid hown; have B1 := Lib.hid hb9; clear hown hb9)
    | (go_at_call 54; (with_reducible refine (SO.out _ _ _ (S0.out.below B1.out)).mono ?_); rintro e W2 ⟨v2, rfl, hown, hb9⟩; have O2 := Lib.hid (own_le hown B1.out.size); have O3 := Lib.hid (ownsRow_belowS O1.out hb9); have B2 := Lib.hid (grow_trans B1.out hb9); clear hown hb9))
  clear O1 B1 TK LG CP WW TE SO
  obtain ⟨B, hB⟩ : ∃ B, W0.heap.size = B := ⟨_, rfl⟩
  have hB2 := B2.out.size
  rw [hB] at O2 O3 B2 hB2
  go_loopw [13, 15] (fun v13 v15 wr => At1 B W0 100 WN.length WN v2 v13 v15 wr) (fun _ i _ => WN.length - (intOf i).toNat)
  case atStart => exact ⟨0, Z, Nat.zero_le _, rfl, O3.out, by omega, O2.out, B2.out, hB2⟩
  case round =>
    obtain ⟨k, zs, hk, rfl, hown, hzl, hsp, hg, hgs⟩ := hrel
    have O := Lib.hid hown
    have P2 := Lib.hid hsp
    have G := Lib.hid hg
    clear hown hg hsp
    by_cases hlt : k < WN.length
    · obtain ⟨b1, o1, rfl, hc⟩ := S0.out.resolve_left (by intro h; rw [h] at hlt; exact absurd hlt (by simp))
      obtain ⟨f0, g0⟩ := hc k hlt
      have hb1 : b1 < W0.heap.size := lt_of_cellS f0
      have hb1r : b1 < wr.heap.size := by omega
      have x1 := WS.out.1.1 WN[k] (List.getElem_mem _)
      obtain ⟨x2, x3⟩ := WS.out.2.1 WN[k] (List.getElem_mem _)
      rw [HL.out] at x3
      have hi0 : (0 : Int) ≤ (k : Int) := by omega
      have hi1 : (k : Int) < (WN.length : Int) := by omega
      have TX := Lib.hid (HT.out.below G0.out)
      have q0 := TX.out.c0
      have q1 := TX.out.lt
      have E3 := Lib.hid q0
      rw [hB] at hb1 q1
      have Q1 := Lib.hid q1
      have E0 := Lib.hid f0
      have E1 := Lib.hid g0
      have e0 := (G.out.cell (p := ⟨b1, _, none⟩) hb1).trans E0.out
      have e1 := (G.out.cell (p := ⟨b1, _, none⟩) hb1).trans E1.out
      have e2 := (G.out.cell (p := ⟨b, _, none⟩) Q1.out).trans E3.out
      have q2 : b < wr.heap.size := by have := Q1.out; omega
      have C3 := Lib.hid (show zs.length + 4 ≤ maxLen by unfold maxLen; omega)
      have C4 := Lib.hid (show (zs.length + 4) * 8 ≤ 140737488355328 by omega)
      clear q0 q1 f0 g0
      rcases Nat.eq_zero_or_pos k with hk0 | hk0
      · have d3 : decide (0 < k) = false := decide_eq_false (by omega)
        have k3 : ¬ (0 : Int) < (k : Int) := by omega
        clear hc hk0
        generalize WN[k] = x at e0 e1 E0 E1 x1 x2 x3
        obtain ⟨xa, xb⟩ := x
        simp only at e0 e1 E0 E1 x1 x2 x3
        have d1 : decide (xb ≤ xa) = false := decide_eq_false (by omega)
        have d4 : decide (xa < F) = false := decide_eq_false (by omega)
        have d5 : decide (last + 1 < xb) = false := decide_eq_false (by omega)
        go_wp2
        go_quiet (fail)
        go_wp2
        have O5 := Lib.hid (ownsRow_belowS O.out (grow_drewN (grow_refl wr) nq))
        have P5 := Lib.hid (ownsRow_belowS P2.out (grow_drewN (grow_refl wr) nq))
        have G5 := Lib.hid (G.out.trans ((grow_drewN (grow_refl wr) nq).mono hgs))
        have hg5 : B ≤ (wr.drewN nq).heap.size := by simpa using hgs
        clear O P2 G e0 e1 e2 q2 hb1r hgs
        generalize wr.drewN nq = wx at O5 P5 G5 hg5 ⊢
        have hb1x : b1 < wx.heap.size := by omega
        have e0 := (G5.out.cell (p := ⟨b1, _, none⟩) hb1).trans E0.out
        have e1 := (G5.out.cell (p := ⟨b1, _, none⟩) hb1).trans E1.out
        refine Rel.wp_region_rel_late (fun _ _ _ => False) 23 0 23 (by kernel_rfl) (by kernel_rfl) (lexTailB_of_fast (by kernel_rfl) (by kernel_rfl) (by kernel_rfl)) (by decide) (fun _ _ _ _ _ h => h) ?_
        simp only [List.append_eq, List.cons_append, List.nil_append, List.take_succ_cons, List.take_zero, List.drop_succ_cons, List.drop_zero]
        repeat (first
          | (refine Fl.rel_plain (by rfl) rfl ?_; intro K hK; go_big_quiet_op; go_big_quiet_on)
          | (refine Fl.rel_skip (by rfl) ?_; simp only [Act.put, List.setIfInBounds_toArray, List.set_cons_zero, List.set_cons_succ]))
        refine Rel.wpRel_nil ?_
        intro w6 hB9 hG9
        clear hG9
        have OX := Lib.hid (ownsRow_belowS O5.out hB9)
        have PX := Lib.hid (ownsRow_belowS P5.out hB9)
        have GX := Lib.hid (G5.out.trans (hB9.mono hg5))
        have hz4 := hB9.size
        clear O5 P5 G5 e0 e1 hB9
        have C5 := Lib.hid (show B ≤ (w6.alloc (.cells (ivL [xa - 1, xa, xb - 1, xb]).toArray 3)).heap.size by simp; omega)
        go_wp2_with (at_builtin; refine wpList_append_own _ rfl _ _ 82 rfl B 3 i0 (.int .i64 0) 1 8 Tryd.underlying82 HI.out HZ0.out HZ1.out HZ2.out rfl (by decide) _ _ _ rfl (OX.out.alloc _) ⟨w6.heap.size, 0, none⟩ 4 4 (ivL [xa - 1, xa, xb - 1, xb]) rfl rfl (news_iv w6 [xa - 1, xa, xb - 1, xb] 3) (iv_cell _) C3.out C4.out C5.out ?_)
        intro v' w7 hown' hg' _
        have HO2 := Lib.hid hown'
        have HP2 := Lib.hid (ownsRow_grown (by decide) (OX.out.alloc _) (PX.out.alloc _) hg')
        have HG2 := Lib.hid hg'
        clear hown' hg'
        go_wp2
        go_roundw
        case rel =>
          refine ⟨k + 1, zs ++ [xa - 1, xa, xb - 1, xb], by omega, by go_num, ?_, by simp; omega, HP2.out, below_grownS (GX.out.alloc (by omega) _) (by simp; omega) HG2.out (fun k hk => (OX.out.lt k hk).1), by have := HG2.out.size; simp at this; omega⟩
          rw [ivL_append, List.length_append]
          exact HO2.out
        case measure => simp [intOf]; omega
      · obtain ⟨j, hj⟩ : ∃ j, j + 1 = k := ⟨k - 1, by omega⟩
        obtain ⟨f2, g2⟩ := hc j (by omega)
        have g3 : WN[j].2 < WN[k].1 := by subst hj; exact rise_at WS.out.1 j hlt
        have hjl : j < WN.length := by omega
        have e3 := (G.out.cell (p := ⟨b1, _, none⟩) hb1).trans g2
        clear hc f2 g2
        generalize WN[k] = x at e0 e1 E0 E1 x1 x2 x3 g3
        generalize WN[j] = y at e3 g3
        obtain ⟨xa, xb⟩ := x
        obtain ⟨ya, yb⟩ := y
        simp only at e0 e1 E0 E1 x1 x2 x3 e3 g3
        have d1 : decide (xb ≤ xa) = false := decide_eq_false (by omega)
        have d2 : decide (xa ≤ yb) = false := decide_eq_false (by omega)
        have d3 : decide (0 < k) = true := decide_eq_true (by omega)
        have d4 : decide (xa < F) = false := decide_eq_false (by omega)
        have d5 : decide (last + 1 < xb) = false := decide_eq_false (by omega)
        have e4 : (k : Int) - 1 = (j : Int) := by omega
        have hj0 : (0 : Int) ≤ (j : Int) := by omega
        have hj1 : (j : Int) < (WN.length : Int) := by omega
        go_wp2
        go_quiet (fail)
        go_wp2
        clear e3 g3 hj e4
        have O5 := Lib.hid (ownsRow_belowS O.out (grow_drewN (grow_refl wr) nq))
        have P5 := Lib.hid (ownsRow_belowS P2.out (grow_drewN (grow_refl wr) nq))
        have G5 := Lib.hid (G.out.trans ((grow_drewN (grow_refl wr) nq).mono hgs))
        have hg5 : B ≤ (wr.drewN nq).heap.size := by simpa using hgs
        clear O P2 G e0 e1 e2 q2 hb1r hgs
        generalize wr.drewN nq = wx at O5 P5 G5 hg5 ⊢
        have hb1x : b1 < wx.heap.size := by omega
        have e0 := (G5.out.cell (p := ⟨b1, _, none⟩) hb1).trans E0.out
        have e1 := (G5.out.cell (p := ⟨b1, _, none⟩) hb1).trans E1.out
        refine Rel.wp_region_rel_late (fun _ _ _ => False) 23 0 23 (by kernel_rfl) (by kernel_rfl) (lexTailB_of_fast (by kernel_rfl) (by kernel_rfl) (by kernel_rfl)) (by decide) (fun _ _ _ _ _ h => h) ?_
        simp only [List.append_eq, List.cons_append, List.nil_append, List.take_succ_cons, List.take_zero, List.drop_succ_cons, List.drop_zero]
        repeat (first
          | (refine Fl.rel_plain (by rfl) rfl ?_; intro K hK; go_big_quiet_op; go_big_quiet_on)
          | (refine Fl.rel_skip (by rfl) ?_; simp only [Act.put, List.setIfInBounds_toArray, List.set_cons_zero, List.set_cons_succ]))
        refine Rel.wpRel_nil ?_
        intro w6 hB9 hG9
        clear hG9
        have OX := Lib.hid (ownsRow_belowS O5.out hB9)
        have PX := Lib.hid (ownsRow_belowS P5.out hB9)
        have GX := Lib.hid (G5.out.trans (hB9.mono hg5))
        have hz4 := hB9.size
        clear O5 P5 G5 e0 e1 hB9
        have C5 := Lib.hid (show B ≤ (w6.alloc (.cells (ivL [xa - 1, xa, xb - 1, xb]).toArray 3)).heap.size by simp; omega)
        go_wp2_with (at_builtin; refine wpList_append_own _ rfl _ _ 82 rfl B 3 i0 (.int .i64 0) 1 8 Tryd.underlying82 HI.out HZ0.out HZ1.out HZ2.out rfl (by decide) _ _ _ rfl (OX.out.alloc _) ⟨w6.heap.size, 0, none⟩ 4 4 (ivL [xa - 1, xa, xb - 1, xb]) rfl rfl (news_iv w6 [xa - 1, xa, xb - 1, xb] 3) (iv_cell _) C3.out C4.out C5.out ?_)
        intro v' w7 hown' hg' _
        have HO2 := Lib.hid hown'
        have HP2 := Lib.hid (ownsRow_grown (by decide) (OX.out.alloc _) (PX.out.alloc _) hg')
        have HG2 := Lib.hid hg'
        clear hown' hg'
        go_wp2
        go_roundw
        case rel =>
          refine ⟨k + 1, zs ++ [xa - 1, xa, xb - 1, xb], by omega, by go_num, ?_, by simp; omega, HP2.out, below_grownS (GX.out.alloc (by omega) _) (by simp; omega) HG2.out (fun k hk => (OX.out.lt k hk).1), by have := HG2.out.size; simp at this; omega⟩
          rw [ivL_append, List.length_append]
          exact HO2.out
        case measure => simp [intOf]; omega
    · obtain rfl : k = WN.length := by omega
      go_wp2
      go_loopw [13, 16] (fun v13 v16 wr => At1 B W0 1300 L.length WN v2 v13 v16 wr) (fun _ i _ => L.length - (intOf i).toNat)
      case atStart => exact ⟨0, zs, Nat.zero_le _, rfl, O.out, by omega, P2.out, G.out, hgs⟩
      case round =>
        clear O P2 G hgs
        obtain ⟨k, zs, hk, rfl, hown, hzl, hsp, hg, hgs⟩ := hrel
        have O := Lib.hid hown
        have P2 := Lib.hid hsp
        have G := Lib.hid hg
        clear hown hg hsp
        have TX := Lib.hid (HT.out.below G0.out)
        have q1 := TX.out.lt
        rw [hB] at q1
        have e2 := (G.out.cell (p := ⟨b, _, none⟩) q1).trans TX.out.c2
        have q2 : b < wr.heap.size := by omega
        by_cases hlt : k < L.length
        · have e0 := (G.out.cell (p := ⟨b, _, none⟩) q1).trans TX.out.c0
          have e1 := (G.out.cell (p := ⟨b, _, none⟩) q1).trans TX.out.c1
          have kt0 : (0 : Int) ≤ (k : Int) * (T : Int) := Int.mul_nonneg (by omega) (by omega)
          have kt1 : (k : Int) * (T : Int) ≤ ((L.length : Int) - 1) * T := Int.mul_le_mul_of_nonneg_right (by omega) (by omega)
          have hi1 : (k : Int) < (L.length : Int) := by omega
          have C3 := Lib.hid (show zs.length + 1 ≤ maxLen by unfold maxLen; omega)
          have C4 := Lib.hid (show (zs.length + 1) * 8 ≤ 140737488355328 by omega)
          obtain ⟨y, hy⟩ : ∃ y, F + (k : Int) * (T : Int) = y := ⟨_, rfl⟩
          go_wp2
          refine Rel.wp_region_rel_late (fun _ _ _ => False) 12 0 12 (by kernel_rfl) (by kernel_rfl) (lexTailB_of_fast (by kernel_rfl) (by kernel_rfl) (by kernel_rfl)) (by decide) (fun _ _ _ _ _ h => h) ?_
          simp only [List.append_eq, List.cons_append, List.nil_append, List.take_succ_cons, List.take_zero, List.drop_succ_cons, List.drop_zero]
          repeat (first
            | (refine Fl.rel_plain (by rfl) rfl ?_; intro K hK; go_big_quiet_op; go_big_quiet_on)
            | (refine rel_nilCheck (by rfl) rfl rfl ?_; simp only [Act.put, List.setIfInBounds_toArray, List.set_cons_zero, List.set_cons_succ])
            | (refine Fl.rel_skip (by rfl) ?_; simp only [Act.put, List.setIfInBounds_toArray, List.set_cons_zero, List.set_cons_succ]))
          refine Rel.wpRel_nil ?_
          intro w6 hB9 hG9
          clear hG9
          have OX := Lib.hid (ownsRow_belowS O.out hB9)
          have PX := Lib.hid (ownsRow_belowS P2.out hB9)
          have GX := Lib.hid (G.out.trans (hB9.mono hgs))
          have hz4 := hB9.size
          clear O P2 G e0 e1 e2 q2 hB9
          have C5 := Lib.hid (show B ≤ (w6.alloc (.cells (ivL [y]).toArray 3)).heap.size by simp; omega)
          go_wp2_with (at_builtin; refine wpList_append_own _ rfl _ _ 82 rfl B 3 i0 (.int .i64 0) 1 8 Tryd.underlying82 HI.out HZ0.out HZ1.out HZ2.out rfl (by decide) _ _ _ rfl (OX.out.alloc _) ⟨w6.heap.size, 0, none⟩ 1 1 (ivL [y]) rfl rfl (news_iv w6 [y] 3) (iv_cell _) C3.out C4.out C5.out ?_)
          intro v' w7 hown' hg' _
          have HO2 := Lib.hid hown'
          have HP2 := Lib.hid (ownsRow_grown (by decide) (OX.out.alloc _) (PX.out.alloc _) hg')
          have HG2 := Lib.hid hg'
          clear hown' hg'
          go_wp2
          go_roundw
          case rel =>
            refine ⟨k + 1, zs ++ [y], by omega, by go_num, ?_, by simp; omega, HP2.out, below_grownS (GX.out.alloc (by omega) _) (by simp; omega) HG2.out (fun k hk => (OX.out.lt k hk).1), by have := HG2.out.size; simp at this; omega⟩
            rw [ivL_append, List.length_append]
            exact HO2.out
          case measure => simp [intOf]; omega
        · obtain rfl : k = L.length := by omega
          obtain ⟨rz, cz, rfl, hin⟩ := in_of_owns2 O.out
          obtain ⟨rs, cs, rfl, hss⟩ := sp_of_owns P2.out
          have IN := Lib.hid hin
          have SS := Lib.hid hss
          have GW := Lib.hid (show Below w.heap.size w wr from G0.out.trans (G.out.mono (by have := G0.out.size; omega)))
          clear hin hss O P2 G hgs
          go_wp2
          clear e2 q2 q1
          obtain ⟨wq, hwq⟩ : ∃ wq, wr = wq := ⟨_, rfl⟩
          rw [hwq] at GW IN SS ⊢
          clear hwq
          go_loopw [17] (fun v17 w8 => ∃ k : Nat, k ≤ zs.length ∧ v17 = .int .i64 k ∧ Below wq.heap.size wq w8) (fun i _ => zs.length - (intOf i).toNat)
          case atStart => exact ⟨0, Nat.zero_le _, rfl, Below.refl _ _⟩
          case round =>
            obtain ⟨k, hk, rfl, hg⟩ := hrel
            have G := Lib.hid hg
            clear hg
            by_cases hlt : k < zs.length
            · obtain ⟨b1, hb0, rfl, hc⟩ := IN.out.resolve_left (by intro h; rw [h] at hlt; exact absurd hlt (by simp))
              have f0 := hc k hlt
              have hb1 : b1 < wq.heap.size := lt_of_cellS f0
              have hi0 : (0 : Int) ≤ (k : Int) := by omega
              have hi1 : (k : Int) < (zs.length : Int) := by omega
              clear hc
              generalize zs[k] = x at f0
              have E0 := Lib.hid f0
              have TX := Lib.hid (HT.out.below (GW.out))
              have d0 := (G.out.cell (p := ⟨b1, _, none⟩) hb1).trans E0.out
              have q1 := TX.out.lt
              have e2 := (G.out.cell (p := ⟨b, _, none⟩) q1).trans TX.out.c0
              have q2 : b < wr.heap.size := Nat.lt_of_lt_of_le q1 G.out.size
              clear f0
              by_cases h1 : x < F
              · have d1 : decide (x < F) = true := decide_eq_true h1
                go_wp2
                go_quiet (fail)
                go_wp2
                go_roundw
                case rel => exact ⟨k + 1, by omega, by go_num, grow_drewN G.out _⟩
                case measure => simp [intOf]; omega
              by_cases h2 : last < x
              · have d1 : decide (x < F) = false := decide_eq_false h1
                have d2 : decide (last < x) = true := decide_eq_true h2
                go_wp2
                go_quiet (fail)
                go_wp2
                go_roundw
                case rel => exact ⟨k + 1, by omega, by go_num, grow_drewN G.out _⟩
                case measure => simp [intOf]; omega
              have d1 : decide (x < F) = false := decide_eq_false h1
              have d2 : decide (last < x) = false := decide_eq_false h2
              have A1 := Lib.hid (fun (X : World) (hX : Below wq.heap.size wq X) => IS.out X rs cs x (SS.out.below hX))
              have A2 := Lib.hid (fun (X : World) (hX : Below wq.heap.size wq X) => AB.out x (by omega) (by rw [HL.out]; omega) X (grow_trans GW.out hX))
              rw [WS.out.2.2 x (by omega) (by rw [HL.out]; omega)] at A1
              generalize above F T n L x = p at A1 A2
              cases p
              all_goals
                go_wp2
                go_quiet (fail)
                have G2 := Lib.hid (grow_drewN G.out nq)
                clear G d0 e2 q2
                generalize wr.drewN nq = w9 at G2 ⊢
                have d0 := (G2.out.cell (p := ⟨b1, _, none⟩) hb1).trans E0.out
                have z0 := trivial
                go_wp2_with (first
                  | (go_at_call 55; (with_reducible refine (A1.out _ G2.out).mono ?_); rintro e y0 ⟨rfl, hb⟩; replace G2 := Lib.hid (grow_trans G2.out hb); clear hb d0; have d0 := (G2.out.cell (p := ⟨b1, _, none⟩) hb1).trans E0.out)
                  | (go_at_call 67; (with_reducible refine (A2.out _ G2.out).mono ?_); rintro e y1 ⟨rfl, hb⟩; replace G2 := Lib.hid (grow_trans G2.out hb); clear hb d0))
                go_roundw
                case rel => exact ⟨k + 1, by omega, by go_num, G2.out⟩
                case measure => simp [intOf]; omega
            · obtain rfl : k = zs.length := by omega
              go_wp2
              go_ret
              exact ⟨by simp, grow_trans GW.out G.out⟩
end Go.Proofs.YtlfpfeidaohjmaaDoor
