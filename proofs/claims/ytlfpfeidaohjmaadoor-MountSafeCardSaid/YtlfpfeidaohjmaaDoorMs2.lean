/- MountSafe: the law's walk where there are no commands. -/
import Derived.Test.YtlfpfeidaohjmaaDoorMs1
set_option linter.unusedSimpArgs false
set_option linter.unusedVariables false
namespace Go.Proofs.YtlfpfeidaohjmaaDoor
open Go.RowKit Go.Grow Go.Mo
set_option maxRecDepth 100000 in
set_option maxHeartbeats 4000000 in
theorem safe_empty (a : Nat → Addr) (A B : Lim) (n : Int) (r : Option Addr) (cap : Nat) (w : World) (hsen : Sen a [2, 5, 6, 7, 10] w) :
    Calls Tryd.prog 5 #[limV A, limV B, .int .i64 n, .slice r 0 cap] w fun e w' => e = .returned (.bool true) ∧ Below w.heap.size w w' := by
  have HS := Lib.hid hsen
  clear hsen
  unfold limV
  · have g : Hid (Below w.heap.size w w) := Lib.hid (Below.refl _ _)
    by_cases h0 : newE A B n = 0
    · have H0 := Lib.hid h0
      clear h0
      go_enter Tryd.func5, Tryd.ntmps5
      go_wp2_with (go_at_call 22; refine (mounted_walk a _ ?_).mono ?_; exact (HS.out.below (grow_alloc (grow_alloc g.out _) _)).sub (by decide); rintro e w1 ⟨rfl, hB⟩; have HB := Lib.hid hB; clear hB)
      have r4 : Known w1 w.heap.size _ := ((Known.new w _ _).alloc _).below HB.out
      have r5 : Known w1 (w.heap.size + 1) _ := (Known.new' (by simp)).below HB.out
      have g2 : Hid (Below w.heap.size w w1) := Lib.hid (grow_trans (grow_alloc (grow_alloc g.out _) _) HB.out)
      clear g HB
      have g := g2
      clear g2
      have hsz := Lib.hid (show w.heap.size + 1 < w1.heap.size from r5.lt)
      go_cut [10, 11] (fun s10 s11 wx => ∃ b, w.heap.size + 1 < b ∧ s10 = .pointer (some ⟨b, 0, none⟩) ∧ s11 = .nilIface ∧ Known wx b (mCells a (st0 A B n)) ∧ Known wx w.heap.size #[.int .i64 A.low, .int .i64 A.high, .int .i64 A.fast, .int .i64 A.home] ∧ Known wx (w.heap.size + 1) #[.int .i64 B.low, .int .i64 B.high, .int .i64 B.fast, .int .i64 B.home] ∧ Below w.heap.size w wx ∧ b < wx.heap.size)
      case first =>
        have LA := Lib.hid (fun x => limits_walk A x)
        have LB := Lib.hid (fun x => limits_walk B x)
        unfold limV at LA LB
        have c4 := r4.cell
        have f4 := r4.frozen
        have c5 := r5.cell
        have f5 := r5.frozen
        go_region_with (first
          | (go_at_call 24; (first | (with_reducible refine (LA.out _).mono ?_) | (with_reducible refine (LB.out _).mono ?_)); rintro e w2 ⟨rfl, hB2⟩; (first | (have r4' := (Known.drew r4).below hB2; have r5' := (Known.drew r5).below hB2; have g' : Hid (Below w.heap.size w w2) := Lib.hid (grow_trans (grow_drew g.out) hB2)) | (have r4' := r4.below hB2; have r5' := r5.below hB2; have g' : Hid (Below w.heap.size w w2) := Lib.hid (grow_trans g.out hB2))); clear r4 r5 g c4 f4 c5 f5 hB2; have r4 := r4'; have r5 := r5'; have g := g'; clear r4' r5' g'; have c4 := r4.cell; have f4 := r4.frozen; have c5 := r5.cell; have f5 := r5.frozen)
          | (go_at_call 23; (with_reducible refine (new_ok a A B n H0.out _ ?_).mono ?_); exact (HS.out.below g.out).sub (by decide); rintro e w3 ⟨b, hb, rfl, m, hB3⟩; have r4' := r4.below hB3; have r5' := r5.below hB3; have g' : Hid (Below w.heap.size w w3) := Lib.hid (grow_trans g.out hB3); have hb' : w.heap.size + 1 < b := Nat.lt_of_lt_of_le r5.lt hb; clear r4 r5 g c4 f4 c5 f5 hB3 hb; have r4 := r4'; have r5 := r5'; have g := g'; clear r4' r5' g'))
        all_goals
          go_wp2_with fail
          go_meet
          exact ⟨_, hb', rfl, rfl, m, r4, r5, g.out, m.lt⟩
      case rest =>
        obtain ⟨b, hb, rfl, rfl, m, r4', r5', g', hbw⟩ := hcut
        clear r4 r5 g hsz
        have r4 := r4'
        have r5 := r5'
        have g := Lib.hid g'
        clear r4' r5' g'
        obtain ⟨hok, hn1, hn2⟩ := st0_ok H0.out
        have HOK := Lib.hid hok
        have HRT := Lib.hid (right0 A B n)
        go_wp2_with (go_at_call 25; refine (at_walk a b (st0 A B n) _ ?_).mono ?_; exact m; rintro e w4 ⟨rfl, hB⟩; simp only [st0]; replace m := m.below hB; replace r4 := r4.below hB; replace r5 := r5.below hB; replace g : Hid (Below w.heap.size w w4) := Lib.hid (grow_trans g.out hB); clear hB)
        go_loopw [12, 13, 14] (fun v12 v13 v14 wr => SafeRel a A B n b 0 w v12 v13 v14 wr) (fun _ _ i _ => 0 - (intOf i).toNat)
        case atStart => exact ⟨0, st0 A B n, Nat.zero_le _, rfl, rfl, rfl, HOK.out, HRT.out, rfl, rfl, rfl, Int.le_refl _, Int.le_refl _, m, r4, r5, g.out⟩
        case round =>
          clear m r4 r5 g hok
          obtain ⟨k, s, hk, rfl, rfl, rfl, hs, hr, rfl, rfl, hpat, hq0, hqk, m, r4, r5, g⟩ := hrel
          have hPAT := Lib.hid hpat
          have HSK := Lib.hid hs
          have HRK := Lib.hid hr
          have G := Lib.hid g
          clear hpat hr g
          have hp := hs.p
          have hq := hs.q
          obtain rfl : k = 0 := by omega
          · have P1 := hp.1
            have Q1 := hq.1
            obtain ⟨pl1, pl2, pl3, pl4, pl5, pl6⟩ := P1
            obtain ⟨ql1, ql2, ql3, ql4, ql5, ql6⟩ := Q1
            clear hp hq
            have hwb := Lib.hid (show w.heap.size ≤ b by omega)
            dsimp only [lCells] at r4 r5
            have c4 := r4.cell
            have f4 := r4.frozen
            have c5 := r5.cell
            have f5 := r5.frozen
            have e1 : IntKind.i64.wrap (s.p.l.high - s.p.l.low) = s.p.l.high - s.p.l.low := IntWalk.i64_in _ (by omega)
            have e2 : IntKind.i64.wrap (s.q.l.high - s.q.l.low) = s.q.l.high - s.q.l.low := IntWalk.i64_in _ (by omega)
            have d1 : 0 ≤ (s.p.l.high - s.p.l.low) / s.p.l.fast := Int.ediv_nonneg (by omega) (by omega)
            have d2 : (s.p.l.high - s.p.l.low) / s.p.l.fast ≤ s.p.l.high - s.p.l.low := Int.ediv_le_self _ (by omega)
            have d3 : 0 ≤ (s.q.l.high - s.q.l.low) / s.q.l.fast := Int.ediv_nonneg (by omega) (by omega)
            have d4 : (s.q.l.high - s.q.l.low) / s.q.l.fast ≤ s.q.l.high - s.q.l.low := Int.ediv_le_self _ (by omega)
            have g1 : (s.p.l.high - s.p.l.low).tdiv s.p.l.fast = (s.p.l.high - s.p.l.low) / s.p.l.fast := Int.tdiv_eq_ediv_of_nonneg (by omega)
            have g2 : (s.q.l.high - s.q.l.low).tdiv s.q.l.fast = (s.q.l.high - s.q.l.low) / s.q.l.fast := Int.tdiv_eq_ediv_of_nonneg (by omega)
            generalize hF1 : (s.p.l.high - s.p.l.low) / s.p.l.fast = F1 at d1 d2 g1
            generalize hF2 : (s.q.l.high - s.q.l.low) / s.q.l.fast = F2 at d3 d4 g2
            have e3 : IntKind.i64.wrap F1 = F1 := IntWalk.i64_in _ (by omega)
            have e4 : IntKind.i64.wrap F2 = F2 := IntWalk.i64_in _ (by omega)
            have e5 : IntKind.i64.wrap (F1 + F2) = F1 + F2 := IntWalk.i64_in _ (by omega)
            have e6 : IntKind.i64.wrap (F1 + F2 + 4) = F1 + F2 + 4 := IntWalk.i64_in _ (by omega)
            have e7 : IntKind.i64.wrap (F1 + F2 + 4 + n) = F1 + F2 + 4 + n := IntWalk.i64_in _ (by omega)
            have z1 : (s.p.l.fast == 0) = false := by simp; omega
            have z2 : (s.q.l.fast == 0) = false := by simp; omega
            have HF1 := Lib.hid hF1
            have HF2 := Lib.hid hF2
            clear hF1 hF2
            by_cases hfar : 3000 < F1 + F2 + 4 + n
            · go_wp2
              go_quiet (fail)
              go_wp2
              go_ret
              exact ⟨rfl, grow_drewN G.out _⟩
            · obtain ⟨far, hf⟩ : ∃ far : Nat, (far : Int) = F1 + F2 + 4 + n := ⟨(F1 + F2 + 4 + n).toNat, by omega⟩
              have hf2 : far ≤ 3000 := by omega
              have PL := Lib.hid (parked_at_last HSK.out HRK.out hq0 (by rw [hPAT.out]; omega) far (by rw [HF1.out, HF2.out, hPAT.out]; omega))
              have HFAR := Lib.hid hf
              clear hf
              go_wp2
              go_quiet (fail)
              go_wp2
              go_loopw [21] (fun v21 wx => EndRel a s.p.l s.q.l b far s w v21 wx) (fun i _ => far - (intOf i).toNat)
              case atStart => exact ⟨0, Nat.zero_le _, rfl, m.drewN _, r4.drewN _, r5.drewN _, grow_drewN G.out _⟩
              case round =>
                clear m r4 r5 G c4 f4 c5 f5
                obtain ⟨j, hj, rfl, m, r4, r5, g⟩ := hrel
                have G := Lib.hid g
                clear g
                dsimp only [lCells] at r4 r5
                by_cases hjf : j < far
                · have hj1 : (j : Int) < F1 + F2 + 4 + n := by have := HFAR.out; omega
                  obtain ⟨t1, t2, t3, t4⟩ := ticks_same s j
                  have hq0' : 0 ≤ (ticks j s).quiet := by rw [t4]; omega
                  have hq1' : (ticks j s).quiet ≤ 4611686018427387904 := by rw [t4]; omega
                  have TW := Lib.hid (fun x hx => tick_walk a b (ticks j s) (ticks_ok HSK.out j) hq0' hq1' x hx)
                  clear t1 t2 t3 t4 hq0' hq1'
                  go_wp2_with (go_at_call 26; (with_reducible refine (TW.out _ ?_).mono ?_); exact m; rintro e w2 ⟨rfl, hL⟩; replace m := hL.1; replace r4 := r4.but hL.2 (by omega); replace r5 := r5.but hL.2 (by omega); replace G : Hid (Below w.heap.size w w2) := Lib.hid (hL.2.below G.out hwb.out); clear hL)
                  go_roundw
                  case rel => exact ⟨j + 1, by omega, by go_num, m, r4, r5, G.out⟩
                  case measure => simp [intOf]; omega
                · have hj1 : ¬ ((j : Int) < F1 + F2 + 4 + n) := by have := HFAR.out; omega
                  obtain rfl : j = far := by omega
                  have c4 := r4.cell
                  have f4 := r4.frozen
                  have l4 := r4.lt
                  have c5 := r5.cell
                  have f5 := r5.frozen
                  have l5 := r5.lt
                  go_wp2_with (first
                    | (go_at_call 25; refine (at_walk a b (ticks j s) _ ?_).mono ?_; exact m; rintro e w2 ⟨rfl, hB⟩; rw [PL.out.2.1, PL.out.2.2]; have m' := m.below hB; have r4' := r4.below hB; have r5' := r5.below hB; have G' : Hid (Below w.heap.size w w2) := Lib.hid (grow_trans G.out hB); clear m r4 r5 G c4 f4 l4 c5 f5 l5 hB; have m := m'; have r4 := r4'; have r5 := r5'; have G := G'; clear m' r4' r5' G'; have c4 := r4.cell; have f4 := r4.frozen; have l4 := r4.lt; have c5 := r5.cell; have f5 := r5.frozen; have l5 := r5.lt)
                    | (go_at_call 31; refine (state_walk a b (ticks j s) _ ?_).mono ?_; exact m; rintro e w2 ⟨rfl, hB⟩; rw [PL.out.1]; have m' := m.below hB; have r4' := r4.below hB; have r5' := r5.below hB; have G' : Hid (Below w.heap.size w w2) := Lib.hid (grow_trans G.out hB); clear m r4 r5 G c4 f4 l4 c5 f5 l5 hB; have m := m'; have r4 := r4'; have r5 := r5'; have G := G'; clear m' r4' r5' G'; have c4 := r4.cell; have f4 := r4.frozen; have l4 := r4.lt; have c5 := r5.cell; have f5 := r5.frozen; have l5 := r5.lt))
                  go_ret
                  exact ⟨rfl, G.out⟩
    · have H0 := Lib.hid h0
      clear h0
      go_enter Tryd.func5, Tryd.ntmps5
      go_wp2_with (go_at_call 22; refine (mounted_walk a _ ?_).mono ?_; exact (HS.out.below (grow_alloc (grow_alloc g.out _) _)).sub (by decide); rintro e w1 ⟨rfl, hB⟩; have HB := Lib.hid hB; clear hB)
      have r4 : Known w1 w.heap.size _ := ((Known.new w _ _).alloc _).below HB.out
      have r5 : Known w1 (w.heap.size + 1) _ := (Known.new' (by simp)).below HB.out
      have g2 : Hid (Below w.heap.size w w1) := Lib.hid (grow_trans (grow_alloc (grow_alloc g.out _) _) HB.out)
      clear g HB
      have g := g2
      clear g2
      have hsz := Lib.hid (show w.heap.size + 1 < w1.heap.size from r5.lt)
      go_cut [10, 11] (fun s10 s11 wx => s10 = .pointer none ∧ s11 = .iface 261 (.pointer (some (a (newE A B n)))) ∧ Below w.heap.size w wx)
      case first =>
        have LA := Lib.hid (fun x => limits_walk A x)
        have LB := Lib.hid (fun x => limits_walk B x)
        unfold limV at LA LB
        have c4 := r4.cell
        have f4 := r4.frozen
        have c5 := r5.cell
        have f5 := r5.frozen
        go_region_with (first
          | (go_at_call 24; (first | (with_reducible refine (LA.out _).mono ?_) | (with_reducible refine (LB.out _).mono ?_)); rintro e w2 ⟨rfl, hB2⟩; (first | (have r4' := (Known.drew r4).below hB2; have r5' := (Known.drew r5).below hB2; have g' : Hid (Below w.heap.size w w2) := Lib.hid (grow_trans (grow_drew g.out) hB2)) | (have r4' := r4.below hB2; have r5' := r5.below hB2; have g' : Hid (Below w.heap.size w w2) := Lib.hid (grow_trans g.out hB2))); clear r4 r5 g c4 f4 c5 f5 hB2; have r4 := r4'; have r5 := r5'; have g := g'; clear r4' r5' g'; have c4 := r4.cell; have f4 := r4.frozen; have c5 := r5.cell; have f5 := r5.frozen)
          | (go_at_call 23; (with_reducible refine (new_no a A B n H0.out _ ?_).mono ?_); exact (HS.out.below g.out).sub (by decide); rintro e w3 ⟨rfl, hB3⟩; have g' : Hid (Below w.heap.size w w3) := Lib.hid (grow_trans g.out hB3); clear r4 r5 g c4 f4 c5 f5 hB3; have g := g'; clear g'))
        all_goals
          go_wp2_with fail
          go_meet
          exact ⟨rfl, rfl, g.out⟩
      case rest =>
        obtain ⟨rfl, rfl, g'⟩ := hcut
        go_wp2
        go_ret
        exact ⟨rfl, g'⟩

end Go.Proofs.YtlfpfeidaohjmaaDoor
