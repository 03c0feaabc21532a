/- MountSafe: the law's walk. -/
import Derived.Test.YtlfpfeidaohjmaaDoorMs0
import Derived.Deep.LoopGhost
import Derived.Outline
set_option linter.unusedSimpArgs false
set_option linter.unusedVariables false
namespace Go.Proofs.YtlfpfeidaohjmaaDoor
open Go.RowKit Go.Grow Go.Mo

/-- A command, or a tick. -/
structure OpZ where
  tick : Bool
  n : Int
  c : ByteArray
  x : Int
  y : Int
/-- The slice's elements lie in w. -/
def OpsIn (w : World) (a0 : Addr) (len : Nat) (ops : Nat → OpZ) : Prop := ∀ k, k < len →
  w.cell? ⟨a0.block, a0.off + k * 5, none⟩ = some (.bool (ops k).tick) ∧ w.cell? ⟨a0.block, a0.off + k * 5 + 1, none⟩ = some (.int .i64 (ops k).n) ∧ w.cell? ⟨a0.block, a0.off + k * 5 + 2, none⟩ = some (.string (ops k).c) ∧
  w.cell? ⟨a0.block, a0.off + k * 5 + 3, none⟩ = some (.int .i64 (ops k).x) ∧ w.cell? ⟨a0.block, a0.off + k * 5 + 4, none⟩ = some (.int .i64 (ops k).y)

theorem OpsIn.below {w w' : World} {a0 : Addr} {len : Nat} {ops : Nat → OpZ} (h : OpsIn w a0 len ops) (hb : Below w.heap.size w w') : OpsIn w' a0 len ops := fun k hk => by
  obtain ⟨h0, h1, h2, h3, h4⟩ := h k hk
  have hl := lt_of_cell h0
  exact ⟨by rw [hb.cell (p := ⟨a0.block, a0.off + k * 5, none⟩) hl]; exact h0, by rw [hb.cell (p := ⟨a0.block, a0.off + k * 5 + 1, none⟩) hl]; exact h1, by rw [hb.cell (p := ⟨a0.block, a0.off + k * 5 + 2, none⟩) hl]; exact h2, by rw [hb.cell (p := ⟨a0.block, a0.off + k * 5 + 3, none⟩) hl]; exact h3, by rw [hb.cell (p := ⟨a0.block, a0.off + k * 5 + 4, none⟩) hl]; exact h4⟩
def lCells (l : Lim) : Array Value := #[.int .i64 l.low, .int .i64 l.high, .int .i64 l.fast, .int .i64 l.home]
/-- What holds at each round's head. -/
def SafeRel (a : Nat → Addr) (A B : Lim) (n : Int) (b len : Nat) (w : World) (v12 v13 v14 : Value) (wr : World) : Prop :=
  ∃ (k : Nat) (s : St), k ≤ len ∧ v14 = .int .i64 k ∧ v12 = .int .i64 s.p.at' ∧ v13 = .int .i64 s.q.at' ∧ s.ok ∧ s.right ∧ s.p.l = A ∧ s.q.l = B ∧ s.patience = n ∧ 0 ≤ s.quiet ∧ s.quiet ≤ k ∧
    Known wr b (mCells a s) ∧ Known wr w.heap.size (lCells A) ∧ Known wr (w.heap.size + 1) (lCells B) ∧ Below w.heap.size w wr
/-- The same for the ticks at the end. -/
def EndRel (a : Nat → Addr) (A B : Lim) (b far : Nat) (s : St) (w : World) (v21 : Value) (wr : World) : Prop :=
  ∃ k : Nat, k ≤ far ∧ v21 = .int .i64 k ∧ Known wr b (mCells a (ticks k s)) ∧ Known wr w.heap.size (lCells A) ∧ Known wr (w.heap.size + 1) (lCells B) ∧ Below w.heap.size w wr

set_option maxRecDepth 100000 in
set_option maxHeartbeats 4000000 in
theorem safe_walk (a : Nat → Addr) (A B : Lim) (n : Int) (b0 o0 len cap : Nat) (ops : Nat → OpZ) (w : World) (hsen : Sen a [2, 5, 6, 7, 10] w) (hops : OpsIn w ⟨b0, o0, none⟩ len ops) (hl : len ≤ 9223372036854775807) :
    Calls Tryd.prog 5 #[limV A, limV B, .int .i64 n, .slice (some ⟨b0, o0, none⟩) len cap] w fun e w' => e = .returned (.bool true) ∧ Below w.heap.size w w' := by
  have HS := Lib.hid hsen
  have HO := Lib.hid hops
  clear hsen hops
  unfold limV
  by_cases h3 : 300 < len
  · have g : Hid (Below w.heap.size w w) := Lib.hid (Below.refl _ _)
    go_enter Tryd.func5, Tryd.ntmps5
    go_wp2_with (go_at_call 22; refine (mounted_walk a _ ?_).mono ?_; exact (HS.out.below (grow_alloc (grow_alloc g.out _) _)).sub (by decide); rintro e w1 ⟨rfl, hB⟩; have HB := Lib.hid hB; clear hB)
    go_ret
    exact ⟨rfl, grow_trans (grow_alloc (grow_alloc g.out _) _) HB.out⟩
  · have g : Hid (Below w.heap.size w w) := Lib.hid (Below.refl _ _)
    by_cases h0 : newE A B n = 0
    · have H0 := Lib.hid h0
      clear h0
      go_enter Tryd.func5, Tryd.ntmps5
      go_wp2_with (go_at_call 22; refine (mounted_walk a _ ?_).mono ?_; exact (HS.out.below (grow_alloc (grow_alloc g.out _) _)).sub (by decide); rintro e w1 ⟨rfl, hB⟩; have HB := Lib.hid hB; clear hB)
      have r4 : Known w1 w.heap.size _ := ((Known.new w _ _).alloc _).below HB.out
      have r5 : Known w1 (w.heap.size + 1) _ := (Known.new' (by simp)).below HB.out
      have g2 : Hid (Below w.heap.size w w1) := Lib.hid (grow_trans (grow_alloc (grow_alloc g.out _) _) HB.out)
      clear g HB
      have g := g2
      clear g2
      have hsz := Lib.hid (show w.heap.size + 1 < w1.heap.size from r5.lt)
      go_cut [10, 11] (fun s10 s11 wx => ∃ b, w.heap.size + 1 < b ∧ s10 = .pointer (some ⟨b, 0, none⟩) ∧ s11 = .nilIface ∧ Known wx b (mCells a (st0 A B n)) ∧ Known wx w.heap.size #[.int .i64 A.low, .int .i64 A.high, .int .i64 A.fast, .int .i64 A.home] ∧ Known wx (w.heap.size + 1) #[.int .i64 B.low, .int .i64 B.high, .int .i64 B.fast, .int .i64 B.home] ∧ Below w.heap.size w wx ∧ b < wx.heap.size)
      case first =>
        have LA := Lib.hid (fun x => limits_walk A x)
        have LB := Lib.hid (fun x => limits_walk B x)
        unfold limV at LA LB
        have c4 := r4.cell
        have f4 := r4.frozen
        have c5 := r5.cell
        have f5 := r5.frozen
        go_region_with (first
          | (go_at_call 24; (first | (with_reducible refine (LA.out _).mono ?_) | (with_reducible refine (LB.out _).mono ?_)); rintro e w2 ⟨rfl, hB2⟩; (first | (have r4' := (Known.drew r4).below hB2; have r5' := (Known.drew r5).below hB2; have g' : Hid (Below w.heap.size w w2) := Lib.hid (grow_trans (grow_drew g.out) hB2)) | (have r4' := r4.below hB2; have r5' := r5.below hB2; have g' : Hid (Below w.heap.size w w2) := Lib.hid (grow_trans g.out hB2))); clear r4 r5 g c4 f4 c5 f5 hB2; have r4 := r4'; have r5 := r5'; have g := g'; clear r4' r5' g'; have c4 := r4.cell; have f4 := r4.frozen; have c5 := r5.cell; have f5 := r5.frozen)
          | (go_at_call 23; (with_reducible refine (new_ok a A B n H0.out _ ?_).mono ?_); exact (HS.out.below g.out).sub (by decide); rintro e w3 ⟨b, hb, rfl, m, hB3⟩; have r4' := r4.below hB3; have r5' := r5.below hB3; have g' : Hid (Below w.heap.size w w3) := Lib.hid (grow_trans g.out hB3); have hb' : w.heap.size + 1 < b := Nat.lt_of_lt_of_le r5.lt hb; clear r4 r5 g c4 f4 c5 f5 hB3 hb; have r4 := r4'; have r5 := r5'; have g := g'; clear r4' r5' g'))
        all_goals
          go_wp2_with fail
          go_meet
          exact ⟨_, hb', rfl, rfl, m, r4, r5, g.out, m.lt⟩
      case rest =>
        obtain ⟨b, hb, rfl, rfl, m, r4', r5', g', hbw⟩ := hcut
        clear r4 r5 g hsz
        have r4 := r4'
        have r5 := r5'
        have g := Lib.hid g'
        clear r4' r5' g'
        obtain ⟨hok, hn1, hn2⟩ := st0_ok H0.out
        have HOK := Lib.hid hok
        have HRT := Lib.hid (right0 A B n)
        go_wp2_with (go_at_call 25; refine (at_walk a b (st0 A B n) _ ?_).mono ?_; exact m; rintro e w4 ⟨rfl, hB⟩; simp only [st0]; replace m := m.below hB; replace r4 := r4.below hB; replace r5 := r5.below hB; replace g : Hid (Below w.heap.size w w4) := Lib.hid (grow_trans g.out hB); clear hB)
        go_loopw [12, 13, 14] (fun v12 v13 v14 wr => SafeRel a A B n b len w v12 v13 v14 wr) (fun _ _ i _ => len - (intOf i).toNat)
        case atStart => exact ⟨0, st0 A B n, Nat.zero_le _, rfl, rfl, rfl, HOK.out, HRT.out, rfl, rfl, rfl, Int.le_refl _, Int.le_refl _, m, r4, r5, g.out⟩
        case round =>
          clear m r4 r5 g hok
          obtain ⟨k, s, hk, rfl, rfl, rfl, hs, hr, rfl, rfl, hpat, hq0, hqk, m, r4, r5, g⟩ := hrel
          have hPAT := Lib.hid hpat
          have HSK := Lib.hid hs
          have HRK := Lib.hid hr
          have G := Lib.hid g
          clear hpat hr g
          have hp := hs.p
          have hq := hs.q
          by_cases hlt : k < len
          · obtain ⟨c0, c1, c2, c3, c4⟩ := (HO.out.below G.out) k hlt
            simp only at c0 c1 c2 c3 c4
            have hbs : ∀ j ∈ [6, 7, 10], gOf j ≠ b ∧ (a j).block ≠ b := fun j hj => by
              have := HS.out.lt (k := j) (by revert hj; simp; omega)
              omega
            have HBS := Lib.hid hbs
            clear hbs
            have hwb := Lib.hid (show w.heap.size ≤ b by omega)
            have P1 := hp.2.1
            have P2 := hp.2.2.1
            have Q1 := hq.2.1
            have Q2 := hq.2.2.1
            have pl := hp.1
            have ql := hq.1
            obtain ⟨pl1, pl2, pl3, pl4, pl5, pl6⟩ := pl
            obtain ⟨ql1, ql2, ql3, ql4, ql5, ql6⟩ := ql
            dsimp only [lCells] at r4 r5
            cases htk : (ops k).tick with
            | true =>
              rw [htk] at c0
              have HT := Lib.hid (tick_walk a b s hs hq0 (by omega) wr m)
              have hf := tick_far s hs
              have hs' := tick_ok hs
              have hp' := hs'.p
              have hq' := hs'.q
              obtain ⟨t1, t2, t3, t4⟩ := tick_same s
              have HT1 := Lib.hid t1
              have HT2 := Lib.hid t2
              have HT3 := Lib.hid t3
              have HT4 := Lib.hid t4
              have y1 : s.p.l.low ≤ (tick s).p.at' := by rw [← t1]; exact hp'.2.1
              have y2 : (tick s).p.at' ≤ s.p.l.high := by rw [← t1]; exact hp'.2.2.1
              have y3 : s.q.l.low ≤ (tick s).q.at' := by rw [← t2]; exact hq'.2.1
              have y4 : (tick s).q.at' ≤ s.q.l.high := by rw [← t2]; exact hq'.2.2.1
              have d1 : decide (s.p.l.fast < apartZ (tick s).p.at' s.p.at') = false := by
                apply decide_eq_false; unfold apartZ; split <;> omega
              have d2 : decide (s.q.l.fast < apartZ (tick s).q.at' s.q.at') = false := by
                apply decide_eq_false; unfold apartZ; split <;> omega
              have BP := Lib.hid (fun x => beyond_walk s.p.l (tick s).p.at' y1 y2 x)
              have BQ := Lib.hid (fun x => beyond_walk s.q.l (tick s).q.at' y3 y4 x)
              unfold limV at BP BQ
              have HS' := Lib.hid hs'
              clear t1 t2 t3 t4 hs hp hq hp' hq' hs'
              go_wp2_with (go_at_call 26; (with_reducible refine HT.out.mono ?_); rintro e w2 ⟨rfl, hL⟩; replace m := hL.1; replace r4 := r4.but hL.2 (by omega); replace r5 := r5.but hL.2 (by omega); replace G : Hid (Below w.heap.size w w2) := Lib.hid (hL.2.below G.out hwb.out); clear hL; have c4 := r4.cell; have f4 := r4.frozen; have l4 := r4.lt; have c5 := r5.cell; have f5 := r5.frozen; have l5 := r5.lt)
              go_quiet ((go_at_call 27; exact Calls.quiet_of_same ((apart_walk _ _ (by omega) (by omega) (by omega) (by omega) _).mono fun e w' h => ⟨h.1, h.2.symm⟩)))
              go_wp2_with (go_at_call 30; (first | (with_reducible refine (BP.out _).mono ?_) | (with_reducible refine (BQ.out _).mono ?_)); rintro e w5 ⟨rfl, hB⟩; (first | (have m' := (m.drewN _).below hB; have r4' := (r4.drewN _).below hB; have r5' := (r5.drewN _).below hB; have G' : Hid (Below w.heap.size w w5) := Lib.hid (grow_trans (grow_drewN G.out _) hB)) | (have m' := m.below hB; have r4' := r4.below hB; have r5' := r5.below hB; have G' : Hid (Below w.heap.size w w5) := Lib.hid (grow_trans G.out hB))); clear m r4 r5 G c4 f4 l4 c5 f5 l5 hB; have m := m'; have r4 := r4'; have r5 := r5'; have G := G'; clear m' r4' r5' G'; have c4 := r4.cell; have f4 := r4.frozen; have l4 := r4.lt; have c5 := r5.cell; have f5 := r5.frozen; have l5 := r5.lt)
              go_roundw
              case rel => exact ⟨k + 1, tick s, by omega, by go_num, rfl, rfl, HS'.out, tick_right HRK.out, HT1.out, HT2.out, by rw [HT3.out]; exact hPAT.out, by rw [HT4.out]; omega, by rw [HT4.out]; omega, m, r4, r5, G.out⟩
              case measure => simp [intOf]; omega
            | false =>
              rw [htk] at c0
              have TS := Mo.take_same s (ops k).n (kindOf (ops k).c) (ops k).x (ops k).y
              have TR := take_rep s (ops k).n (kindOf (ops k).c) (ops k).x (ops k).y
              have TO := take_ok hs (ops k).n (kindOf (ops k).c) (ops k).x (ops k).y
              have TI := take_right HRK.out (ops k).n (kindOf (ops k).c) (ops k).x (ops k).y
              have TK := Lib.hid (fun x hx hy => take_any a b s hs (ops k).n (ops k).x (ops k).y (ops k).c x hx hy HBS.out)
              have CM := Lib.hid (fun x => command_walk (ops k).n (ops k).x (ops k).y (ops k).c x)
              unfold cmdV at TK
              generalize take s (ops k).n (kindOf (ops k).c) (ops k).x (ops k).y = T at TS TR TO TI TK
              obtain ⟨T1, T2⟩ := T
              obtain ⟨t1, t2, t3, t4, t5, t6⟩ := TS
              obtain ⟨u1, u2⟩ := TR
              simp only at t1 t2 t3 t4 t5 t6 u1 u2 TO TI TK
              have BP := Lib.hid (fun x => beyond_walk s.p.l s.p.at' P1 P2 x)
              have BQ := Lib.hid (fun x => beyond_walk s.q.l s.q.at' Q1 Q2 x)
              unfold limV at BP BQ
              have HT1 := Lib.hid t1
              have HT2 := Lib.hid t2
              have HT3 := Lib.hid t3
              have HT4 := Lib.hid t4
              have HT5 := Lib.hid t5
              have HT6 := Lib.hid t6
              have HU1 := Lib.hid u1
              have HU2 := Lib.hid u2
              have HTO := Lib.hid TO
              have HTI := Lib.hid TI
              clear t1 t2 t3 t4 t5 t6 u1 u2 TO TI hs hp hq
              rcases errV_or a T2.err with hE | ⟨u, hE⟩
              all_goals
                have HE := Lib.hid hE
                clear hE
                go_wp2_with (first
                  | (go_at_call 29; (with_reducible refine (CM.out _).mono ?_); rintro e w2 ⟨rfl, hB⟩; replace m := m.below hB; replace r4 := r4.below hB; replace r5 := r5.below hB; replace G : Hid (Below w.heap.size w w2) := Lib.hid (grow_trans G.out hB); clear hB)
                  | (go_at_call 28; (with_reducible refine (TK.out _ ?_ ?_).mono ?_); exact m; exact (HS.out.below G.out).sub (by decide); rintro e w3 ⟨rfl, hL⟩; unfold repV; rw [HE.out, HU1.out, HU2.out]; replace m := hL.1; replace r4 := r4.but hL.2 (by omega); replace r5 := r5.but hL.2 (by omega); replace G : Hid (Below w.heap.size w w3) := Lib.hid (hL.2.below G.out hwb.out); clear hL)
                  | (go_at_call 25; refine (at_walk a b T1 _ ?_).mono ?_; exact m.alloc _; rintro e w4 ⟨rfl, hB⟩; rw [HT4.out, HT5.out]; have r17 := (Known.new w3 _ _).below hB; replace m := (m.alloc _).below hB; replace r4 := (r4.alloc _).below hB; replace r5 := (r5.alloc _).below hB; replace G : Hid (Below w.heap.size w w4) := Lib.hid (grow_trans (grow_alloc G.out _) hB); clear hB; have c17 := r17.cell; have f17 := r17.frozen; have l17 := r17.lt; have c4 := r4.cell; have f4 := r4.frozen; have l4 := r4.lt; have c5 := r5.cell; have f5 := r5.frozen; have l5 := r5.lt)
                  | (go_at_call 30; (first | (with_reducible refine (BP.out _).mono ?_) | (with_reducible refine (BQ.out _).mono ?_)); rintro e w5 ⟨rfl, hB⟩; (first | (have m' := (m.drewN _).below hB; have r4' := (r4.drewN _).below hB; have r5' := (r5.drewN _).below hB; have G' : Hid (Below w.heap.size w w5) := Lib.hid (grow_trans (grow_drewN G.out _) hB)) | (have m' := m.below hB; have r4' := r4.below hB; have r5' := r5.below hB; have G' : Hid (Below w.heap.size w w5) := Lib.hid (grow_trans G.out hB))); (try clear c17 f17 l17 r17); clear m r4 r5 G c4 f4 l4 c5 f5 l5 hB; have m := m'; have r4 := r4'; have r5 := r5'; have G := G'; clear m' r4' r5' G'; have c4 := r4.cell; have f4 := r4.frozen; have l4 := r4.lt; have c5 := r5.cell; have f5 := r5.frozen; have l5 := r5.lt))
                go_roundw
                case rel => exact ⟨k + 1, T1, by omega, by go_num, by rw [HT4.out], by rw [HT5.out], HTO.out, HTI.out, HT1.out, HT2.out, by rw [HT3.out]; exact hPAT.out, by rcases HT6.out with e | e <;> rw [e] <;> omega, by rcases HT6.out with e | e <;> rw [e] <;> omega, m, r4, r5, G.out⟩
                case measure => simp [intOf]; omega
          · have P1 := hp.1
            have Q1 := hq.1
            obtain ⟨pl1, pl2, pl3, pl4, pl5, pl6⟩ := P1
            obtain ⟨ql1, ql2, ql3, ql4, ql5, ql6⟩ := Q1
            clear hp hq
            have hwb := Lib.hid (show w.heap.size ≤ b by omega)
            dsimp only [lCells] at r4 r5
            have c4 := r4.cell
            have f4 := r4.frozen
            have c5 := r5.cell
            have f5 := r5.frozen
            have e1 : IntKind.i64.wrap (s.p.l.high - s.p.l.low) = s.p.l.high - s.p.l.low := IntWalk.i64_in _ (by omega)
            have e2 : IntKind.i64.wrap (s.q.l.high - s.q.l.low) = s.q.l.high - s.q.l.low := IntWalk.i64_in _ (by omega)
            have d1 : 0 ≤ (s.p.l.high - s.p.l.low) / s.p.l.fast := Int.ediv_nonneg (by omega) (by omega)
            have d2 : (s.p.l.high - s.p.l.low) / s.p.l.fast ≤ s.p.l.high - s.p.l.low := Int.ediv_le_self _ (by omega)
            have d3 : 0 ≤ (s.q.l.high - s.q.l.low) / s.q.l.fast := Int.ediv_nonneg (by omega) (by omega)
            have d4 : (s.q.l.high - s.q.l.low) / s.q.l.fast ≤ s.q.l.high - s.q.l.low := Int.ediv_le_self _ (by omega)
            have g1 : (s.p.l.high - s.p.l.low).tdiv s.p.l.fast = (s.p.l.high - s.p.l.low) / s.p.l.fast := Int.tdiv_eq_ediv_of_nonneg (by omega)
            have g2 : (s.q.l.high - s.q.l.low).tdiv s.q.l.fast = (s.q.l.high - s.q.l.low) / s.q.l.fast := Int.tdiv_eq_ediv_of_nonneg (by omega)
            generalize hF1 : (s.p.l.high - s.p.l.low) / s.p.l.fast = F1 at d1 d2 g1
            generalize hF2 : (s.q.l.high - s.q.l.low) / s.q.l.fast = F2 at d3 d4 g2
            have e3 : IntKind.i64.wrap F1 = F1 := IntWalk.i64_in _ (by omega)
            have e4 : IntKind.i64.wrap F2 = F2 := IntWalk.i64_in _ (by omega)
            have e5 : IntKind.i64.wrap (F1 + F2) = F1 + F2 := IntWalk.i64_in _ (by omega)
            have e6 : IntKind.i64.wrap (F1 + F2 + 4) = F1 + F2 + 4 := IntWalk.i64_in _ (by omega)
            have e7 : IntKind.i64.wrap (F1 + F2 + 4 + n) = F1 + F2 + 4 + n := IntWalk.i64_in _ (by omega)
            have z1 : (s.p.l.fast == 0) = false := by simp; omega
            have z2 : (s.q.l.fast == 0) = false := by simp; omega
            have HF1 := Lib.hid hF1
            have HF2 := Lib.hid hF2
            clear hF1 hF2
            by_cases hfar : 3000 < F1 + F2 + 4 + n
            · go_wp2
              go_quiet (fail)
              go_wp2
              go_ret
              exact ⟨rfl, grow_drewN G.out _⟩
            · obtain ⟨far, hf⟩ : ∃ far : Nat, (far : Int) = F1 + F2 + 4 + n := ⟨(F1 + F2 + 4 + n).toNat, by omega⟩
              have hf2 : far ≤ 3000 := by omega
              have PL := Lib.hid (parked_at_last HSK.out HRK.out hq0 (by rw [hPAT.out]; omega) far (by rw [HF1.out, HF2.out, hPAT.out]; omega))
              have HFAR := Lib.hid hf
              clear hf
              go_wp2
              go_quiet (fail)
              go_wp2
              go_loopw [21] (fun v21 wx => EndRel a s.p.l s.q.l b far s w v21 wx) (fun i _ => far - (intOf i).toNat)
              case atStart => exact ⟨0, Nat.zero_le _, rfl, m.drewN _, r4.drewN _, r5.drewN _, grow_drewN G.out _⟩
              case round =>
                clear m r4 r5 G c4 f4 c5 f5
                obtain ⟨j, hj, rfl, m, r4, r5, g⟩ := hrel
                have G := Lib.hid g
                clear g
                dsimp only [lCells] at r4 r5
                by_cases hjf : j < far
                · have hj1 : (j : Int) < F1 + F2 + 4 + n := by have := HFAR.out; omega
                  obtain ⟨t1, t2, t3, t4⟩ := ticks_same s j
                  have hq0' : 0 ≤ (ticks j s).quiet := by rw [t4]; omega
                  have hq1' : (ticks j s).quiet ≤ 4611686018427387904 := by rw [t4]; omega
                  have TW := Lib.hid (fun x hx => tick_walk a b (ticks j s) (ticks_ok HSK.out j) hq0' hq1' x hx)
                  clear t1 t2 t3 t4 hq0' hq1'
                  go_wp2_with (go_at_call 26; (with_reducible refine (TW.out _ ?_).mono ?_); exact m; rintro e w2 ⟨rfl, hL⟩; replace m := hL.1; replace r4 := r4.but hL.2 (by omega); replace r5 := r5.but hL.2 (by omega); replace G : Hid (Below w.heap.size w w2) := Lib.hid (hL.2.below G.out hwb.out); clear hL)
                  go_roundw
                  case rel => exact ⟨j + 1, by omega, by go_num, m, r4, r5, G.out⟩
                  case measure => simp [intOf]; omega
                · have hj1 : ¬ ((j : Int) < F1 + F2 + 4 + n) := by have := HFAR.out; omega
                  obtain rfl : j = far := by omega
                  have c4 := r4.cell
                  have f4 := r4.frozen
                  have l4 := r4.lt
                  have c5 := r5.cell
                  have f5 := r5.frozen
                  have l5 := r5.lt
                  go_wp2_with (first
                    | (go_at_call 25; refine (at_walk a b (ticks j s) _ ?_).mono ?_; exact m; rintro e w2 ⟨rfl, hB⟩; rw [PL.out.2.1, PL.out.2.2]; have m' := m.below hB; have r4' := r4.below hB; have r5' := r5.below hB; have G' : Hid (Below w.heap.size w w2) := Lib.hid (grow_trans G.out hB); clear m r4 r5 G c4 f4 l4 c5 f5 l5 hB; have m := m'; have r4 := r4'; have r5 := r5'; have G := G'; clear m' r4' r5' G'; have c4 := r4.cell; have f4 := r4.frozen; have l4 := r4.lt; have c5 := r5.cell; have f5 := r5.frozen; have l5 := r5.lt)
                    | (go_at_call 31; refine (state_walk a b (ticks j s) _ ?_).mono ?_; exact m; rintro e w2 ⟨rfl, hB⟩; rw [PL.out.1]; have m' := m.below hB; have r4' := r4.below hB; have r5' := r5.below hB; have G' : Hid (Below w.heap.size w w2) := Lib.hid (grow_trans G.out hB); clear m r4 r5 G c4 f4 l4 c5 f5 l5 hB; have m := m'; have r4 := r4'; have r5 := r5'; have G := G'; clear m' r4' r5' G'; have c4 := r4.cell; have f4 := r4.frozen; have l4 := r4.lt; have c5 := r5.cell; have f5 := r5.frozen; have l5 := r5.lt))
                  go_ret
                  exact ⟨rfl, G.out⟩
    · have H0 := Lib.hid h0
      clear h0
      go_enter Tryd.func5, Tryd.ntmps5
      go_wp2_with (go_at_call 22; refine (mounted_walk a _ ?_).mono ?_; exact (HS.out.below (grow_alloc (grow_alloc g.out _) _)).sub (by decide); rintro e w1 ⟨rfl, hB⟩; have HB := Lib.hid hB; clear hB)
      have r4 : Known w1 w.heap.size _ := ((Known.new w _ _).alloc _).below HB.out
      have r5 : Known w1 (w.heap.size + 1) _ := (Known.new' (by simp)).below HB.out
      have g2 : Hid (Below w.heap.size w w1) := Lib.hid (grow_trans (grow_alloc (grow_alloc g.out _) _) HB.out)
      clear g HB
      have g := g2
      clear g2
      have hsz := Lib.hid (show w.heap.size + 1 < w1.heap.size from r5.lt)
      go_cut [10, 11] (fun s10 s11 wx => s10 = .pointer none ∧ s11 = .iface 261 (.pointer (some (a (newE A B n)))) ∧ Below w.heap.size w wx)
      case first =>
        have LA := Lib.hid (fun x => limits_walk A x)
        have LB := Lib.hid (fun x => limits_walk B x)
        unfold limV at LA LB
        have c4 := r4.cell
        have f4 := r4.frozen
        have c5 := r5.cell
        have f5 := r5.frozen
        go_region_with (first
          | (go_at_call 24; (first | (with_reducible refine (LA.out _).mono ?_) | (with_reducible refine (LB.out _).mono ?_)); rintro e w2 ⟨rfl, hB2⟩; (first | (have r4' := (Known.drew r4).below hB2; have r5' := (Known.drew r5).below hB2; have g' : Hid (Below w.heap.size w w2) := Lib.hid (grow_trans (grow_drew g.out) hB2)) | (have r4' := r4.below hB2; have r5' := r5.below hB2; have g' : Hid (Below w.heap.size w w2) := Lib.hid (grow_trans g.out hB2))); clear r4 r5 g c4 f4 c5 f5 hB2; have r4 := r4'; have r5 := r5'; have g := g'; clear r4' r5' g'; have c4 := r4.cell; have f4 := r4.frozen; have c5 := r5.cell; have f5 := r5.frozen)
          | (go_at_call 23; (with_reducible refine (new_no a A B n H0.out _ ?_).mono ?_); exact (HS.out.below g.out).sub (by decide); rintro e w3 ⟨rfl, hB3⟩; have g' : Hid (Below w.heap.size w w3) := Lib.hid (grow_trans g.out hB3); clear r4 r5 g c4 f4 c5 f5 hB3; have g := g'; clear g'))
        all_goals
          go_wp2_with fail
          go_meet
          exact ⟨rfl, rfl, g.out⟩
      case rest =>
        obtain ⟨rfl, rfl, g'⟩ := hcut
        go_wp2
        go_ret
        exact ⟨rfl, g'⟩

end Go.Proofs.YtlfpfeidaohjmaaDoor
