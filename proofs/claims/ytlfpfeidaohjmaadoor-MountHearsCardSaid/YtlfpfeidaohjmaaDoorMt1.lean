/- MountTakes: the law's walk. -/
import Derived.Test.YtlfpfeidaohjmaaDoorMt0
import Derived.Test.YtlfpfeidaohjmaaDoorMs1
import Derived.Deep.LoopGhost
import Derived.Outline
set_option linter.unusedSimpArgs false
set_option linter.unusedVariables false
namespace Go.Proofs.YtlfpfeidaohjmaaDoor
open Go.RowKit Go.Grow Go.Mo

/-- The slice's elements lie in w, where there are any. -/
def OpsAt (w : World) (r : Option Addr) (len : Nat) (ops : Nat → OpZ) : Prop := len = 0 ∨ ∃ b0 o0, r = some ⟨b0, o0, none⟩ ∧ OpsIn w ⟨b0, o0, none⟩ len ops
/-- What holds at each round's head. -/
def TakesRel (a : Nat → Addr) (b b2 len : Nat) (w : World) (v15 : Value) (wr : World) : Prop :=
  ∃ (k : Nat) (s : St) (m : Rf), k ≤ len ∧ v15 = .int .i64 k ∧ s.ok ∧ Sim s m ∧ s.err ≤ 10 ∧ 0 ≤ s.quiet ∧ s.quiet ≤ k ∧ Known wr b (mCells a s) ∧ Known wr b2 (rCells m) ∧ Below w.heap.size w wr

set_option maxRecDepth 100000 in
set_option maxHeartbeats 4000000 in
theorem takes_long (a : Nat → Addr) (A B : Lim) (n : Int) (r : Option Addr) (len cap : Nat) (ops : Nat → OpZ) (w : World) (hsen : Sen a allK w) (hh : Hand w) (hne : ∀ j ∈ allK, ∀ k ∈ allK, j ≠ k → a j ≠ a k) (hops : OpsAt w r len ops) (hl : len ≤ 9223372036854775807) (h3 : 300 < len) :
    Calls Tryd.prog 7 #[limV A, limV B, .int .i64 n, .slice r len cap] w fun e w' => e = .returned (.bool true) ∧ Below w.heap.size w w' := by
  have HS := Lib.hid hsen
  have HH := Lib.hid hh
  have HN := Lib.hid hne
  have HO := Lib.hid hops
  clear hsen hh hne hops
  have g : Hid (Below w.heap.size w w) := Lib.hid (Below.refl _ _)
  have CD := Lib.hid (fun (k : Nat) (hk : k ≤ 10) (x : World) (hx : Below w.heap.size w x) => coded_same a k hk x (HS.out.below hx) (HH.out.below hx) HN.out)
  unfold limV
  go_enter Tryd.func7, Tryd.ntmps7
  go_wp2_with (go_at_call 22; refine (mounted_walk a _ ?_).mono ?_; exact (HS.out.below (grow_alloc (grow_alloc g.out _) _)).sub (by decide); rintro e w1 ⟨rfl, hB⟩; have HB := Lib.hid hB; clear hB)
  go_ret
  exact ⟨rfl, grow_trans (grow_alloc (grow_alloc g.out _) _) HB.out⟩

set_option maxRecDepth 100000 in
set_option maxHeartbeats 4000000 in
theorem takes_no (a : Nat → Addr) (A B : Lim) (n : Int) (r : Option Addr) (len cap : Nat) (ops : Nat → OpZ) (w : World) (hsen : Sen a allK w) (hh : Hand w) (hne : ∀ j ∈ allK, ∀ k ∈ allK, j ≠ k → a j ≠ a k) (hops : OpsAt w r len ops) (hl : len ≤ 9223372036854775807) (h3 : ¬ 300 < len) (h0 : newE A B n ≠ 0) :
    Calls Tryd.prog 7 #[limV A, limV B, .int .i64 n, .slice r len cap] w fun e w' => e = .returned (.bool true) ∧ Below w.heap.size w w' := by
  have HS := Lib.hid hsen
  have HH := Lib.hid hh
  have HN := Lib.hid hne
  have HO := Lib.hid hops
  clear hsen hh hne hops
  have g : Hid (Below w.heap.size w w) := Lib.hid (Below.refl _ _)
  have CD := Lib.hid (fun (k : Nat) (hk : k ≤ 10) (x : World) (hx : Below w.heap.size w x) => coded_same a k hk x (HS.out.below hx) (HH.out.below hx) HN.out)
  have MO := Lib.hid (fun x => mountOf_no A B n h0 x)
  have HLE := Lib.hid (newE_le A B n)
  have HEV := Lib.hid (errV_pos a h0)
  have hpos : 0 < newE A B n := by omega
  have H0 := Lib.hid h0
  clear h0
  unfold limV at *
  go_enter Tryd.func7, Tryd.ntmps7
  go_wp2_with (go_at_call 22; refine (mounted_walk a _ ?_).mono ?_; exact (HS.out.below (grow_alloc (grow_alloc g.out _) _)).sub (by decide); rintro e w1 ⟨rfl, hB⟩; have HB := Lib.hid hB; clear hB)
  have r4 : Known w1 w.heap.size _ := ((Known.new w _ _).alloc _).below HB.out
  have r5 : Known w1 (w.heap.size + 1) _ := (Known.new' (by simp)).below HB.out
  have g2 : Hid (Below w.heap.size w w1) := Lib.hid (grow_trans (grow_alloc (grow_alloc g.out _) _) HB.out)
  clear g HB
  have g := g2
  clear g2
  have hsz := Lib.hid (show w.heap.size + 1 < w1.heap.size from r5.lt)
  go_cut [10, 11] (fun s10 s11 wx => s10 = .pointer none ∧ s11 = .iface 261 (.pointer (some (a (newE A B n)))) ∧ Known wx w.heap.size #[.int .i64 A.low, .int .i64 A.high, .int .i64 A.fast, .int .i64 A.home] ∧ Known wx (w.heap.size + 1) #[.int .i64 B.low, .int .i64 B.high, .int .i64 B.fast, .int .i64 B.home] ∧ Below w.heap.size w wx)
  case first =>
    have LA := Lib.hid (fun x => limits_walk A x)
    have LB := Lib.hid (fun x => limits_walk B x)
    unfold limV at LA LB
    have c4 := r4.cell
    have f4 := r4.frozen
    have c5 := r5.cell
    have f5 := r5.frozen
    go_region_with (first
            | (go_at_call 24; (first | (with_reducible refine (LA.out _).mono ?_) | (with_reducible refine (LB.out _).mono ?_)); rintro e w2 ⟨rfl, hB2⟩; (first | (have r4' := (Known.drew r4).below hB2; have r5' := (Known.drew r5).below hB2; have g' : Hid (Below w.heap.size w w2) := Lib.hid (grow_trans (grow_drew g.out) hB2)) | (have r4' := r4.below hB2; have r5' := r5.below hB2; have g' : Hid (Below w.heap.size w w2) := Lib.hid (grow_trans g.out hB2))); clear r4 r5 g c4 f4 c5 f5 hB2; have r4 := r4'; have r5 := r5'; have g := g'; clear r4' r5' g'; have c4 := r4.cell; have f4 := r4.frozen; have c5 := r5.cell; have f5 := r5.frozen)
            | (go_at_call 23; (with_reducible refine (new_no a A B n H0.out _ ?_).mono ?_); exact (HS.out.below g.out).sub (by decide); rintro e w3 ⟨rfl, hB3⟩; have r4' := r4.below hB3; have r5' := r5.below hB3; have g' : Hid (Below w.heap.size w w3) := Lib.hid (grow_trans g.out hB3); clear r4 r5 g c4 f4 c5 f5 hB3; have r4 := r4'; have r5 := r5'; have g := g'; clear r4' r5' g'))
    all_goals
      go_wp2_with fail
      go_meet
      exact ⟨rfl, rfl, r4, r5, g.out⟩
  case rest =>
    obtain ⟨rfl, rfl, r4', r5', g'⟩ := hcut
    clear r4 r5 g hsz
    have r4 := r4'
    have r5 := r5'
    have g := Lib.hid g'
    clear r4' r5' g'
    generalize newE A B n = ne at *
    have c4 := r4.cell
    have f4 := r4.frozen
    have l4 := r4.lt
    have c5 := r5.cell
    have f5 := r5.frozen
    have l5 := r5.lt
    go_wp2_with (first
      | (go_at_call 36; (with_reducible refine (MO.out _).mono ?_); rintro e w4 ⟨rfl, hB⟩; have g' : Hid (Below w.heap.size w w4) := Lib.hid (grow_trans g.out hB); clear r4 r5 c4 f4 l4 c5 f5 l5 g hB; have g := g'; clear g')
      | (go_at_call 33; rw [← HEV.out]; (with_reducible refine (CD.out _ HLE.out _ g.out).mono ?_); rintro e w5 ⟨rfl, hB⟩; have g' : Hid (Below w.heap.size w w5) := Lib.hid (grow_trans g.out hB); clear g hB; have g := g'; clear g'))
    go_ret
    exact ⟨rfl, g.out⟩

set_option maxRecDepth 100000 in
set_option maxHeartbeats 4000000 in
theorem takes_yes (a : Nat → Addr) (A B : Lim) (n : Int) (r : Option Addr) (len cap : Nat) (ops : Nat → OpZ) (w : World) (hsen : Sen a allK w) (hh : Hand w) (hne : ∀ j ∈ allK, ∀ k ∈ allK, j ≠ k → a j ≠ a k) (hops : OpsAt w r len ops) (hl : len ≤ 9223372036854775807) (h3 : ¬ 300 < len) (h0 : newE A B n = 0) :
    Calls Tryd.prog 7 #[limV A, limV B, .int .i64 n, .slice r len cap] w fun e w' => e = .returned (.bool true) ∧ Below w.heap.size w w' := by
  have HS := Lib.hid hsen
  have HH := Lib.hid hh
  have HN := Lib.hid hne
  have HO := Lib.hid hops
  clear hsen hh hne hops
  have g : Hid (Below w.heap.size w w) := Lib.hid (Below.refl _ _)
  have CD := Lib.hid (fun (k : Nat) (hk : k ≤ 10) (x : World) (hx : Below w.heap.size w x) => coded_same a k hk x (HS.out.below hx) (HH.out.below hx) HN.out)
  have MO := Lib.hid (fun x => mountOf_ok A B n h0 x)
  have hok := (st0_ok h0).1
  have HOK := Lib.hid hok
  have H0 := Lib.hid h0
  clear h0 hok
  unfold limV at *
  go_enter Tryd.func7, Tryd.ntmps7
  go_wp2_with (go_at_call 22; refine (mounted_walk a _ ?_).mono ?_; exact (HS.out.below (grow_alloc (grow_alloc g.out _) _)).sub (by decide); rintro e w1 ⟨rfl, hB⟩; have HB := Lib.hid hB; clear hB)
  have r4 : Known w1 w.heap.size _ := ((Known.new w _ _).alloc _).below HB.out
  have r5 : Known w1 (w.heap.size + 1) _ := (Known.new' (by simp)).below HB.out
  have g2 : Hid (Below w.heap.size w w1) := Lib.hid (grow_trans (grow_alloc (grow_alloc g.out _) _) HB.out)
  clear g HB
  have g := g2
  clear g2
  have hsz := Lib.hid (show w.heap.size + 1 < w1.heap.size from r5.lt)
  go_cut [10, 11] (fun s10 s11 wx => ∃ b, w.heap.size + 1 < b ∧ s10 = .pointer (some ⟨b, 0, none⟩) ∧ s11 = .nilIface ∧ Known wx b (mCells a (st0 A B n)) ∧ Known wx w.heap.size #[.int .i64 A.low, .int .i64 A.high, .int .i64 A.fast, .int .i64 A.home] ∧ Known wx (w.heap.size + 1) #[.int .i64 B.low, .int .i64 B.high, .int .i64 B.fast, .int .i64 B.home] ∧ Below w.heap.size w wx ∧ b < wx.heap.size)
  case first =>
    have LA := Lib.hid (fun x => limits_walk A x)
    have LB := Lib.hid (fun x => limits_walk B x)
    unfold limV at LA LB
    have c4 := r4.cell
    have f4 := r4.frozen
    have c5 := r5.cell
    have f5 := r5.frozen
    go_region_with (first
            | (go_at_call 24; (first | (with_reducible refine (LA.out _).mono ?_) | (with_reducible refine (LB.out _).mono ?_)); rintro e w2 ⟨rfl, hB2⟩; (first | (have r4' := (Known.drew r4).below hB2; have r5' := (Known.drew r5).below hB2; have g' : Hid (Below w.heap.size w w2) := Lib.hid (grow_trans (grow_drew g.out) hB2)) | (have r4' := r4.below hB2; have r5' := r5.below hB2; have g' : Hid (Below w.heap.size w w2) := Lib.hid (grow_trans g.out hB2))); clear r4 r5 g c4 f4 c5 f5 hB2; have r4 := r4'; have r5 := r5'; have g := g'; clear r4' r5' g'; have c4 := r4.cell; have f4 := r4.frozen; have c5 := r5.cell; have f5 := r5.frozen)
            | (go_at_call 23; (with_reducible refine (new_ok a A B n H0.out _ ?_).mono ?_); exact (HS.out.below g.out).sub (by decide); rintro e w3 ⟨b, hb, rfl, m, hB3⟩; have r4' := r4.below hB3; have r5' := r5.below hB3; have g' : Hid (Below w.heap.size w w3) := Lib.hid (grow_trans g.out hB3); have hb' : w.heap.size + 1 < b := Nat.lt_of_lt_of_le r5.lt hb; clear r4 r5 g c4 f4 c5 f5 hB3 hb; have r4 := r4'; have r5 := r5'; have g := g'; clear r4' r5' g'))
    all_goals
      go_wp2_with fail
      go_meet
      exact ⟨_, hb', rfl, rfl, m, r4, r5, g.out, m.lt⟩
  case rest =>
    obtain ⟨b, hb, rfl, rfl, m, r4', r5', g', hbw⟩ := hcut
    clear r4 r5 g hsz
    have r4 := r4'
    have r5 := r5'
    have G := Lib.hid g'
    clear r4' r5' g'
    have c4 := r4.cell
    have f4 := r4.frozen
    have l4 := r4.lt
    have c5 := r5.cell
    have f5 := r5.frozen
    have l5 := r5.lt
    go_wp2_with (first
      | (go_at_call 36; (with_reducible refine (MO.out _).mono ?_); rintro e w4 ⟨b2, hb2, rfl, m2, hB⟩; replace m := m.below hB; have hbb := Nat.lt_of_lt_of_le hbw hb2; replace G : Hid (Below w.heap.size w w4) := Lib.hid (grow_trans G.out hB); clear r4 r5 c4 f4 l4 c5 f5 l5 hB hb2)
      | (go_at_call 33; rw [← errV_zero a]; refine (CD.out 0 (by decide) _ G.out).mono ?_; rintro e w5 ⟨rfl, hB⟩; replace m := m.below hB; replace m2 := m2.below hB; replace G : Hid (Below w.heap.size w w5) := Lib.hid (grow_trans G.out hB); clear hB))
    go_loopw [15] (fun v15 wr => TakesRel a b b2 len w v15 wr) (fun i _ => len - (intOf i).toNat)
    case atStart => exact ⟨0, st0 A B n, rf0 A B n, Nat.zero_le _, rfl, HOK.out, sim0 A B n, by simp [st0], Int.le_refl _, Int.le_refl _, m, m2, G.out⟩
    case round =>
      clear m m2 G
      obtain ⟨k, s, m0, hk, rfl, hs, hsim, he, hq0, hqk, m, m2, g⟩ := hrel
      have G := Lib.hid g
      have HE := Lib.hid he
      clear g he
      have hwb := Lib.hid (show w.heap.size ≤ b by omega)
      have hwb2 := Lib.hid (show w.heap.size ≤ b2 by omega)
      have hbb2 : b ≠ b2 := by omega
      have hbb3 : b2 ≠ b := by omega
      by_cases hlt : k < len
      · obtain ⟨b0, o0, rfl, hin⟩ := HO.out.resolve_left (by omega)
        have HI := Lib.hid hin
        clear hin
        obtain ⟨c0, d1, d2, d3, d4⟩ := (HI.out.below G.out) k hlt
        simp only at c0 d1 d2 d3 d4
        have hb0 : b0 < w.heap.size := lt_of_cell ((HI.out) k hlt).1
        have RBm := rb_of hsim hs
        have hqe := hsim.quiet
        have hbs : ∀ j ∈ [6, 7, 10], gOf j ≠ b ∧ (a j).block ≠ b := fun j hj => by
          have := HS.out.lt (k := j) (by revert hj; simp [allK]; omega)
          omega
        have HBS := Lib.hid hbs
        clear hbs
        cases htk : (ops k).tick with
        | true =>
          rw [htk] at c0
          have HT := Lib.hid (tick_walk a b s hs hq0 (by omega) wr m)
          have HR := Lib.hid (fun x hx => rtick_walk b2 m0 RBm (by omega) (by omega) x hx)
          have SM := sim_tick hsim hs
          have T4 := (tick_same s).2.2.2
          have TO := tick_ok hs
          have TE := tick_err s
          generalize tick s = s' at *
          generalize rtick m0 = m' at *
          have HSM := Lib.hid SM
          have HT4 := Lib.hid T4
          have HTO := Lib.hid TO
          have HTE := Lib.hid TE
          clear T4 TO TE hqe hsim RBm hs
          have AW := Lib.hid (fun x hx => at_walk a b s' x hx)
          have SW := Lib.hid (fun x hx => state_same a b s' x hx)
          obtain ⟨ma, mb, mx, my, mp, mq, mst, mpa, mqu, mta, mnu, mco⟩ := m'
          obtain ⟨ea, eb, ex, ey, es, ep, eq, et, en, ec, s1, s2, s3⟩ := SM
          simp only at ea eb ex ey es ep eq et en ec
          subst ea eb ex ey es ep eq et en ec
          clear s1 s2 s3
          dsimp only [mCells] at m
          dsimp only [rCells] at m2
          go_wp2_with (first
            | (go_at_call 26; (with_reducible refine HT.out.mono ?_); rintro e w2 ⟨rfl, hL⟩; replace m := hL.1; replace m2 := m2.but hL.2 hbb3; replace G : Hid (Below w.heap.size w w2) := Lib.hid (hL.2.below G.out hwb.out); clear hL)
            | (go_at_call 37; (with_reducible refine (HR.out _ ?_).mono ?_); exact m2; rintro e w3 ⟨rfl, hL⟩; replace m2 := hL.1; replace m := m.but hL.2 hbb2; replace G : Hid (Below w.heap.size w w3) := Lib.hid (hL.2.below G.out hwb2.out); clear hL; dsimp only [rCells] at m2; have c2 := m2.cell; have f2 := m2.frozen; have l2 := m2.lt)
            | (go_at_call 25; (with_reducible refine (AW.out _ ?_).mono ?_); exact m; rintro e w7 ⟨rfl, hB⟩; clear c2 f2 l2; replace m := m.below hB; replace m2 := m2.below hB; replace G : Hid (Below w.heap.size w w7) := Lib.hid (grow_trans G.out hB); clear hB; have c2 := m2.cell; have f2 := m2.frozen; have l2 := m2.lt))
          go_quiet ((go_at_call 31; exact Calls.quiet_of_same (SW.out _ (m.drewN _))))
          go_wp2
          go_roundw
          case rel => exact ⟨k + 1, s', _, by omega, by go_num, HTO.out, HSM.out, by rw [HTE.out]; exact HE.out, by rw [HT4.out]; omega, by rw [HT4.out]; omega, m.drewN _, m2.drewN _, grow_drewN G.out _⟩
          case measure => simp [intOf]; omega
        | false =>
          rw [htk] at c0
          have SM := sim_take hsim (ops k).n (kindOf (ops k).c) (ops k).x (ops k).y
          have TE := take_err HE.out (ops k).n (kindOf (ops k).c) (ops k).x (ops k).y
          have TQ := (Mo.take_same s (ops k).n (kindOf (ops k).c) (ops k).x (ops k).y).2.2.2.2.2
          have TO := take_ok hs (ops k).n (kindOf (ops k).c) (ops k).x (ops k).y
          have TK := Lib.hid (fun x hx hy => take_any a b s hs (ops k).n (ops k).x (ops k).y (ops k).c x hx hy HBS.out)
          have RK := Lib.hid (fun x hx => rtake_any b2 m0 RBm (ops k).n (ops k).x (ops k).y (ops k).c x hx)
          have CM := Lib.hid (fun x => command_walk (ops k).n (ops k).x (ops k).y (ops k).c x)
          unfold cmdV at TK RK
          rw [← SM.1] at RK
          have SM2 := SM.2
          clear SM
          generalize take s (ops k).n (kindOf (ops k).c) (ops k).x (ops k).y = T at SM2 TE TQ TO TK RK
          generalize (rtake m0 (ops k).n (kindOf (ops k).c) (ops k).x (ops k).y).1 = m' at SM2 RK
          obtain ⟨s', T2⟩ := T
          simp only at SM2 TE TQ TO TK RK
          have HSM := Lib.hid SM2
          have HTQ := Lib.hid TQ
          have HTO := Lib.hid TO
          have HTE := Lib.hid TE
          clear TQ TO TE hqe hsim RBm hs
          have AW := Lib.hid (fun x hx => at_walk a b s' x hx)
          have SW := Lib.hid (fun x hx => state_same a b s' x hx)
          unfold repV at TK
          unfold repZ at RK
          obtain ⟨ma, mb, mx, my, mp, mq, mst, mpa, mqu, mta, mnu, mco⟩ := m'
          obtain ⟨ea, eb, ex, ey, es, ep, eq, et, en, ec, s1, s2, s3⟩ := SM2
          simp only at ea eb ex ey es ep eq et en ec
          subst ea eb ex ey es ep eq et en ec
          clear s1 s2 s3
          dsimp only [mCells] at m
          dsimp only [rCells] at m2
          rcases errV_or a T2.err with hE | ⟨u, hE⟩
          all_goals
            rw [hE] at TK
            have HV := Lib.hid hE
            clear hE
            go_wp2_with (first
              | (go_at_call 29; (with_reducible refine (CM.out _).mono ?_); rintro e w2 ⟨rfl, hB⟩; replace m := m.below hB; replace m2 := m2.below hB; replace G : Hid (Below w.heap.size w w2) := Lib.hid (grow_trans G.out hB); clear hB)
              | (go_at_call 28; (with_reducible refine (TK.out _ ?_ ?_).mono ?_); exact m; exact (HS.out.below G.out).sub (by decide); rintro e w3 ⟨rfl, hL⟩; replace m := hL.1; replace m2 := m2.but hL.2 hbb3; replace G : Hid (Below w.heap.size w w3) := Lib.hid (hL.2.below G.out hwb.out); clear hL c0 d1 d2 d3 d4; obtain ⟨c0, d1, d2, d3, d4⟩ := (HI.out.below G.out) k hlt; simp only at c0 d1 d2 d3 d4; have hz3 := G.out.size)
              | (go_at_call 38; (with_reducible refine (RK.out _ ?_).mono ?_); exact m2.alloc _; rintro e w4 ⟨rfl, hL⟩; have r18 := (Known.new w3 _ _).but hL.2 (Nat.ne_of_gt m2.lt); replace m2 := hL.1; replace m := (m.alloc _).but hL.2 hbb2; replace G : Hid (Below w.heap.size w w4) := Lib.hid (hL.2.below (grow_alloc G.out _) hwb2.out); clear hL c0 d1 d2 d3 d4; have c18 := r18.cell; have f18 := r18.frozen; have l18 := r18.lt)
              | (go_at_call 33; rw [← HV.out]; (with_reducible refine (CD.out _ HTE.out.1 _ (grow_alloc G.out _)).mono ?_); rintro e w5 ⟨rfl, hB⟩; have r19 := (Known.new w4 _ _).below hB; replace r18 := (r18.alloc _).below hB; replace m := (m.alloc _).below hB; replace m2 := (m2.alloc _).below hB; replace G : Hid (Below w.heap.size w w5) := Lib.hid (grow_trans (grow_alloc G.out _) hB); clear hB c18 f18 l18; have c18 := r18.cell; have f18 := r18.frozen; have l18 := r18.lt; have c19 := r19.cell; have f19 := r19.frozen; have l19 := r19.lt)
              | (go_at_call 25; (with_reducible refine (AW.out _ ?_).mono ?_); exact m; rintro e w7 ⟨rfl, hB⟩; clear c18 f18 l18 c19 f19 l19 r18 r19; replace m := m.below hB; replace m2 := m2.below hB; replace G : Hid (Below w.heap.size w w7) := Lib.hid (grow_trans G.out hB); clear hB; dsimp only [rCells] at m2; have c2 := m2.cell; have f2 := m2.frozen; have l2 := m2.lt))
            go_quiet ((go_at_call 31; exact Calls.quiet_of_same (SW.out _ (m.drewN _))))
            go_wp2
            go_roundw
            case rel => exact ⟨k + 1, s', _, by omega, by go_num, HTO.out, HSM.out, HTE.out.2, by rcases HTQ.out with e | e <;> rw [e] <;> omega, by rcases HTQ.out with e | e <;> rw [e] <;> omega, m.drewN _, m2.drewN _, grow_drewN G.out _⟩
            case measure => simp [intOf]; omega
      · go_wp2
        go_ret
        exact ⟨rfl, G.out⟩

end Go.Proofs.YtlfpfeidaohjmaaDoor
