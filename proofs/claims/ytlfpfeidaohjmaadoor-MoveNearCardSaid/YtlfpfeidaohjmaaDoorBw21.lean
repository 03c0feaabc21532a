/- The document's step, walked. -/
import Derived.Test.YtlfpfeidaohjmaaDoorBw20
set_option linter.unusedSimpArgs false
set_option linter.unusedVariables false
namespace Go.Proofs.YtlfpfeidaohjmaaDoor
open Go.RowKit Go.Grow Go.Bo

def StepOfPost (w : World) (n : Nat) (s : Int) (B : Nat → Bd) (e : Ending) (w' : World) : Prop :=
  Below w.heap.size w w' ∧ ((∃ E g c, Bo.step n s B = some E ∧ e = .returned (.tuple #[.slice (some ⟨g, 0, none⟩) n c, .bool true]) ∧ Row w' g 0 n E) ∨ (Bo.step n s B = none ∧ e = .returned (.tuple #[.slice none 0 0, .bool false])))

set_option maxRecDepth 100000 in
set_option maxHeartbeats 16000000 in
theorem stepOf_walk (r : Option Addr) (n cap : Nat) (s : Int) (B : Nat → Bd) (w : World) (hn0 : 0 < n) (hr : BodsAt w r n B) (hn : n ≤ 12) (hs : s = 1 ∨ s = -1) (hok : Ok n B) :
    Calls Tryd.prog 42 #[.slice r n cap, .int .i64 s] w (StepOfPost w n s B) := by
  have K1 := Lib.hid (kicked_walk r n cap s B w hn0 hr (mild_of hn hs hok))
  have DF := Lib.hid (drift_fits hn hs hok)
  have HOK := Lib.hid hok
  clear hr hok
  have s0 := trivial
  go_enter Tryd.func42, Tryd.ntmps42
  go_wp2_with (clear s0; go_at_call 88; (with_reducible refine K1.out.mono ?_); rintro e w1 ⟨g, c, rfl, hg, hrow, hbw⟩; have R1 := Lib.hid hrow; have G1 := Lib.hid hbw; clear hrow hbw)
  clear K1
  go_loopw [7] (fun v7 wr => ∃ k : Nat, k ≤ n ∧ v7 = .int .i64 k ∧ Row wr g 0 n (drB s (kick n s B) k) ∧ But g w1 wr) (fun i _ => n - (intOf i).toNat)
  case atStart => exact ⟨0, Nat.zero_le _, rfl, by rw [drB_zero]; exact R1.out, But.refl _ _⟩
  case round =>
    clear R1
    obtain ⟨k, hk, rfl, hrow, hbut⟩ := hrel
    have R := Lib.hid hrow
    have BT := Lib.hid hbut
    by_cases hlt : k < n
    · obtain ⟨c0, c1, c2, c3, c4, c5, c6⟩ := hrow.body k hlt
      have fz := hrow.frozen
      have hl := hrow.lt
      rw [drB_at] at c0 c1 c2 c3 c4 c5 c6
      have AD := Lib.hid (fun x => more_walk (kick n s B k).p (kick n s B k).v s x (DF.out k hlt))
      have NX := Lib.hid (drB_succ s (kick n s B) k)
      clear hrow hbut
      unfold vec at AD
      generalize (kick n s B k).p.more s (kick n s B k).v = np at AD NX
      generalize kick n s B k = d at c0 c1 c2 c3 c4 c5 c6 AD
      obtain ⟨⟨x, y, z⟩, ⟨u, v, q⟩, m⟩ := d
      simp only [Nat.zero_add] at c0 c1 c2 c3 c4 c5 c6 AD
      go_wp2
      refine Grow.wp_region_over_tail 16 (by kernel_rfl) (by kernel_rfl) ?_
      simp only [List.take_succ_cons, List.take_zero, List.drop_succ_cons, List.drop_zero]
      repeat (go_big_quiet_step ((go_at_call 21; with_reducible exact Calls.over_of (AD.out _))))
      refine wpQuiet_nil ?_
      intro x9 hz9
      have RX := Lib.hid (R.out.below (below_over wr x9))
      have BX := Lib.hid (BT.out.trans (But.of_below (below_over wr x9)))
      have fx := RX.out.frozen
      have hlx := RX.out.lt
      obtain ⟨d0, d1, d2, _⟩ := RX.out.body k hlt
      rw [drB_at] at d0 d1 d2
      simp only [Nat.zero_add] at d0 d1 d2
      clear R BT c0 c1 c2 c3 c4 c5 c6 fz hl
      generalize over wr x9 = w4 at *
      go_wp2
      go_roundw
      case rel =>
        refine ⟨k + 1, by omega, by go_num, ?_, but_set3 BX.out (k * 7) np⟩
        rw [← NX.out]
        have h := RX.out.setP hlt np
        simp only [Nat.zero_add] at h
        exact h
      case measure => simp [intOf]; omega
    · obtain rfl : k = n := by omega
      have R2 := Lib.hid (hrow.at (C := drift s (kick k s B)) (fun j hj => by unfold drB drift; rw [if_pos hj]))
      have G2 := Lib.hid (but_new G1.out hbut hg)
      clear hrow hbut R BT G1 DF
      go_wp2
      go_loopw [8] (fun v8 wq => ∃ i : Nat, i ≤ k ∧ v8 = .int .i64 i ∧ Row wq g 0 k (drift s (kick k s B)) ∧ Below w.heap.size w wq ∧ ∀ j, j < i → (drift s (kick k s B) j).p.le 1048576) (fun i _ => k - (intOf i).toNat)
      case atStart => exact ⟨0, Nat.zero_le _, rfl, R2.out, G2.out, fun j hj => absurd hj (by omega)⟩
      case round =>
        clear R2 G2
        obtain ⟨i, hi, rfl, hrow, hbw, hall⟩ := hrel
        have R := Lib.hid hrow
        have G := Lib.hid hbw
        have AL := Lib.hid hall
        by_cases hlt2 : i < k
        · obtain ⟨c0, c1, c2, _, _, _, _⟩ := hrow.body i hlt2
          have fz := hrow.frozen
          have hl := hrow.lt
          have IN := Lib.hid (fun x => bin_walk (drift s (kick k s B) i).p 1048576 (by omega) (by omega) x)
          have IQ := Lib.hid (C3.inB_iff (drift s (kick k s B) i).p 1048576)
          have NN := Lib.hid (show ¬ (drift s (kick k s B) i).p.le 1048576 → Bo.step k s B = none from fun h => by unfold Bo.step; rw [if_neg (fun h2 => h (h2 i hlt2))])
          clear hrow hbw hall
          unfold vec at IN
          generalize hpd : (drift s (kick k s B) i).p = pd at c0 c1 c2 IN IQ NN
          have HPD := Lib.hid hpd
          clear hpd
          simp only [Nat.zero_add] at c0 c1 c2
          cases hq : pd.inB 1048576 with
          | true =>
            rw [hq] at IN
            have Q := Lib.hid (IQ.out.1 hq)
            clear hq IQ NN
            obtain ⟨x, y, z⟩ := pd
            simp only at c0 c1 c2 IN
            go_wp2_with (go_at_call 80; (with_reducible refine (IN.out _).mono ?_); rintro e w2 ⟨rfl, hb2⟩; have R2 := Lib.hid (R.out.below hb2); have G2 := Lib.hid (grow_trans G.out hb2); clear hb2 R G c0 c1 c2 fz hl)
            go_roundw
            case rel => exact ⟨i + 1, by omega, by go_num, R2.out, G2.out, fun j hj => by
              by_cases e : j = i
              · rw [e, HPD.out]; exact Q.out
              · exact AL.out j (by omega)⟩
            case measure => simp [intOf]; omega
          | false =>
            rw [hq] at IN
            have NO := Lib.hid (NN.out (fun h => by rw [IQ.out.2 h] at hq; cases hq))
            clear hq IQ NN
            obtain ⟨x, y, z⟩ := pd
            simp only at c0 c1 c2 IN
            go_wp2_with (go_at_call 80; (with_reducible refine (IN.out _).mono ?_); rintro e w2 ⟨rfl, hb2⟩; have G2 := Lib.hid (grow_trans G.out hb2); clear hb2 R G c0 c1 c2 fz hl)
            go_ret2
            exact ⟨G2.out, .inr ⟨NO.out, rfl⟩⟩
        · obtain rfl : i = k := by omega
          have hp : okP i (drift s (kick i s B)) := fun j hj => hall j hj
          have K2 := Lib.hid (kicked_walk (some ⟨g, 0, none⟩) i c s (drift s (kick i s B)) _ hn0 hrow.bods (mild2 hn hs HOK.out hp))
          have HS := Lib.hid (show (okV i (kick i s (drift s (kick i s B))) → Bo.step i s B = some (kick i s (drift s (kick i s B)))) ∧ (¬ okV i (kick i s (drift s (kick i s B))) → Bo.step i s B = none) from
            ⟨fun h => by unfold Bo.step; rw [if_pos hp, if_pos h], fun h => by unfold Bo.step; rw [if_pos hp, if_neg h]⟩)
          clear hrow hbw hall hp R AL HOK
          generalize hE : kick i s (drift s (kick i s B)) = E at K2 HS
          clear hE
          have s2 := trivial
          go_wp2_with (clear s2; go_at_call 88; (with_reducible refine K2.out.mono ?_); rintro e w3 ⟨g2, cc, rfl, hg2, hrow, hbw⟩; have R3 := Lib.hid hrow; have G3 := Lib.hid (grow_trans G.out hbw); clear hrow hbw G)
          clear K2 hg2
          go_loopw [10] (fun v10 wq => ∃ m : Nat, m ≤ i ∧ v10 = .int .i64 m ∧ Row wq g2 0 i E ∧ Below w.heap.size w wq ∧ ∀ j, j < m → (E j).v.le 1048576) (fun m _ => i - (intOf m).toNat)
          case atStart => exact ⟨0, Nat.zero_le _, rfl, R3.out, G3.out, fun j hj => absurd hj (by omega)⟩
          case round =>
            clear R3 G3
            obtain ⟨m, hm, rfl, hrow, hbw, hall⟩ := hrel
            have R := Lib.hid hrow
            have G := Lib.hid hbw
            have AL := Lib.hid hall
            by_cases hlt3 : m < i
            · obtain ⟨_, _, _, c3, c4, c5, _⟩ := hrow.body m hlt3
              have fz := hrow.frozen
              have hl := hrow.lt
              have IN := Lib.hid (fun x => bin_walk (E m).v 1048576 (by omega) (by omega) x)
              have IQ := Lib.hid (C3.inB_iff (E m).v 1048576)
              have NN := Lib.hid (show ¬ (E m).v.le 1048576 → Bo.step i s B = none from fun h => HS.out.2 (fun h2 => h (h2 m hlt3)))
              clear hrow hbw hall
              unfold vec at IN
              generalize hpd : (E m).v = pd at c3 c4 c5 IN IQ NN
              have HPD := Lib.hid hpd
              clear hpd
              simp only [Nat.zero_add] at c3 c4 c5
              cases hq : pd.inB 1048576 with
              | true =>
                rw [hq] at IN
                have Q := Lib.hid (IQ.out.1 hq)
                clear hq IQ NN
                obtain ⟨x, y, z⟩ := pd
                simp only at c3 c4 c5 IN
                go_wp2_with (go_at_call 80; (with_reducible refine (IN.out _).mono ?_); rintro e w2 ⟨rfl, hb2⟩; have R2 := Lib.hid (R.out.below hb2); have G2 := Lib.hid (grow_trans G.out hb2); clear hb2 R G c3 c4 c5 fz hl)
                go_roundw
                case rel => exact ⟨m + 1, by omega, by go_num, R2.out, G2.out, fun j hj => by
                  by_cases e : j = m
                  · rw [e, HPD.out]; exact Q.out
                  · exact AL.out j (by omega)⟩
                case measure => simp [intOf]; omega
              | false =>
                rw [hq] at IN
                have NO := Lib.hid (NN.out (fun h => by rw [IQ.out.2 h] at hq; cases hq))
                clear hq IQ NN
                obtain ⟨x, y, z⟩ := pd
                simp only at c3 c4 c5 IN
                go_wp2_with (go_at_call 80; (with_reducible refine (IN.out _).mono ?_); rintro e w2 ⟨rfl, hb2⟩; have G2 := Lib.hid (grow_trans G.out hb2); clear hb2 R G c3 c4 c5 fz hl)
                go_ret2
                exact ⟨G2.out, .inr ⟨NO.out, rfl⟩⟩
            · obtain rfl : m = i := by omega
              have YES := Lib.hid (HS.out.1 (fun j hj => hall j hj))
              clear hrow hbw hall AL HS
              go_wp2
              go_ret2
              exact ⟨G.out, .inl ⟨E, g2, cc, YES.out, rfl, R.out⟩⟩
end Go.Proofs.YtlfpfeidaohjmaaDoor
