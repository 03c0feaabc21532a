/- Run: so many steps, in range. -/
import Derived.Test.YtlfpfeidaohjmaaDoorBw12
set_option linter.unusedSimpArgs false
set_option linter.unusedVariables false
namespace Go.Proofs.YtlfpfeidaohjmaaDoor
open Go.RowKit Go.Grow Go.Bo

theorem but_new {g : Nat} {w w1 w2 : World} (h : Below w.heap.size w w1) (hb : But g w1 w2) (hg : w.heap.size ≤ g) : Below w.heap.size w w2 :=
  h.trans ⟨hb.os, hb.tape, hb.output, hb.size, fun k hk => hb.block k (Nat.lt_of_lt_of_le hk h.size) (by omega)⟩
theorem run_ok' {n : Nat} {k : Nat} {B E : Nat → Bd} {s : Int} (hB : Ok n B) (h : Bo.run n s k B = some E) : Ok n E := Bo.run_ok hB h
set_option maxRecDepth 100000 in
set_option maxHeartbeats 8000000 in
theorem run_inside (a : Nat → Addr) (r : Option Addr) (n cap : Nat) (k : Int) (B : Nat → Bd) (w : World) (hn : n ≤ 9223372036854775807) (hr : BodsAt w r n B) (hs : Sen a [2, 5, 6] w) (h0 : validE n B = 0) (hk : -2000 ≤ k ∧ k ≤ 2000) (hn0 : 0 < n) :
    Calls Tryd.prog 16 #[.slice r n cap, .int .i64 k] w (RunIn a w n k B) := by
  have V := Lib.hid (valid_walk a r n cap B w hn hr hs)
  rw [h0, errV_zero] at V
  obtain ⟨hn12, hok⟩ := validE_ok.1 h0
  have HOK := Lib.hid hok
  have HE := Lib.hid (errV_pos a (show 6 ≠ 0 by decide))
  have c6 := (hs 6 (by decide)).1
  have l6 := (hs.lt (k := 6) (by decide)).1
  simp only [gOf] at c6 l6
  have CL := Lib.hid (fun x (hx : Below w.heap.size w x) => cloneB_walk r n cap B x hn0 (by omega) (hr.below hx))
  clear hr hs h0 hok
  by_cases hneg : k < 0
  · obtain ⟨K, hK⟩ : ∃ K : Nat, (K : Int) = -k := ⟨k.natAbs, by omega⟩
    have RZ := Lib.hid (show runZ n k B = Bo.run n (-1) K B by unfold runZ sgn; rw [if_pos hneg, show k.natAbs = K by omega])
    have en : IntKind.i64.wrap (-k) = (K : Int) := by rw [← hK]; exact IntWalk.i64_in _ (by omega)
    have hKm : K ≤ 2000 := by omega
    clear hK
    go_enter Tryd.func16, Tryd.ntmps16
    go_wp2_with (first
      | (go_at_call 34; (with_reducible refine V.out.mono ?_); rintro e w1 ⟨rfl, hb⟩; have HB := Lib.hid hb; clear hb)
      | (go_at_call 68; (with_reducible refine (CL.out _ HB.out).mono ?_); rintro e w2 ⟨g, c, rfl, hg, hrw, hb⟩; have hgs : w.heap.size ≤ g := Nat.le_trans HB.out.size hg; have R := Lib.hid hrw; have HB2 := Lib.hid (grow_trans HB.out hb); clear hrw hb HB))
    go_loopw [27] (fun v27 wr => ∃ (i : Nat) (E : Nat → Bd), i ≤ K ∧ v27 = .int .i64 i ∧ Bo.run n (-1) i B = some E ∧ Row wr g 0 n E ∧ Below w.heap.size w wr) (fun v _ => K - (intOf v).toNat)
    case atStart => exact ⟨0, B, Nat.zero_le _, rfl, rfl, R.out, HB2.out⟩
    case round =>
      clear R HB2
      obtain ⟨i, E, hi, rfl, hrun, hrow, hb⟩ := hrel
      have R := Lib.hid hrow
      have HB := Lib.hid hb
      have HRUN := Lib.hid hrun
      clear hrow hb hrun
      by_cases hlt : i < K
      · have ST := Lib.hid (step_walk g 0 n c (-1) E wr R.out hn12 (by decide) (run_ok' HOK.out HRUN.out))
        cases hst : Bo.step n (-1) E with
        | none =>
          have HN := Lib.hid (run_stop HRUN.out hst hlt)
          have S2 := Lib.hid (show Calls Tryd.prog 69 #[.slice (some ⟨g, 0, none⟩) n c, .int .i64 (-1)] wr fun e w' => e = .returned (.bool false) ∧ But g wr w' from
            ST.out.mono fun e w' ⟨h1, h2⟩ => by
              rcases h2 with ⟨F, h3, _⟩ | ⟨_, h3⟩
              · rw [hst] at h3; cases h3
              · exact ⟨h3, h1⟩)
          clear ST hst
          go_wp2_with (go_at_call 69; (with_reducible refine S2.out.mono ?_); rintro e w3 ⟨rfl, hb⟩; have HB3 := Lib.hid (but_new HB.out hb hgs); obtain ⟨hc1, hf1, hz1⟩ := facts (but_new HB.out hb hgs); clear hb)
          go_quiet (fail)
          go_wp2
          go_ret2
          exact ⟨grow_drewN HB3.out _, .inr ⟨by rw [RZ.out]; exact HN.out, by rw [HE.out]; rfl⟩⟩
        | some F =>
          have HN := Lib.hid (run_on HRUN.out hst)
          have S2 := Lib.hid (show Calls Tryd.prog 69 #[.slice (some ⟨g, 0, none⟩) n c, .int .i64 (-1)] wr fun e w' => e = .returned (.bool true) ∧ Row w' g 0 n F ∧ But g wr w' from
            ST.out.mono fun e w' ⟨h1, h2⟩ => by
              rcases h2 with ⟨F2, h3, h4, h5⟩ | ⟨h3, _⟩
              · rw [hst] at h3; cases h3; exact ⟨h4, h5, h1⟩
              · rw [hst] at h3; cases h3)
          clear ST hst
          go_wp2_with (go_at_call 69; (with_reducible refine S2.out.mono ?_); rintro e w3 ⟨rfl, hrw, hb⟩; have R3 := Lib.hid hrw; have HB3 := Lib.hid (but_new HB.out hb hgs); clear hrw hb)
          go_roundw
          case rel => exact ⟨i + 1, F, by omega, by go_num, HN.out, R3.out, HB3.out⟩
          case measure => simp [intOf]; omega
      · obtain rfl : i = K := by omega
        go_wp2
        go_ret2
        exact ⟨HB.out, .inl ⟨E, _, _, by rw [RZ.out]; exact HRUN.out, rfl, R.out.bods, fun h => by cases h⟩⟩
  · obtain ⟨K, rfl⟩ : ∃ K : Nat, (K : Int) = k := ⟨k.toNat, by omega⟩
    have RZ := Lib.hid (show runZ n K B = Bo.run n 1 K B by unfold runZ sgn; rw [if_neg hneg, show (K : Int).natAbs = K by omega])
    have hKm : K ≤ 2000 := by omega
    go_enter Tryd.func16, Tryd.ntmps16
    go_wp2_with (first
      | (go_at_call 34; (with_reducible refine V.out.mono ?_); rintro e w1 ⟨rfl, hb⟩; have HB := Lib.hid hb; clear hb)
      | (go_at_call 68; (with_reducible refine (CL.out _ HB.out).mono ?_); rintro e w2 ⟨g, c, rfl, hg, hrw, hb⟩; have hgs : w.heap.size ≤ g := Nat.le_trans HB.out.size hg; have R := Lib.hid hrw; have HB2 := Lib.hid (grow_trans HB.out hb); clear hrw hb HB))
    go_loopw [27] (fun v27 wr => ∃ (i : Nat) (E : Nat → Bd), i ≤ K ∧ v27 = .int .i64 i ∧ Bo.run n 1 i B = some E ∧ Row wr g 0 n E ∧ Below w.heap.size w wr) (fun v _ => K - (intOf v).toNat)
    case atStart => exact ⟨0, B, Nat.zero_le _, rfl, rfl, R.out, HB2.out⟩
    case round =>
      clear R HB2
      obtain ⟨i, E, hi, rfl, hrun, hrow, hb⟩ := hrel
      have R := Lib.hid hrow
      have HB := Lib.hid hb
      have HRUN := Lib.hid hrun
      clear hrow hb hrun
      by_cases hlt : i < K
      · have ST := Lib.hid (step_walk g 0 n c 1 E wr R.out hn12 (by decide) (run_ok' HOK.out HRUN.out))
        cases hst : Bo.step n 1 E with
        | none =>
          have HN := Lib.hid (run_stop HRUN.out hst hlt)
          have S2 := Lib.hid (show Calls Tryd.prog 69 #[.slice (some ⟨g, 0, none⟩) n c, .int .i64 1] wr fun e w' => e = .returned (.bool false) ∧ But g wr w' from
            ST.out.mono fun e w' ⟨h1, h2⟩ => by
              rcases h2 with ⟨F, h3, _⟩ | ⟨_, h3⟩
              · rw [hst] at h3; cases h3
              · exact ⟨h3, h1⟩)
          clear ST hst
          go_wp2_with (go_at_call 69; (with_reducible refine S2.out.mono ?_); rintro e w3 ⟨rfl, hb⟩; have HB3 := Lib.hid (but_new HB.out hb hgs); obtain ⟨hc1, hf1, hz1⟩ := facts (but_new HB.out hb hgs); clear hb)
          go_quiet (fail)
          go_wp2
          go_ret2
          exact ⟨grow_drewN HB3.out _, .inr ⟨by rw [RZ.out]; exact HN.out, by rw [HE.out]; rfl⟩⟩
        | some F =>
          have HN := Lib.hid (run_on HRUN.out hst)
          have S2 := Lib.hid (show Calls Tryd.prog 69 #[.slice (some ⟨g, 0, none⟩) n c, .int .i64 1] wr fun e w' => e = .returned (.bool true) ∧ Row w' g 0 n F ∧ But g wr w' from
            ST.out.mono fun e w' ⟨h1, h2⟩ => by
              rcases h2 with ⟨F2, h3, h4, h5⟩ | ⟨h3, _⟩
              · rw [hst] at h3; cases h3; exact ⟨h4, h5, h1⟩
              · rw [hst] at h3; cases h3)
          clear ST hst
          go_wp2_with (go_at_call 69; (with_reducible refine S2.out.mono ?_); rintro e w3 ⟨rfl, hrw, hb⟩; have R3 := Lib.hid hrw; have HB3 := Lib.hid (but_new HB.out hb hgs); clear hrw hb)
          go_roundw
          case rel => exact ⟨i + 1, F, by omega, by go_num, HN.out, R3.out, HB3.out⟩
          case measure => simp [intOf]; omega
      · obtain rfl : i = K := by omega
        go_wp2
        go_ret2
        exact ⟨HB.out, .inl ⟨E, _, _, by rw [RZ.out]; exact HRUN.out, rfl, R.out.bods, fun h => by cases h⟩⟩
end Go.Proofs.YtlfpfeidaohjmaaDoor
