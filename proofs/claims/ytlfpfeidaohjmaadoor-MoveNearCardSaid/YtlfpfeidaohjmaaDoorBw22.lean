/- The document's run, walked: bodies that are all as they must be. -/
import Derived.Test.YtlfpfeidaohjmaaDoorBw21
set_option linter.unusedSimpArgs false
set_option linter.unusedVariables false
namespace Go.Proofs.YtlfpfeidaohjmaaDoor
open Go.RowKit Go.Grow Go.Bo

def RunOfIn (w : World) (n : Nat) (k : Int) (B : Nat → Bd) (e : Ending) (w' : World) : Prop :=
  Below w.heap.size w w' ∧ ((∃ E r c, runZ n k B = some E ∧ e = .returned (.tuple #[.slice r n c, .int .i64 0]) ∧ BodsAt w' r n E) ∨ (runZ n k B = none ∧ e = .returned (.tuple #[.slice none 0 0, .int .i64 6])))

set_option maxRecDepth 100000 in
set_option maxHeartbeats 16000000 in
theorem runOf_inside (r : Option Addr) (n cap : Nat) (k : Int) (B : Nat → Bd) (w : World) (hr : BodsAt w r n B) (h0 : validE n B = 0) (hk : -2000 ≤ k ∧ k ≤ 2000) (hn0 : 0 < n) :
    Calls Tryd.prog 32 #[.slice r n cap, .int .i64 k] w (RunOfIn w n k B) := by
  obtain ⟨hn12, hok⟩ := validE_ok.1 h0
  have V := Lib.hid (bodiesError_walk r n cap B w (by omega) hr)
  rw [h0] at V
  have HOK := Lib.hid hok
  obtain ⟨b, o, rfl, hb, hc⟩ := hr.resolve_left (by omega)
  obtain ⟨i0, hi, hz0, hz1, hz2⟩ := info_partsB infoM
  have HI := Lib.hid hi
  have HZ0 := Lib.hid hz0
  have HZ1 := Lib.hid hz1
  have HZ2 := Lib.hid hz2
  have HCC := Lib.hid hc
  have C3 := Lib.hid (show 0 + n ≤ maxLen by unfold maxLen; omega)
  have C4 := Lib.hid (show (0 + n) * 56 ≤ 140737488355328 by omega)
  clear hi hz0 hz1 hz2 hr hc hok h0
  by_cases hneg : k < 0
  · obtain ⟨K, hK⟩ : ∃ K : Nat, k = -(K : Int) := ⟨k.natAbs, by omega⟩
    have RZ := Lib.hid (show runZ n k B = Bo.run n (-1) K B by unfold runZ sgn; rw [if_pos hneg, show k.natAbs = K by omega])
    have hKm : K ≤ 2000 := by omega
    go_enter Tryd.func32, Tryd.ntmps32
    go_wp2_with (first
      | (go_at_call 35; (with_reducible refine V.out.mono ?_); rintro e w1 ⟨rfl, hb1⟩; have HB := Lib.hid hb1; have HN := Lib.hid (bods_cells (fun k hk => (HCC.out k hk).below hb1 hb)); have HO := Lib.hid (World.ownsRow_nil w1 w1.heap.size 39 7); clear hb1)
      | (at_builtin; refine wpList_append_own _ rfl _ _ 22 rfl w1.heap.size 39 i0 (.agg #[.int .i64 0, .int .i64 0, .int .i64 0, .int .i64 0, .int .i64 0, .int .i64 0, .int .i64 0]) 7 56 Tryd.underlying22 HI.out HZ0.out HZ1.out HZ2.out rfl (by decide) _ _ _ rfl HO.out ⟨b, o, none⟩ n cap (cellsB n B) rfl (cellsB_length n B) HN.out (cellsB_one n B) C3.out C4.out (by simp) ?_))
    intro v' w2 hown hg' _
    have hown' : w2.ownsRow w1.heap.size 39 7 v' n (cellsB n B) := by simpa using hown
    have HG := Lib.hid (grow_trans HB.out (show Below w1.heap.size w1 w2 from Below.grown (grow_refl _) hg' (Nat.le_refl _) (fun k hk => by simp [Value.ownBlock] at hk)))
    obtain ⟨g, c, rfl, hg, _⟩ := hown'.form hn0
    have HR := Lib.hid (row_of hown')
    clear hown hown' hg' HO HN HI HZ0 HZ1 HZ2 C3 C4 V
    go_wp2
    go_loopw [1, 7] (fun v1 v7 wr => ∃ (i : Nat) (E : Nat → Bd) (g c : Nat), i ≤ K ∧ v1 = .int .i64 ((i : Int) - K) ∧ v7 = .slice (some ⟨g, 0, none⟩) n c ∧ Bo.run n (-1) i B = some E ∧ Row wr g 0 n E ∧ Below w.heap.size w wr) (fun v _ _ => (intOf v).natAbs)
    case atStart => exact ⟨0, B, g, c, Nat.zero_le _, by (congr 1; try omega), rfl, rfl, HR.out, HG.out⟩
    case round =>
      clear HR HG hg
      obtain ⟨i, E, g, c, hi, rfl, rfl, hrun, hrow, hb⟩ := hrel
      have R := Lib.hid hrow
      have HB := Lib.hid hb
      have HRUN := Lib.hid hrun
      clear hrow hb hrun
      by_cases hlt : i < K
      · have ST := Lib.hid (stepOf_walk (some ⟨g, 0, none⟩) n c (-1) E wr hn0 R.out.bods hn12 (by decide) (run_ok' HOK.out HRUN.out))
        have s0 := trivial
        cases hst : Bo.step n (-1) E with
        | none =>
          have HN := Lib.hid (run_stop HRUN.out hst hlt)
          have S2 := Lib.hid (show Calls Tryd.prog 42 #[.slice (some ⟨g, 0, none⟩) n c, .int .i64 (-1)] wr fun e w' => e = .returned (.tuple #[.slice none 0 0, .bool false]) ∧ Below wr.heap.size wr w' from
            ST.out.mono fun e w' ⟨h1, h2⟩ => by
              rcases h2 with ⟨F, _, _, h3, _⟩ | ⟨_, h3⟩
              · rw [hst] at h3; cases h3
              · exact ⟨h3, h1⟩)
          clear ST hst
          go_wp2_with (clear s0; go_at_call 42; (with_reducible refine S2.out.mono ?_); rintro e w3 ⟨rfl, hb⟩; have HB3 := Lib.hid (grow_trans HB.out hb); clear hb)
          go_ret2
          exact ⟨HB3.out, .inr ⟨by rw [RZ.out]; exact HN.out, rfl⟩⟩
        | some F =>
          have HN := Lib.hid (run_on HRUN.out hst)
          have S2 := Lib.hid (show Calls Tryd.prog 42 #[.slice (some ⟨g, 0, none⟩) n c, .int .i64 (-1)] wr fun e w' => (∃ g2 c2, e = .returned (.tuple #[.slice (some ⟨g2, 0, none⟩) n c2, .bool true]) ∧ Row w' g2 0 n F) ∧ Below wr.heap.size wr w' from
            ST.out.mono fun e w' ⟨h1, h2⟩ => by
              rcases h2 with ⟨F2, g2, c2, h3, h4, h5⟩ | ⟨h3, _⟩
              · rw [hst] at h3; cases h3; exact ⟨⟨g2, c2, h4, h5⟩, h1⟩
              · rw [hst] at h3; cases h3)
          clear ST hst
          go_wp2_with (clear s0; go_at_call 42; (with_reducible refine S2.out.mono ?_); rintro e w3 ⟨⟨g2, c2, rfl, hr2⟩, hb⟩; have HB3 := Lib.hid (grow_trans HB.out hb); have R3 := Lib.hid hr2; clear hb hr2)
          go_roundw
          case rel => exact ⟨i + 1, F, g2, c2, by omega, by go_num, rfl, HN.out, R3.out, HB3.out⟩
          case measure => simp [intOf, IntKind.wrap]; omega
      · obtain rfl : i = K := by omega
        go_wp2
        go_ret2
        exact ⟨HB.out, .inl ⟨E, _, _, by rw [RZ.out]; exact HRUN.out, rfl, R.out.bods⟩⟩
  · obtain ⟨K, hK⟩ : ∃ K : Nat, k = (K : Int) := ⟨k.toNat, by omega⟩
    have RZ := Lib.hid (show runZ n k B = Bo.run n 1 K B by unfold runZ sgn; rw [if_neg hneg, show k.natAbs = K by omega])
    have hKm : K ≤ 2000 := by omega
    go_enter Tryd.func32, Tryd.ntmps32
    go_wp2_with (first
      | (go_at_call 35; (with_reducible refine V.out.mono ?_); rintro e w1 ⟨rfl, hb1⟩; have HB := Lib.hid hb1; have HN := Lib.hid (bods_cells (fun k hk => (HCC.out k hk).below hb1 hb)); have HO := Lib.hid (World.ownsRow_nil w1 w1.heap.size 39 7); clear hb1)
      | (at_builtin; refine wpList_append_own _ rfl _ _ 22 rfl w1.heap.size 39 i0 (.agg #[.int .i64 0, .int .i64 0, .int .i64 0, .int .i64 0, .int .i64 0, .int .i64 0, .int .i64 0]) 7 56 Tryd.underlying22 HI.out HZ0.out HZ1.out HZ2.out rfl (by decide) _ _ _ rfl HO.out ⟨b, o, none⟩ n cap (cellsB n B) rfl (cellsB_length n B) HN.out (cellsB_one n B) C3.out C4.out (by simp) ?_))
    intro v' w2 hown hg' _
    have hown' : w2.ownsRow w1.heap.size 39 7 v' n (cellsB n B) := by simpa using hown
    have HG := Lib.hid (grow_trans HB.out (show Below w1.heap.size w1 w2 from Below.grown (grow_refl _) hg' (Nat.le_refl _) (fun k hk => by simp [Value.ownBlock] at hk)))
    obtain ⟨g, c, rfl, hg, _⟩ := hown'.form hn0
    have HR := Lib.hid (row_of hown')
    clear hown hown' hg' HO HN HI HZ0 HZ1 HZ2 C3 C4 V
    go_wp2
    go_loopw [1, 7] (fun v1 v7 wr => ∃ (i : Nat) (E : Nat → Bd) (g c : Nat), i ≤ K ∧ v1 = .int .i64 ((K : Int) - i) ∧ v7 = .slice (some ⟨g, 0, none⟩) n c ∧ Bo.run n 1 i B = some E ∧ Row wr g 0 n E ∧ Below w.heap.size w wr) (fun v _ _ => (intOf v).natAbs)
    case atStart => exact ⟨0, B, g, c, Nat.zero_le _, by (congr 1; try omega), rfl, rfl, HR.out, HG.out⟩
    case round =>
      clear HR HG hg
      obtain ⟨i, E, g, c, hi, rfl, rfl, hrun, hrow, hb⟩ := hrel
      have R := Lib.hid hrow
      have HB := Lib.hid hb
      have HRUN := Lib.hid hrun
      clear hrow hb hrun
      by_cases hlt : i < K
      · have ST := Lib.hid (stepOf_walk (some ⟨g, 0, none⟩) n c 1 E wr hn0 R.out.bods hn12 (by decide) (run_ok' HOK.out HRUN.out))
        have s0 := trivial
        cases hst : Bo.step n 1 E with
        | none =>
          have HN := Lib.hid (run_stop HRUN.out hst hlt)
          have S2 := Lib.hid (show Calls Tryd.prog 42 #[.slice (some ⟨g, 0, none⟩) n c, .int .i64 1] wr fun e w' => e = .returned (.tuple #[.slice none 0 0, .bool false]) ∧ Below wr.heap.size wr w' from
            ST.out.mono fun e w' ⟨h1, h2⟩ => by
              rcases h2 with ⟨F, _, _, h3, _⟩ | ⟨_, h3⟩
              · rw [hst] at h3; cases h3
              · exact ⟨h3, h1⟩)
          clear ST hst
          go_wp2_with (clear s0; go_at_call 42; (with_reducible refine S2.out.mono ?_); rintro e w3 ⟨rfl, hb⟩; have HB3 := Lib.hid (grow_trans HB.out hb); clear hb)
          go_ret2
          exact ⟨HB3.out, .inr ⟨by rw [RZ.out]; exact HN.out, rfl⟩⟩
        | some F =>
          have HN := Lib.hid (run_on HRUN.out hst)
          have S2 := Lib.hid (show Calls Tryd.prog 42 #[.slice (some ⟨g, 0, none⟩) n c, .int .i64 1] wr fun e w' => (∃ g2 c2, e = .returned (.tuple #[.slice (some ⟨g2, 0, none⟩) n c2, .bool true]) ∧ Row w' g2 0 n F) ∧ Below wr.heap.size wr w' from
            ST.out.mono fun e w' ⟨h1, h2⟩ => by
              rcases h2 with ⟨F2, g2, c2, h3, h4, h5⟩ | ⟨h3, _⟩
              · rw [hst] at h3; cases h3; exact ⟨⟨g2, c2, h4, h5⟩, h1⟩
              · rw [hst] at h3; cases h3)
          clear ST hst
          go_wp2_with (clear s0; go_at_call 42; (with_reducible refine S2.out.mono ?_); rintro e w3 ⟨⟨g2, c2, rfl, hr2⟩, hb⟩; have HB3 := Lib.hid (grow_trans HB.out hb); have R3 := Lib.hid hr2; clear hb hr2)
          go_roundw
          case rel => exact ⟨i + 1, F, g2, c2, by omega, by go_num, rfl, HN.out, R3.out, HB3.out⟩
          case measure => simp [intOf, IntKind.wrap]; omega
      · obtain rfl : i = K := by omega
        go_wp2
        go_ret2
        exact ⟨HB.out, .inl ⟨E, _, _, by rw [RZ.out]; exact HRUN.out, rfl, R.out.bods⟩⟩
end Go.Proofs.YtlfpfeidaohjmaaDoor
