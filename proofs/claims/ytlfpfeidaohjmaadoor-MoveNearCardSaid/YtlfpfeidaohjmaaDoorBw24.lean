/- The document's run of no bodies. -/
import Derived.Test.YtlfpfeidaohjmaaDoorBw23
set_option linter.unusedSimpArgs false
set_option linter.unusedVariables false
namespace Go.Proofs.YtlfpfeidaohjmaaDoor
open Go.RowKit Go.Grow Go.Bo

set_option maxRecDepth 100000 in
set_option maxHeartbeats 16000000 in
theorem runOf0 (r : Option Addr) (cap : Nat) (k : Int) (B : Nat → Bd) (w : World) (hk : -2000 ≤ k ∧ k ≤ 2000) :
    Calls Tryd.prog 32 #[.slice r 0 cap, .int .i64 k] w fun e w' => (∃ r' c, e = .returned (.tuple #[.slice r' 0 c, .int .i64 0])) ∧ Below w.heap.size w w' := by
  have V := Lib.hid (bodiesError_walk r 0 cap B w (by omega) (.inl rfl))
  rw [show validE 0 B = 0 from validE_ok.2 ⟨by omega, fun i h => absurd h (by omega), fun i h => absurd h (by omega), fun i h => absurd h (by omega)⟩] at V
  have S := Lib.hid (fun r c s x => stepOf0 r c s x)
  obtain ⟨i0, hi, hz0, hz1, hz2⟩ := info_partsB infoM
  have HI := Lib.hid hi
  have HZ0 := Lib.hid hz0
  have HZ1 := Lib.hid hz1
  have HZ2 := Lib.hid hz2
  clear hi hz0 hz1 hz2
  by_cases hneg : k < 0
  · obtain ⟨K, rfl⟩ : ∃ K : Nat, k = -(K : Int) := ⟨k.natAbs, by omega⟩
    have hKm : K ≤ 2000 := by omega
    cases r with
    | none =>
      go_enter Tryd.func32, Tryd.ntmps32
      go_wp2_with (go_at_call 35; (with_reducible refine V.out.mono ?_); rintro e w1 ⟨rfl, hb1⟩; have HG := Lib.hid hb1; clear hb1)
      go_loopw [1, 7] (fun v1 v7 wr => ∃ (m : Nat) (r' : Option Addr) (c : Nat), m ≤ 2000 ∧ v1 = .int .i64 (-(m : Int)) ∧ v7 = .slice r' 0 c ∧ Below w.heap.size w wr) (fun v _ _ => (intOf v).natAbs)
      case atStart => exact ⟨K, _, _, hKm, rfl, rfl, HG.out⟩
      case round =>
        clear HG
        obtain ⟨m, r', c, hm, rfl, rfl, hb⟩ := hrel
        have HB := Lib.hid hb
        clear hb
        by_cases hlt : 0 < m
        · obtain ⟨q, rfl⟩ : ∃ q, m = q + 1 := ⟨m - 1, by omega⟩
          have s0 := trivial
          go_wp2_with (clear s0; go_at_call 42; (with_reducible refine (S.out _ _ _ _).mono ?_); rintro e w3 ⟨⟨r2, c2, rfl⟩, hb⟩; have HB3 := Lib.hid (grow_trans HB.out hb); clear hb)
          go_roundw
          case rel => exact ⟨q, r2, c2, by omega, by go_num, rfl, HB3.out⟩
          case measure => simp [intOf, IntKind.wrap]; omega
        · obtain rfl : m = 0 := by omega
          go_wp2
          go_ret2
          exact ⟨⟨_, _, rfl⟩, HB.out⟩
    | some a0 =>
      go_enter Tryd.func32, Tryd.ntmps32
      go_wp2_with (first
        | (go_at_call 35; (with_reducible refine V.out.mono ?_); rintro e w1 ⟨rfl, hb1⟩; have HB := Lib.hid hb1; have HO := Lib.hid (World.ownsRow_nil w1 w1.heap.size 39 7); clear hb1)
        | (at_builtin; refine wpList_append_own _ rfl _ _ 22 rfl w1.heap.size 39 i0 (.agg #[.int .i64 0, .int .i64 0, .int .i64 0, .int .i64 0, .int .i64 0, .int .i64 0, .int .i64 0]) 7 56 Tryd.underlying22 HI.out HZ0.out HZ1.out HZ2.out rfl (by decide) _ _ _ rfl HO.out a0 0 cap [] rfl rfl (fun j u h => by cases h) (fun u h => by cases h) (by unfold maxLen; omega) (by omega) (by simp) ?_))
      intro v' w2 hown hg' _
      have HG := Lib.hid (grow_trans HB.out (show Below w1.heap.size w1 w2 from Below.grown (grow_refl w1) hg' (Nat.le_refl _) (fun k hk => by simp [Value.ownBlock] at hk)))
      have hv : ∃ r' c, v' = .slice r' 0 c := by
        obtain ⟨_, ⟨hv, _⟩ | ⟨g', c', cur, hv, _⟩⟩ := hown
        · exact ⟨_, _, hv⟩
        · exact ⟨_, _, hv⟩
      obtain ⟨r', c, rfl⟩ := hv
      clear hown hg' HO HI HZ0 HZ1 HZ2 HB
      go_wp2
      go_loopw [1, 7] (fun v1 v7 wr => ∃ (m : Nat) (r' : Option Addr) (c : Nat), m ≤ 2000 ∧ v1 = .int .i64 (-(m : Int)) ∧ v7 = .slice r' 0 c ∧ Below w.heap.size w wr) (fun v _ _ => (intOf v).natAbs)
      case atStart => exact ⟨K, _, _, hKm, rfl, rfl, HG.out⟩
      case round =>
        clear HG
        obtain ⟨m, r', c, hm, rfl, rfl, hb⟩ := hrel
        have HB := Lib.hid hb
        clear hb
        by_cases hlt : 0 < m
        · obtain ⟨q, rfl⟩ : ∃ q, m = q + 1 := ⟨m - 1, by omega⟩
          have s0 := trivial
          go_wp2_with (clear s0; go_at_call 42; (with_reducible refine (S.out _ _ _ _).mono ?_); rintro e w3 ⟨⟨r2, c2, rfl⟩, hb⟩; have HB3 := Lib.hid (grow_trans HB.out hb); clear hb)
          go_roundw
          case rel => exact ⟨q, r2, c2, by omega, by go_num, rfl, HB3.out⟩
          case measure => simp [intOf, IntKind.wrap]; omega
        · obtain rfl : m = 0 := by omega
          go_wp2
          go_ret2
          exact ⟨⟨_, _, rfl⟩, HB.out⟩
  · obtain ⟨K, rfl⟩ : ∃ K : Nat, k = (K : Int) := ⟨k.toNat, by omega⟩
    have hKm : K ≤ 2000 := by omega
    cases r with
    | none =>
      go_enter Tryd.func32, Tryd.ntmps32
      go_wp2_with (go_at_call 35; (with_reducible refine V.out.mono ?_); rintro e w1 ⟨rfl, hb1⟩; have HG := Lib.hid hb1; clear hb1)
      go_loopw [1, 7] (fun v1 v7 wr => ∃ (m : Nat) (r' : Option Addr) (c : Nat), m ≤ 2000 ∧ v1 = .int .i64 (m : Int) ∧ v7 = .slice r' 0 c ∧ Below w.heap.size w wr) (fun v _ _ => (intOf v).natAbs)
      case atStart => exact ⟨K, _, _, hKm, rfl, rfl, HG.out⟩
      case round =>
        clear HG
        obtain ⟨m, r', c, hm, rfl, rfl, hb⟩ := hrel
        have HB := Lib.hid hb
        clear hb
        by_cases hlt : 0 < m
        · obtain ⟨q, rfl⟩ : ∃ q, m = q + 1 := ⟨m - 1, by omega⟩
          have s0 := trivial
          go_wp2_with (clear s0; go_at_call 42; (with_reducible refine (S.out _ _ _ _).mono ?_); rintro e w3 ⟨⟨r2, c2, rfl⟩, hb⟩; have HB3 := Lib.hid (grow_trans HB.out hb); clear hb)
          go_roundw
          case rel => exact ⟨q, r2, c2, by omega, by go_num, rfl, HB3.out⟩
          case measure => simp [intOf, IntKind.wrap]; omega
        · obtain rfl : m = 0 := by omega
          go_wp2
          go_ret2
          exact ⟨⟨_, _, rfl⟩, HB.out⟩
    | some a0 =>
      go_enter Tryd.func32, Tryd.ntmps32
      go_wp2_with (first
        | (go_at_call 35; (with_reducible refine V.out.mono ?_); rintro e w1 ⟨rfl, hb1⟩; have HB := Lib.hid hb1; have HO := Lib.hid (World.ownsRow_nil w1 w1.heap.size 39 7); clear hb1)
        | (at_builtin; refine wpList_append_own _ rfl _ _ 22 rfl w1.heap.size 39 i0 (.agg #[.int .i64 0, .int .i64 0, .int .i64 0, .int .i64 0, .int .i64 0, .int .i64 0, .int .i64 0]) 7 56 Tryd.underlying22 HI.out HZ0.out HZ1.out HZ2.out rfl (by decide) _ _ _ rfl HO.out a0 0 cap [] rfl rfl (fun j u h => by cases h) (fun u h => by cases h) (by unfold maxLen; omega) (by omega) (by simp) ?_))
      intro v' w2 hown hg' _
      have HG := Lib.hid (grow_trans HB.out (show Below w1.heap.size w1 w2 from Below.grown (grow_refl w1) hg' (Nat.le_refl _) (fun k hk => by simp [Value.ownBlock] at hk)))
      have hv : ∃ r' c, v' = .slice r' 0 c := by
        obtain ⟨_, ⟨hv, _⟩ | ⟨g', c', cur, hv, _⟩⟩ := hown
        · exact ⟨_, _, hv⟩
        · exact ⟨_, _, hv⟩
      obtain ⟨r', c, rfl⟩ := hv
      clear hown hg' HO HI HZ0 HZ1 HZ2 HB
      go_wp2
      go_loopw [1, 7] (fun v1 v7 wr => ∃ (m : Nat) (r' : Option Addr) (c : Nat), m ≤ 2000 ∧ v1 = .int .i64 (m : Int) ∧ v7 = .slice r' 0 c ∧ Below w.heap.size w wr) (fun v _ _ => (intOf v).natAbs)
      case atStart => exact ⟨K, _, _, hKm, rfl, rfl, HG.out⟩
      case round =>
        clear HG
        obtain ⟨m, r', c, hm, rfl, rfl, hb⟩ := hrel
        have HB := Lib.hid hb
        clear hb
        by_cases hlt : 0 < m
        · obtain ⟨q, rfl⟩ : ∃ q, m = q + 1 := ⟨m - 1, by omega⟩
          have s0 := trivial
          go_wp2_with (clear s0; go_at_call 42; (with_reducible refine (S.out _ _ _ _).mono ?_); rintro e w3 ⟨⟨r2, c2, rfl⟩, hb⟩; have HB3 := Lib.hid (grow_trans HB.out hb); clear hb)
          go_roundw
          case rel => exact ⟨q, r2, c2, by omega, by go_num, rfl, HB3.out⟩
          case measure => simp [intOf, IntKind.wrap]; omega
        · obtain rfl : m = 0 := by omega
          go_wp2
          go_ret2
          exact ⟨⟨_, _, rfl⟩, HB.out⟩
end Go.Proofs.YtlfpfeidaohjmaaDoor
