/- The document's run, walked: bodies that are not as they must be, too many steps, and no bodies at all. -/
import Derived.Test.YtlfpfeidaohjmaaDoorBw22
set_option linter.unusedSimpArgs false
set_option linter.unusedVariables false
namespace Go.Proofs.YtlfpfeidaohjmaaDoor
open Go.RowKit Go.Grow Go.Bo

def RunOfOut (w : World) (x : Nat) (e : Ending) (w' : World) : Prop := e = .returned (.tuple #[.slice none 0 0, .int .i64 (x : Nat)]) ∧ Below w.heap.size w w'
set_option maxRecDepth 100000 in
set_option maxHeartbeats 16000000 in
theorem runOf_bad (r : Option Addr) (n cap : Nat) (k : Int) (B : Nat → Bd) (w : World) (hn : n ≤ 9223372036854775807) (hr : BodsAt w r n B) (h0 : validE n B ≠ 0) :
    Calls Tryd.prog 32 #[.slice r n cap, .int .i64 k] w (RunOfOut w (validE n B)) := by
  have V := Lib.hid (bodiesError_walk r n cap B w hn hr)
  have h10 := validE_le n B
  generalize validE n B = x at *
  clear hr
  go_enter Tryd.func32, Tryd.ntmps32
  go_wp2_with (go_at_call 35; (with_reducible refine V.out.mono ?_); rintro e w1 ⟨rfl, hb1⟩; have HB := Lib.hid hb1; clear hb1)
  go_ret2
  exact ⟨rfl, HB.out⟩
set_option maxRecDepth 100000 in
set_option maxHeartbeats 16000000 in
theorem runOf_far (r : Option Addr) (n cap : Nat) (k : Int) (B : Nat → Bd) (w : World) (hn : n ≤ 9223372036854775807) (hr : BodsAt w r n B) (h0 : validE n B = 0) (hk : k < -2000 ∨ 2000 < k) :
    Calls Tryd.prog 32 #[.slice r n cap, .int .i64 k] w (RunOfOut w 2) := by
  have V := Lib.hid (bodiesError_walk r n cap B w hn hr)
  rw [h0] at V
  clear hr
  by_cases hneg : k < 0
  · have hk1 : k < -2000 := by omega
    clear hk
    go_enter Tryd.func32, Tryd.ntmps32
    go_wp2_with (go_at_call 35; (with_reducible refine V.out.mono ?_); rintro e w1 ⟨rfl, hb1⟩; have HB := Lib.hid hb1; clear hb1)
    go_ret2
    exact ⟨rfl, HB.out⟩
  · have hk1 : 2000 < k := by omega
    clear hk
    go_enter Tryd.func32, Tryd.ntmps32
    go_wp2_with (go_at_call 35; (with_reducible refine V.out.mono ?_); rintro e w1 ⟨rfl, hb1⟩; have HB := Lib.hid hb1; clear hb1)
    go_ret2
    exact ⟨rfl, HB.out⟩
set_option maxRecDepth 100000 in
set_option maxHeartbeats 16000000 in
theorem kicked0 (r : Option Addr) (cap : Nat) (s : Int) (w : World) :
    Calls Tryd.prog 88 #[.slice r 0 cap, .int .i64 s] w fun e w' => (∃ r' c, e = .returned (.slice r' 0 c)) ∧ Below w.heap.size w w' := by
  obtain ⟨i0, hi, hz0, hz1, hz2⟩ := info_partsB infoM
  have HI := Lib.hid hi
  have HZ0 := Lib.hid hz0
  have HZ1 := Lib.hid hz1
  have HZ2 := Lib.hid hz2
  have HO := Lib.hid (World.ownsRow_nil w w.heap.size 39 7)
  clear hi hz0 hz1 hz2
  cases r with
  | none =>
    go_enter Tryd.func88, Tryd.ntmps88
    go_wp2
    go_loopw [6] (fun v6 wr => v6 = .int .i64 0 ∧ Below w.heap.size w wr) (fun _ _ => 0)
    case atStart => exact ⟨rfl, grow_refl _⟩
    case round =>
      obtain ⟨rfl, hb⟩ := hrel
      have HB := Lib.hid hb
      clear hb
      go_wp2
      go_ret
      exact ⟨⟨_, _, rfl⟩, HB.out⟩
  | some a0 =>
    go_enter Tryd.func88, Tryd.ntmps88
    go_wp2_with (at_builtin; refine wpList_append_own _ rfl _ _ 22 rfl w.heap.size 39 i0 (.agg #[.int .i64 0, .int .i64 0, .int .i64 0, .int .i64 0, .int .i64 0, .int .i64 0, .int .i64 0]) 7 56 Tryd.underlying22 HI.out HZ0.out HZ1.out HZ2.out rfl (by decide) _ _ _ rfl HO.out a0 0 cap [] rfl rfl (fun j u h => by cases h) (fun u h => by cases h) (by unfold maxLen; omega) (by omega) (by simp) ?_)
    intro v' w1 hown hg' _
    have HG := Lib.hid (show Below w.heap.size w w1 from Below.grown (grow_refl w) hg' (Nat.le_refl _) (fun k hk => by simp [Value.ownBlock] at hk))
    have hv : ∃ r' c, v' = .slice r' 0 c := by
      obtain ⟨_, ⟨hv, _⟩ | ⟨g', c', cur, hv, _⟩⟩ := hown
      · exact ⟨_, _, hv⟩
      · exact ⟨_, _, hv⟩
    obtain ⟨r', c, rfl⟩ := hv
    clear hown hg' HO HI HZ0 HZ1 HZ2
    go_wp2
    go_loopw [6] (fun v6 wr => v6 = .int .i64 0 ∧ Below w.heap.size w wr) (fun _ _ => 0)
    case atStart => exact ⟨rfl, HG.out⟩
    case round =>
      clear HG
      obtain ⟨rfl, hb⟩ := hrel
      have HB := Lib.hid hb
      clear hb
      go_wp2
      go_ret
      exact ⟨⟨_, _, rfl⟩, HB.out⟩
set_option maxRecDepth 100000 in
set_option maxHeartbeats 16000000 in
theorem stepOf0 (r : Option Addr) (cap : Nat) (s : Int) (w : World) :
    Calls Tryd.prog 42 #[.slice r 0 cap, .int .i64 s] w fun e w' => (∃ r' c, e = .returned (.tuple #[.slice r' 0 c, .bool true])) ∧ Below w.heap.size w w' := by
  have K := Lib.hid (fun r c x => kicked0 r c s x)
  have s0 := trivial
  go_enter Tryd.func42, Tryd.ntmps42
  go_wp2_with (clear s0; go_at_call 88; (with_reducible refine (K.out _ _ _).mono ?_); rintro e w1 ⟨⟨r1, c1, rfl⟩, hb⟩; have G1 := Lib.hid hb; clear hb)
  go_loopw [7] (fun v7 wr => v7 = .int .i64 0 ∧ Below w.heap.size w wr) (fun _ _ => 0)
  case atStart => exact ⟨rfl, G1.out⟩
  case round =>
    clear G1
    obtain ⟨rfl, hb⟩ := hrel
    have G2 := Lib.hid hb
    clear hb
    go_wp2
    go_loopw [8] (fun v8 wq => v8 = .int .i64 0 ∧ Below w.heap.size w wq) (fun _ _ => 0)
    case atStart => exact ⟨rfl, G2.out⟩
    case round =>
      clear G2
      obtain ⟨rfl, hb⟩ := hrel
      have G3 := Lib.hid hb
      clear hb
      have s1 := trivial
      go_wp2_with (clear s1; go_at_call 88; (with_reducible refine (K.out _ _ _).mono ?_); rintro e w2 ⟨⟨r2, c2, rfl⟩, hb⟩; have G4 := Lib.hid (grow_trans G3.out hb); clear hb)
      go_loopw [10] (fun v10 wq => v10 = .int .i64 0 ∧ Below w.heap.size w wq) (fun _ _ => 0)
      case atStart => exact ⟨rfl, G4.out⟩
      case round =>
        clear G4
        obtain ⟨rfl, hb⟩ := hrel
        have G5 := Lib.hid hb
        clear hb
        go_wp2
        go_ret2
        exact ⟨⟨_, _, rfl⟩, G5.out⟩
end Go.Proofs.YtlfpfeidaohjmaaDoor
