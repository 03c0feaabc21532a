/- The law's helpers: the same bodies; few bodies; a look at one. -/
import Derived.Test.YtlfpfeidaohjmaaDoorBw14
import Derived.Test.YtlfpfeidaohjmaaDoorBeq
set_option linter.unusedSimpArgs false
set_option linter.unusedVariables false
namespace Go.Proofs.YtlfpfeidaohjmaaDoor
open Go.RowKit Go.Grow Go.Bo

set_option maxRecDepth 100000 in
set_option maxHeartbeats 16000000 in
theorem same_walk (ra rb : Option Addr) (n ca cb : Nat) (B : Nat → Bd) (w : World) (hn : n ≤ 1000000) (ha : BodsAt w ra n B) (hb : BodsAt w rb n B) :
    Calls Tryd.prog 18 #[.slice ra n ca, .slice rb n cb] w fun e w' => e = .returned (.bool true) ∧ Below w.heap.size w w' := by
  have HA := Lib.hid ha
  have HB := Lib.hid hb
  clear ha hb
  go_enter Tryd.func18, Tryd.ntmps18
  go_wp2
  go_loopw [5] (fun v5 wr => ∃ k : Nat, k ≤ n ∧ v5 = .int .i64 k ∧ Below w.heap.size w wr) (fun i _ => n - (intOf i).toNat)
  case atStart => exact ⟨0, Nat.zero_le _, rfl, Below.refl _ _⟩
  case round =>
    obtain ⟨k, hk, rfl, hg⟩ := hrel
    have HG := Lib.hid hg
    clear hg
    by_cases hlt : k < n
    · obtain ⟨b1, o1, rfl, hl1, hc1⟩ := HA.out.resolve_left (by omega)
      obtain ⟨b2, o2, rfl, hl2, hc2⟩ := HB.out.resolve_left (by omega)
      obtain ⟨c0, c1, c2, c3, c4, c5, c6⟩ := (hc1 k hlt).below HG.out hl1
      obtain ⟨d0, d1, d2, d3, d4, d5, d6⟩ := (hc2 k hlt).below HG.out hl2
      clear hc1 hc2
      generalize B k = d at *
      obtain ⟨⟨x, y, z⟩, ⟨u, v, q⟩, m⟩ := d
      simp only at c0 c1 c2 c3 c4 c5 c6 d0 d1 d2 d3 d4 d5 d6
      go_wp2
      go_quiet (fail)
      go_wp2
      go_roundw
      case rel => exact ⟨k + 1, by omega, by go_num, HG.out.trans ⟨rfl, rfl, rfl, Nat.le_refl _, fun _ _ => rfl⟩⟩
      case measure => simp [intOf]; omega
    · obtain rfl : k = n := by omega
      go_wp2
      go_ret
      exact ⟨rfl, HG.out⟩

def shortB (n : Nat) (k : Int) : Prop := n ≤ 14 ∧ ((k ≤ 120 ∧ -120 ≤ k) ∨ 2000 < k ∨ k < -2000)
set_option maxRecDepth 100000 in
set_option maxHeartbeats 16000000 in
theorem short_yes (r : Option Addr) (n cap : Nat) (k : Int) (w : World) (h : shortB n k) :
    Calls Tryd.prog 15 #[.slice r n cap, .int .i64 k] w fun e w' => e = .returned (.bool true) ∧ w = w' := by
  obtain ⟨h1, h2⟩ := h
  by_cases h3 : k ≤ 120 <;> by_cases h4 : -120 ≤ k <;> by_cases h5 : 2000 < k <;> by_cases h6 : k < -2000
  all_goals first | (exfalso; omega) | skip
  all_goals
    clear h2
    go_enter Tryd.func15, Tryd.ntmps15
    go_wp2
    go_ret
    exact ⟨by simp [*], rfl⟩
set_option maxRecDepth 100000 in
set_option maxHeartbeats 16000000 in
theorem short_no (r : Option Addr) (n cap : Nat) (k : Int) (w : World) (h : ¬ shortB n k) :
    Calls Tryd.prog 15 #[.slice r n cap, .int .i64 k] w fun e w' => e = .returned (.bool false) ∧ w = w' := by
  by_cases h1 : n ≤ 14
  · have h2 : ¬ ((k ≤ 120 ∧ -120 ≤ k) ∨ 2000 < k ∨ k < -2000) := fun h2 => h ⟨h1, h2⟩
    by_cases h3 : k ≤ 120
    all_goals
      clear h
      go_enter Tryd.func15, Tryd.ntmps15
      go_wp2
      go_ret
      exact ⟨by simp <;> omega, rfl⟩
  · clear h
    go_enter Tryd.func15, Tryd.ntmps15
    go_wp2
    go_ret
    exact ⟨by simp <;> omega, rfl⟩

/-! One body, without others. -/
theorem kick_one (s : Int) (B : Nat → Bd) : kick 1 s B 0 = B 0 := by
  refine Bd.ext rfl ?_ rfl
  show kv s B 0 1 = _
  rw [kv_self, kv_zero]
theorem step_one (B : Nat → Bd) (x : Int) (hx : 0 ≤ x ∧ x ≤ 10) (h : B 0 = ⟨⟨x, 0, 0⟩, ⟨3, 0, 0⟩, 0⟩) : ∃ E, Bo.step 1 1 B = some E ∧ E 0 = ⟨⟨x + 3, 0, 0⟩, ⟨3, 0, 0⟩, 0⟩ := by
  have hd : drift 1 (kick 1 1 B) 0 = ⟨⟨x + 3, 0, 0⟩, ⟨3, 0, 0⟩, 0⟩ := by
    unfold drift
    rw [kick_one, h]
    simp [C3.more]
  have he : kick 1 1 (drift 1 (kick 1 1 B)) 0 = ⟨⟨x + 3, 0, 0⟩, ⟨3, 0, 0⟩, 0⟩ := by rw [kick_one, hd]
  refine ⟨kick 1 1 (drift 1 (kick 1 1 B)), ?_, he⟩
  unfold Bo.step
  rw [if_pos (show okP 1 _ from fun i hi => by
    obtain rfl : i = 0 := by omega
    rw [hd]; unfold C3.le; simp only; omega), if_pos (show okV 1 _ from fun i hi => by
    obtain rfl : i = 0 := by omega
    rw [he]; unfold C3.le; simp only; omega)]
def B0 : Nat → Bd := fun _ => ⟨⟨0, 0, 0⟩, ⟨3, 0, 0⟩, 0⟩
theorem run_B0 : ∃ E, runZ 1 2 B0 = some E ∧ E 0 = ⟨⟨6, 0, 0⟩, ⟨3, 0, 0⟩, 0⟩ := by
  obtain ⟨E, h1, h2⟩ := step_one B0 0 (by omega) rfl
  obtain ⟨F, h3, h4⟩ := step_one E 3 (by omega) h2
  refine ⟨F, ?_, h4⟩
  show ((some B0).bind (Bo.step 1 1)).bind (Bo.step 1 1) = some F
  rw [Option.bind_some, h1, Option.bind_some, h3]
theorem valid_B0 : validE 1 B0 = 0 := validE_ok.2 ⟨by omega, fun i _ => by unfold B0 C3.le; simp only; omega, fun i _ => by unfold B0 C3.le; simp only; omega, fun i _ => by unfold B0; simp only; omega⟩

def RunSome (w : World) (n : Nat) (E : Nat → Bd) (e : Ending) (w' : World) : Prop :=
  ∃ r c, e = .returned (.tuple #[.slice r n c, .nilIface]) ∧ (r = none → c = 0) ∧ BodsAt w' r n E ∧ Below w.heap.size w w'
theorem run_some (a : Nat → Addr) (r : Option Addr) (n cap : Nat) (k : Int) (B E : Nat → Bd) (w : World) (hn : n ≤ 9223372036854775807) (hr : BodsAt w r n B) (hcap : r = none → cap = 0) (hs : Sen a [2, 5, 6] w) (h0 : validE n B = 0) (hk : -2000 ≤ k ∧ k ≤ 2000) (hE : runZ n k B = some E) :
    Calls Tryd.prog 16 #[.slice r n cap, .int .i64 k] w (RunSome w n E) :=
  (run_all a r n cap k B w hn hr hcap hs h0 hk).mono fun e w' ⟨hb, h⟩ => by
    rcases h with ⟨F, r', c, h1, h2, h3, h4⟩ | ⟨h1, _⟩
    · rw [hE] at h1; cases h1; exact ⟨r', c, h2, h4, h3, hb⟩
    · rw [hE] at h1; cases h1
theorem run_none (a : Nat → Addr) (r : Option Addr) (n cap : Nat) (k : Int) (B : Nat → Bd) (w : World) (hn : n ≤ 9223372036854775807) (hr : BodsAt w r n B) (hcap : r = none → cap = 0) (hs : Sen a [2, 5, 6] w) (h0 : validE n B = 0) (hk : -2000 ≤ k ∧ k ≤ 2000) (hE : runZ n k B = none) :
    Calls Tryd.prog 16 #[.slice r n cap, .int .i64 k] w (RunOut a w 6) :=
  (run_all a r n cap k B w hn hr hcap hs h0 hk).mono fun e w' ⟨hb, h⟩ => by
    rcases h with ⟨F, r', c, h1, _⟩ | ⟨_, h2⟩
    · rw [hE] at h1; cases h1
    · exact ⟨h2, hb⟩

set_option maxRecDepth 100000 in
set_option maxHeartbeats 16000000 in
theorem moves_walk (a : Nat → Addr) (w : World) (hs : Sen a [2, 5, 6] w) :
    Calls Tryd.prog 14 #[] w fun e w' => e = .returned (.bool true) ∧ Below w.heap.size w w' := by
  obtain ⟨E, hE, h6⟩ := run_B0
  have R := Lib.hid (fun x (hx : Below w.heap.size w x) (hb : BodsAt x (some ⟨w.heap.size, 0, none⟩) 1 B0) => run_some a (some ⟨w.heap.size, 0, none⟩) 1 1 2 B0 E x (by omega) hb (fun h => by cases h) (hs.below hx) valid_B0 (by omega) hE)
  have H6 := Lib.hid h6
  clear hs hE h6
  have BA := Lib.hid (show BodsAt (w.alloc (.cells #[.int .i64 0, .int .i64 0, .int .i64 0, .int .i64 3, .int .i64 0, .int .i64 0, .int .i64 0] 35)) (some ⟨w.heap.size, 0, none⟩) 1 B0 from
    .inr ⟨w.heap.size, 0, rfl, by simp, fun k hk => by
      obtain rfl : k = 0 := by omega
      have h : ∀ i (u : Value), #[Value.int .i64 0, .int .i64 0, .int .i64 0, .int .i64 3, .int .i64 0, .int .i64 0, .int .i64 0][i]? = some u → (w.alloc (.cells #[.int .i64 0, .int .i64 0, .int .i64 0, .int .i64 3, .int .i64 0, .int .i64 0, .int .i64 0] 35)).cell? ⟨w.heap.size, i, none⟩ = some u := fun i u hu => by
        rw [cell?_cells, if_pos rfl]; exact hu
      exact ⟨h 0 _ rfl, h 1 _ rfl, h 2 _ rfl, h 3 _ rfl, h 4 _ rfl, h 5 _ rfl, h 6 _ rfl⟩⟩)
  go_enter Tryd.func14, Tryd.ntmps14
  go_wp2_with (go_at_call 16; (with_reducible refine (R.out _ (grow_alloc (grow_refl w) _) BA.out).mono ?_); rintro e w1 ⟨r1, c1, rfl, _, hbo, hb⟩; have HB := Lib.hid (grow_trans (grow_alloc (grow_refl w) _) hb); obtain ⟨b1, o1, rfl, hl1, hc1⟩ := hbo.resolve_left (by omega); have hc := (hc1 0 (by omega)).c0; rw [H6.out, Nat.zero_mul, Nat.add_zero] at hc; clear hbo hc1 hb)
  go_ret
  exact ⟨by first | rfl | simp, HB.out⟩
end Go.Proofs.YtlfpfeidaohjmaaDoor
