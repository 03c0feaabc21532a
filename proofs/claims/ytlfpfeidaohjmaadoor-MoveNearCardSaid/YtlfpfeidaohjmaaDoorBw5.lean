/- Bodies in memory; tests of all bodies. -/
import Derived.Test.YtlfpfeidaohjmaaDoorBw4
import Derived.LoopTactic
import Derived.Deep.LoopGhost
import Derived.Outline
set_option linter.unusedSimpArgs false
set_option linter.unusedVariables false
namespace Go.Proofs.YtlfpfeidaohjmaaDoor
open Go.RowKit Go.Grow Go.Bo

/-- A body lies at o. -/
structure BodyAt (w : World) (b o : Nat) (d : Bd) : Prop where
  c0 : w.cell? ⟨b, o, none⟩ = some (.int .i64 d.p.x)
  c1 : w.cell? ⟨b, o + 1, none⟩ = some (.int .i64 d.p.y)
  c2 : w.cell? ⟨b, o + 2, none⟩ = some (.int .i64 d.p.z)
  c3 : w.cell? ⟨b, o + 3, none⟩ = some (.int .i64 d.v.x)
  c4 : w.cell? ⟨b, o + 3 + 1, none⟩ = some (.int .i64 d.v.y)
  c5 : w.cell? ⟨b, o + 3 + 2, none⟩ = some (.int .i64 d.v.z)
  c6 : w.cell? ⟨b, o + 6, none⟩ = some (.int .i64 d.m)
def BodsAt (w : World) (r : Option Addr) (n : Nat) (B : Nat → Bd) : Prop := n = 0 ∨ ∃ b o, r = some ⟨b, o, none⟩ ∧ b < w.heap.size ∧ ∀ k, k < n → BodyAt w b (o + k * 7) (B k)
theorem BodyAt.below {w w' : World} {b o n : Nat} {d : Bd} (h : BodyAt w b o d) (hb : Below n w w') (hl : b < n) : BodyAt w' b o d := by
  have e : ∀ i, w'.cell? ⟨b, i, none⟩ = w.cell? ⟨b, i, none⟩ := fun i => hb.cell (p := ⟨b, i, none⟩) hl
  exact ⟨(e _).trans h.c0, (e _).trans h.c1, (e _).trans h.c2, (e _).trans h.c3, (e _).trans h.c4, (e _).trans h.c5, (e _).trans h.c6⟩
theorem BodsAt.below {w w' : World} {r : Option Addr} {n : Nat} {B : Nat → Bd} (h : BodsAt w r n B) (hb : Below w.heap.size w w') : BodsAt w' r n B := by
  rcases h with h | ⟨b, o, rfl, hl, h⟩
  · exact .inl h
  · exact .inr ⟨b, o, rfl, Nat.lt_of_lt_of_le hl hb.size, fun k hk => (h k hk).below hb hl⟩
def body (d : Bd) : Value := .agg #[.int .i64 d.p.x, .int .i64 d.p.y, .int .i64 d.p.z, .int .i64 d.v.x, .int .i64 d.v.y, .int .i64 d.v.z, .int .i64 d.m]
theorem in_walk (c : C3) (m : Int) (hm : 0 ≤ m) (hm' : m ≤ 4611686018427387904) (w : World) :
    Calls Tryd.prog 118 #[vec c, .int .i64 m] w fun e w' => e = .returned (.bool (c.inB m)) ∧ Below w.heap.size w w' := within_walk c.x c.y c.z m hm hm' w
theorem bin_walk (c : C3) (m : Int) (hm : 0 ≤ m) (hm' : m ≤ 4611686018427387904) (w : World) :
    Calls Tryd.prog 80 #[vec c, .int .i64 m] w fun e w' => e = .returned (.bool (c.inB m)) ∧ Below w.heap.size w w' := inside_walk c.x c.y c.z m hm hm' w

/-- Is a body beyond its bounds? -/
def outB (d : Bd) : Bool := !d.p.inB 1048576 || !d.v.inB 1048576
def massB (d : Bd) : Bool := decide (d.m < 0) || decide (65536 < d.m)
def fastB (d : Bd) : Bool := !d.v.inB 1125899906842624
def farB (d : Bd) : Bool := !d.p.inB 1048576
set_option maxRecDepth 100000 in
set_option maxHeartbeats 4000000 in
theorem free1_walk (d : Bd) (w : World) :
    Calls Tryd.prog 124 #[body d] w fun e w' => e = .returned (.bool (outB d)) ∧ Below w.heap.size w w' := by
  have P := Lib.hid (fun x => in_walk d.p 1048576 (by omega) (by omega) x)
  have V := Lib.hid (fun x => in_walk d.v 1048576 (by omega) (by omega) x)
  unfold vec at P V
  unfold body outB
  obtain ⟨⟨x, y, z⟩, ⟨u, v, q⟩, m⟩ := d
  simp only at P V ⊢
  generalize C3.inB ⟨x, y, z⟩ 1048576 = p1 at *
  generalize C3.inB ⟨u, v, q⟩ 1048576 = p2 at *
  have g : Hid (Below w.heap.size w w) := Lib.hid (Below.refl _ _)
  cases p1
  all_goals
    go_enter Tryd.func124, Tryd.ntmps124
    go_wp2_with (first
      | (go_at_call 118; (with_reducible refine (P.out _).mono ?_); rintro e w1 ⟨rfl, hb⟩; have g' : Hid (Below w.heap.size w w1) := Lib.hid (grow_trans (grow_alloc g.out _) hb); obtain ⟨hc1, hf1, hz1⟩ := facts hb; clear hb g; have g := g'; clear g'; (try simp only [World.size_alloc] at hc1 hf1 hz1))
      | (go_at_call 118; (with_reducible refine (V.out _).mono ?_); rintro e w2 ⟨rfl, hb⟩; have g' : Hid (Below w.heap.size w w2) := Lib.hid (grow_trans g.out hb); obtain ⟨hc2, hf2, hz2⟩ := facts hb; clear hb g; have g := g'; clear g'; (try simp only [World.size_alloc] at hc2 hf2 hz2)))
    go_ret
    exact ⟨rfl, g.out⟩
set_option maxRecDepth 100000 in
set_option maxHeartbeats 4000000 in
theorem valid1_walk (d : Bd) (w : World) :
    Calls Tryd.prog 78 #[body d] w fun e w' => e = .returned (.bool (massB d)) ∧ Below w.heap.size w w' := by
  unfold body massB
  obtain ⟨⟨x, y, z⟩, ⟨u, v, q⟩, m⟩ := d
  simp only
  by_cases h : m < 0
  · go_enter Tryd.func78, Tryd.ntmps78
    go_wp2
    go_ret
    exact ⟨by simp [h] <;> omega, grow_alloc (grow_refl _) _⟩
  · go_enter Tryd.func78, Tryd.ntmps78
    go_wp2
    go_ret
    exact ⟨by simp [h] <;> omega, grow_alloc (grow_refl _) _⟩
set_option maxRecDepth 100000 in
set_option maxHeartbeats 4000000 in
theorem step1_walk (d : Bd) (w : World) :
    Calls Tryd.prog 117 #[body d] w fun e w' => e = .returned (.bool (fastB d)) ∧ Below w.heap.size w w' := by
  have P := Lib.hid (fun x => in_walk d.v 1125899906842624 (by omega) (by omega) x)
  unfold vec at P
  unfold body fastB
  obtain ⟨⟨x, y, z⟩, ⟨u, v, q⟩, m⟩ := d
  simp only at P ⊢
  have g : Hid (Below w.heap.size w w) := Lib.hid (Below.refl _ _)
  go_enter Tryd.func117, Tryd.ntmps117
  go_wp2_with (go_at_call 118; (with_reducible refine (P.out _).mono ?_); rintro e w1 ⟨rfl, hb⟩; have g' : Hid (Below w.heap.size w w1) := Lib.hid (grow_trans (grow_alloc g.out _) hb); obtain ⟨hc1, hf1, hz1⟩ := facts hb; clear hb g; have g := g'; clear g'; (try simp only [World.size_alloc] at hc1 hf1 hz1))
  go_ret
  exact ⟨rfl, g.out⟩
set_option maxRecDepth 100000 in
set_option maxHeartbeats 4000000 in
theorem step2_walk (d : Bd) (w : World) :
    Calls Tryd.prog 120 #[body d] w fun e w' => e = .returned (.bool (farB d)) ∧ Below w.heap.size w w' := by
  have P := Lib.hid (fun x => in_walk d.p 1048576 (by omega) (by omega) x)
  unfold vec at P
  unfold body farB
  obtain ⟨⟨x, y, z⟩, ⟨u, v, q⟩, m⟩ := d
  simp only at P ⊢
  have g : Hid (Below w.heap.size w w) := Lib.hid (Below.refl _ _)
  go_enter Tryd.func120, Tryd.ntmps120
  go_wp2_with (go_at_call 118; (with_reducible refine (P.out _).mono ?_); rintro e w1 ⟨rfl, hb⟩; have g' : Hid (Below w.heap.size w w1) := Lib.hid (grow_trans (grow_alloc g.out _) hb); obtain ⟨hc1, hf1, hz1⟩ := facts hb; clear hb g; have g := g'; clear g'; (try simp only [World.size_alloc] at hc1 hf1 hz1))
  go_ret
  exact ⟨rfl, g.out⟩

def IdxPost (w : World) (n : Nat) (B : Nat → Bd) (p : Bd → Bool) (e : Ending) (w' : World) : Prop :=
  (∃ i : Int, e = .returned (.int .i64 i) ∧ -1 ≤ i ∧ i ≤ n ∧ (0 ≤ i ↔ ∃ k, k < n ∧ p (B k) = true)) ∧ Below w.heap.size w w'
open Classical in
/-- Some body is as the test says. -/
noncomputable def anyB (n : Nat) (B : Nat → Bd) (p : Bd → Bool) : Bool := decide (∃ k, k < n ∧ p (B k) = true)
set_option maxRecDepth 100000 in
set_option maxHeartbeats 4000000 in
theorem idx_free1 (r : Option Addr) (n cap : Nat) (B : Nat → Bd) (w : World) (hn : n ≤ 1000000) (hr : BodsAt w r n B) :
    Calls Tryd.prog 123 #[.slice r n cap, .func (.func 124) #[] #[]] w (IdxPost w n B outB) := by
  have HR := Lib.hid hr
  clear hr
  go_enter Tryd.func123, Tryd.ntmps123
  go_wp2
  go_loopw [8] (fun v8 wr => ∃ k : Nat, k ≤ n ∧ v8 = .int .i64 k ∧ (∀ j, j < k → outB (B j) = false) ∧ Below w.heap.size w wr) (fun i _ => n - (intOf i).toNat)
  case atStart => exact ⟨0, Nat.zero_le _, rfl, fun j h => absurd h (by omega), Below.refl _ _⟩
  case round =>
    obtain ⟨k, hk, rfl, hno, hb⟩ := hrel
    have HNO := Lib.hid hno
    have HB := Lib.hid hb
    clear hno hb
    by_cases hlt : k < n
    · obtain ⟨b1, o1, rfl, hl1, hc⟩ := HR.out.resolve_left (by omega)
      obtain ⟨c0, c1, c2, c3, c4, c5, c6⟩ := (hc k hlt).below HB.out hl1
      clear hc
      have HP := Lib.hid (fun x => free1_walk (B k) x)
      cases hpk : outB (B k) with
      | true =>
        have HPK := Lib.hid hpk
        rw [hpk] at HP
        clear hpk
        unfold body at HP
        generalize B k = d at c0 c1 c2 c3 c4 c5 c6 HP
        obtain ⟨⟨x, y, z⟩, ⟨u, v, q⟩, m⟩ := d
        simp only at c0 c1 c2 c3 c4 c5 c6 HP
        go_wp2_with (go_at_call 124; (with_reducible refine (HP.out _).mono ?_); rintro e w1 ⟨rfl, hb1⟩; have HB1 := Lib.hid (HB.out.trans (hb1.mono HB.out.size)); clear hb1)
        go_ret
        exact ⟨⟨_, rfl, by omega, by omega, ⟨fun _ => ⟨k, hlt, HPK.out⟩, fun _ => by omega⟩⟩, HB1.out⟩
      | false =>
        have HPK := Lib.hid hpk
        rw [hpk] at HP
        clear hpk
        unfold body at HP
        generalize B k = d at c0 c1 c2 c3 c4 c5 c6 HP
        obtain ⟨⟨x, y, z⟩, ⟨u, v, q⟩, m⟩ := d
        simp only at c0 c1 c2 c3 c4 c5 c6 HP
        go_wp2_with (go_at_call 124; (with_reducible refine (HP.out _).mono ?_); rintro e w1 ⟨rfl, hb1⟩; have HB1 := Lib.hid (HB.out.trans (hb1.mono HB.out.size)); clear hb1)
        go_roundw
        case rel =>
          refine ⟨k + 1, by omega, by go_num, fun j hj => ?_, HB1.out⟩
          rcases Nat.lt_or_ge j k with h | h
          · exact HNO.out j h
          · obtain rfl : j = k := by omega
            exact HPK.out
        case measure => simp [intOf]; omega
    · obtain rfl : k = n := by omega
      go_wp2
      go_ret
      exact ⟨⟨-1, rfl, by omega, by omega, ⟨fun h => absurd h (by omega), fun ⟨j, hj, h⟩ => by rw [HNO.out j hj] at h; cases h⟩⟩, HB.out⟩
set_option maxRecDepth 100000 in
set_option maxHeartbeats 4000000 in
theorem has_free1 (r : Option Addr) (n cap : Nat) (B : Nat → Bd) (w : World) (hn : n ≤ 1000000) (hr : BodsAt w r n B) :
    Calls Tryd.prog 77 #[.slice r n cap, .func (.func 124) #[] #[]] w fun e w' => e = .returned (.bool (anyB n B outB)) ∧ Below w.heap.size w w' := by
  have HI := Lib.hid (idx_free1 r n cap B w hn hr)
  clear hr
  go_enter Tryd.func77, Tryd.ntmps77
  go_wp2_with (go_at_call 123; (with_reducible refine HI.out.mono ?_); rintro e w1 ⟨⟨i, rfl, hi1, hi2, hi⟩, hb1⟩; have HB1 := Lib.hid hb1; have HII := Lib.hid hi; clear hb1 hi)
  go_ret
  refine ⟨?_, HB1.out⟩
  unfold anyB
  by_cases h : 0 ≤ i
  · rw [decide_eq_true h, decide_eq_true (HII.out.1 h)]; rfl
  · rw [decide_eq_false h, decide_eq_false (fun h2 => h (HII.out.2 h2))]; rfl
set_option maxRecDepth 100000 in
set_option maxHeartbeats 4000000 in
theorem idx_valid1 (r : Option Addr) (n cap : Nat) (B : Nat → Bd) (w : World) (hn : n ≤ 1000000) (hr : BodsAt w r n B) :
    Calls Tryd.prog 123 #[.slice r n cap, .func (.func 78) #[] #[]] w (IdxPost w n B massB) := by
  have HR := Lib.hid hr
  clear hr
  go_enter Tryd.func123, Tryd.ntmps123
  go_wp2
  go_loopw [8] (fun v8 wr => ∃ k : Nat, k ≤ n ∧ v8 = .int .i64 k ∧ (∀ j, j < k → massB (B j) = false) ∧ Below w.heap.size w wr) (fun i _ => n - (intOf i).toNat)
  case atStart => exact ⟨0, Nat.zero_le _, rfl, fun j h => absurd h (by omega), Below.refl _ _⟩
  case round =>
    obtain ⟨k, hk, rfl, hno, hb⟩ := hrel
    have HNO := Lib.hid hno
    have HB := Lib.hid hb
    clear hno hb
    by_cases hlt : k < n
    · obtain ⟨b1, o1, rfl, hl1, hc⟩ := HR.out.resolve_left (by omega)
      obtain ⟨c0, c1, c2, c3, c4, c5, c6⟩ := (hc k hlt).below HB.out hl1
      clear hc
      have HP := Lib.hid (fun x => valid1_walk (B k) x)
      cases hpk : massB (B k) with
      | true =>
        have HPK := Lib.hid hpk
        rw [hpk] at HP
        clear hpk
        unfold body at HP
        generalize B k = d at c0 c1 c2 c3 c4 c5 c6 HP
        obtain ⟨⟨x, y, z⟩, ⟨u, v, q⟩, m⟩ := d
        simp only at c0 c1 c2 c3 c4 c5 c6 HP
        go_wp2_with (go_at_call 78; (with_reducible refine (HP.out _).mono ?_); rintro e w1 ⟨rfl, hb1⟩; have HB1 := Lib.hid (HB.out.trans (hb1.mono HB.out.size)); clear hb1)
        go_ret
        exact ⟨⟨_, rfl, by omega, by omega, ⟨fun _ => ⟨k, hlt, HPK.out⟩, fun _ => by omega⟩⟩, HB1.out⟩
      | false =>
        have HPK := Lib.hid hpk
        rw [hpk] at HP
        clear hpk
        unfold body at HP
        generalize B k = d at c0 c1 c2 c3 c4 c5 c6 HP
        obtain ⟨⟨x, y, z⟩, ⟨u, v, q⟩, m⟩ := d
        simp only at c0 c1 c2 c3 c4 c5 c6 HP
        go_wp2_with (go_at_call 78; (with_reducible refine (HP.out _).mono ?_); rintro e w1 ⟨rfl, hb1⟩; have HB1 := Lib.hid (HB.out.trans (hb1.mono HB.out.size)); clear hb1)
        go_roundw
        case rel =>
          refine ⟨k + 1, by omega, by go_num, fun j hj => ?_, HB1.out⟩
          rcases Nat.lt_or_ge j k with h | h
          · exact HNO.out j h
          · obtain rfl : j = k := by omega
            exact HPK.out
        case measure => simp [intOf]; omega
    · obtain rfl : k = n := by omega
      go_wp2
      go_ret
      exact ⟨⟨-1, rfl, by omega, by omega, ⟨fun h => absurd h (by omega), fun ⟨j, hj, h⟩ => by rw [HNO.out j hj] at h; cases h⟩⟩, HB.out⟩
set_option maxRecDepth 100000 in
set_option maxHeartbeats 4000000 in
theorem has_valid1 (r : Option Addr) (n cap : Nat) (B : Nat → Bd) (w : World) (hn : n ≤ 1000000) (hr : BodsAt w r n B) :
    Calls Tryd.prog 77 #[.slice r n cap, .func (.func 78) #[] #[]] w fun e w' => e = .returned (.bool (anyB n B massB)) ∧ Below w.heap.size w w' := by
  have HI := Lib.hid (idx_valid1 r n cap B w hn hr)
  clear hr
  go_enter Tryd.func77, Tryd.ntmps77
  go_wp2_with (go_at_call 123; (with_reducible refine HI.out.mono ?_); rintro e w1 ⟨⟨i, rfl, hi1, hi2, hi⟩, hb1⟩; have HB1 := Lib.hid hb1; have HII := Lib.hid hi; clear hb1 hi)
  go_ret
  refine ⟨?_, HB1.out⟩
  unfold anyB
  by_cases h : 0 ≤ i
  · rw [decide_eq_true h, decide_eq_true (HII.out.1 h)]; rfl
  · rw [decide_eq_false h, decide_eq_false (fun h2 => h (HII.out.2 h2))]; rfl
set_option maxRecDepth 100000 in
set_option maxHeartbeats 4000000 in
theorem idx_step1 (r : Option Addr) (n cap : Nat) (B : Nat → Bd) (w : World) (hn : n ≤ 1000000) (hr : BodsAt w r n B) :
    Calls Tryd.prog 123 #[.slice r n cap, .func (.func 117) #[] #[]] w (IdxPost w n B fastB) := by
  have HR := Lib.hid hr
  clear hr
  go_enter Tryd.func123, Tryd.ntmps123
  go_wp2
  go_loopw [8] (fun v8 wr => ∃ k : Nat, k ≤ n ∧ v8 = .int .i64 k ∧ (∀ j, j < k → fastB (B j) = false) ∧ Below w.heap.size w wr) (fun i _ => n - (intOf i).toNat)
  case atStart => exact ⟨0, Nat.zero_le _, rfl, fun j h => absurd h (by omega), Below.refl _ _⟩
  case round =>
    obtain ⟨k, hk, rfl, hno, hb⟩ := hrel
    have HNO := Lib.hid hno
    have HB := Lib.hid hb
    clear hno hb
    by_cases hlt : k < n
    · obtain ⟨b1, o1, rfl, hl1, hc⟩ := HR.out.resolve_left (by omega)
      obtain ⟨c0, c1, c2, c3, c4, c5, c6⟩ := (hc k hlt).below HB.out hl1
      clear hc
      have HP := Lib.hid (fun x => step1_walk (B k) x)
      cases hpk : fastB (B k) with
      | true =>
        have HPK := Lib.hid hpk
        rw [hpk] at HP
        clear hpk
        unfold body at HP
        generalize B k = d at c0 c1 c2 c3 c4 c5 c6 HP
        obtain ⟨⟨x, y, z⟩, ⟨u, v, q⟩, m⟩ := d
        simp only at c0 c1 c2 c3 c4 c5 c6 HP
        go_wp2_with (go_at_call 117; (with_reducible refine (HP.out _).mono ?_); rintro e w1 ⟨rfl, hb1⟩; have HB1 := Lib.hid (HB.out.trans (hb1.mono HB.out.size)); clear hb1)
        go_ret
        exact ⟨⟨_, rfl, by omega, by omega, ⟨fun _ => ⟨k, hlt, HPK.out⟩, fun _ => by omega⟩⟩, HB1.out⟩
      | false =>
        have HPK := Lib.hid hpk
        rw [hpk] at HP
        clear hpk
        unfold body at HP
        generalize B k = d at c0 c1 c2 c3 c4 c5 c6 HP
        obtain ⟨⟨x, y, z⟩, ⟨u, v, q⟩, m⟩ := d
        simp only at c0 c1 c2 c3 c4 c5 c6 HP
        go_wp2_with (go_at_call 117; (with_reducible refine (HP.out _).mono ?_); rintro e w1 ⟨rfl, hb1⟩; have HB1 := Lib.hid (HB.out.trans (hb1.mono HB.out.size)); clear hb1)
        go_roundw
        case rel =>
          refine ⟨k + 1, by omega, by go_num, fun j hj => ?_, HB1.out⟩
          rcases Nat.lt_or_ge j k with h | h
          · exact HNO.out j h
          · obtain rfl : j = k := by omega
            exact HPK.out
        case measure => simp [intOf]; omega
    · obtain rfl : k = n := by omega
      go_wp2
      go_ret
      exact ⟨⟨-1, rfl, by omega, by omega, ⟨fun h => absurd h (by omega), fun ⟨j, hj, h⟩ => by rw [HNO.out j hj] at h; cases h⟩⟩, HB.out⟩
set_option maxRecDepth 100000 in
set_option maxHeartbeats 4000000 in
theorem has_step1 (r : Option Addr) (n cap : Nat) (B : Nat → Bd) (w : World) (hn : n ≤ 1000000) (hr : BodsAt w r n B) :
    Calls Tryd.prog 77 #[.slice r n cap, .func (.func 117) #[] #[]] w fun e w' => e = .returned (.bool (anyB n B fastB)) ∧ Below w.heap.size w w' := by
  have HI := Lib.hid (idx_step1 r n cap B w hn hr)
  clear hr
  go_enter Tryd.func77, Tryd.ntmps77
  go_wp2_with (go_at_call 123; (with_reducible refine HI.out.mono ?_); rintro e w1 ⟨⟨i, rfl, hi1, hi2, hi⟩, hb1⟩; have HB1 := Lib.hid hb1; have HII := Lib.hid hi; clear hb1 hi)
  go_ret
  refine ⟨?_, HB1.out⟩
  unfold anyB
  by_cases h : 0 ≤ i
  · rw [decide_eq_true h, decide_eq_true (HII.out.1 h)]; rfl
  · rw [decide_eq_false h, decide_eq_false (fun h2 => h (HII.out.2 h2))]; rfl
set_option maxRecDepth 100000 in
set_option maxHeartbeats 4000000 in
theorem idx_step2 (r : Option Addr) (n cap : Nat) (B : Nat → Bd) (w : World) (hn : n ≤ 1000000) (hr : BodsAt w r n B) :
    Calls Tryd.prog 123 #[.slice r n cap, .func (.func 120) #[] #[]] w (IdxPost w n B farB) := by
  have HR := Lib.hid hr
  clear hr
  go_enter Tryd.func123, Tryd.ntmps123
  go_wp2
  go_loopw [8] (fun v8 wr => ∃ k : Nat, k ≤ n ∧ v8 = .int .i64 k ∧ (∀ j, j < k → farB (B j) = false) ∧ Below w.heap.size w wr) (fun i _ => n - (intOf i).toNat)
  case atStart => exact ⟨0, Nat.zero_le _, rfl, fun j h => absurd h (by omega), Below.refl _ _⟩
  case round =>
    obtain ⟨k, hk, rfl, hno, hb⟩ := hrel
    have HNO := Lib.hid hno
    have HB := Lib.hid hb
    clear hno hb
    by_cases hlt : k < n
    · obtain ⟨b1, o1, rfl, hl1, hc⟩ := HR.out.resolve_left (by omega)
      obtain ⟨c0, c1, c2, c3, c4, c5, c6⟩ := (hc k hlt).below HB.out hl1
      clear hc
      have HP := Lib.hid (fun x => step2_walk (B k) x)
      cases hpk : farB (B k) with
      | true =>
        have HPK := Lib.hid hpk
        rw [hpk] at HP
        clear hpk
        unfold body at HP
        generalize B k = d at c0 c1 c2 c3 c4 c5 c6 HP
        obtain ⟨⟨x, y, z⟩, ⟨u, v, q⟩, m⟩ := d
        simp only at c0 c1 c2 c3 c4 c5 c6 HP
        go_wp2_with (go_at_call 120; (with_reducible refine (HP.out _).mono ?_); rintro e w1 ⟨rfl, hb1⟩; have HB1 := Lib.hid (HB.out.trans (hb1.mono HB.out.size)); clear hb1)
        go_ret
        exact ⟨⟨_, rfl, by omega, by omega, ⟨fun _ => ⟨k, hlt, HPK.out⟩, fun _ => by omega⟩⟩, HB1.out⟩
      | false =>
        have HPK := Lib.hid hpk
        rw [hpk] at HP
        clear hpk
        unfold body at HP
        generalize B k = d at c0 c1 c2 c3 c4 c5 c6 HP
        obtain ⟨⟨x, y, z⟩, ⟨u, v, q⟩, m⟩ := d
        simp only at c0 c1 c2 c3 c4 c5 c6 HP
        go_wp2_with (go_at_call 120; (with_reducible refine (HP.out _).mono ?_); rintro e w1 ⟨rfl, hb1⟩; have HB1 := Lib.hid (HB.out.trans (hb1.mono HB.out.size)); clear hb1)
        go_roundw
        case rel =>
          refine ⟨k + 1, by omega, by go_num, fun j hj => ?_, HB1.out⟩
          rcases Nat.lt_or_ge j k with h | h
          · exact HNO.out j h
          · obtain rfl : j = k := by omega
            exact HPK.out
        case measure => simp [intOf]; omega
    · obtain rfl : k = n := by omega
      go_wp2
      go_ret
      exact ⟨⟨-1, rfl, by omega, by omega, ⟨fun h => absurd h (by omega), fun ⟨j, hj, h⟩ => by rw [HNO.out j hj] at h; cases h⟩⟩, HB.out⟩
set_option maxRecDepth 100000 in
set_option maxHeartbeats 4000000 in
theorem has_step2 (r : Option Addr) (n cap : Nat) (B : Nat → Bd) (w : World) (hn : n ≤ 1000000) (hr : BodsAt w r n B) :
    Calls Tryd.prog 77 #[.slice r n cap, .func (.func 120) #[] #[]] w fun e w' => e = .returned (.bool (anyB n B farB)) ∧ Below w.heap.size w w' := by
  have HI := Lib.hid (idx_step2 r n cap B w hn hr)
  clear hr
  go_enter Tryd.func77, Tryd.ntmps77
  go_wp2_with (go_at_call 123; (with_reducible refine HI.out.mono ?_); rintro e w1 ⟨⟨i, rfl, hi1, hi2, hi⟩, hb1⟩; have HB1 := Lib.hid hb1; have HII := Lib.hid hi; clear hb1 hi)
  go_ret
  refine ⟨?_, HB1.out⟩
  unfold anyB
  by_cases h : 0 ≤ i
  · rw [decide_eq_true h, decide_eq_true (HII.out.1 h)]; rfl
  · rw [decide_eq_false h, decide_eq_false (fun h2 => h (HII.out.2 h2))]; rfl
end Go.Proofs.YtlfpfeidaohjmaaDoor
