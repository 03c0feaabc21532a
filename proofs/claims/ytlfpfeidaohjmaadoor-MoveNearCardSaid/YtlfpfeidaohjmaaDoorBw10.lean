/- A step of all bodies. -/
import Derived.Test.YtlfpfeidaohjmaaDoorBw9
set_option linter.unusedSimpArgs false
set_option linter.unusedVariables false
namespace Go.Proofs.YtlfpfeidaohjmaaDoor
open Go.RowKit Go.Grow Go.Bo

theorem But.bods {g : Nat} {w w' : World} (h : Below w.heap.size w w') : But g w w' := But.of_below h
/-- What a step leaves. -/
def StepPost (w : World) (g o n : Nat) (s : Int) (B : Nat → Bd) (e : Ending) (w' : World) : Prop :=
  But g w w' ∧ ((∃ E, Bo.step n s B = some E ∧ e = .returned (.bool true) ∧ Row w' g o n E) ∨ (Bo.step n s B = none ∧ e = .returned (.bool false)))
theorem mild_of {n : Nat} {s : Int} {B : Nat → Bd} (hn : n ≤ 12) (hs : s = 1 ∨ s = -1) (h : Ok n B) : Mild n s B := ⟨hn, hs, h.p, h.m, fun i hi => (h.v i hi).mono (by omega)⟩
theorem kick_le {n : Nat} {s : Int} {B : Nat → Bd} (hn : n ≤ 12) (hs : s = 1 ∨ s = -1) (h : Ok n B) (i : Nat) (hi : i < n) : (kick n s B i).v.le 6597070815232 :=
  (kv_bd hs hn h.m (k := n) (Nat.le_refl _) (h.v i hi)).mono (by omega)
theorem fast_none {n : Nat} {s : Int} {B : Nat → Bd} (hn : n ≤ 12) (hs : s = 1 ∨ s = -1) (h : Ok n B) : anyB n (kick n s B) fastB = false :=
  (anyB_false _ _ _).2 fun k hk => by
    unfold fastB
    rw [(C3.inB_iff _ _).2 ((kick_le hn hs h k hk).mono (by omega))]; rfl
theorem drift_fits {n : Nat} {s : Int} {B : Nat → Bd} (hn : n ≤ 12) (hs : s = 1 ∨ s = -1) (h : Ok n B) (i : Nat) (hi : i < n) : Fits (kick n s B i).p s (kick n s B i).v := by
  obtain ⟨⟨v1, v2⟩, ⟨v3, v4⟩, ⟨v5, v6⟩⟩ := kick_le hn hs h i hi
  obtain ⟨⟨p1, p2⟩, ⟨p3, p4⟩, ⟨p5, p6⟩⟩ := h.p i hi
  have hx := sgn_bd hs v1 v2
  have hy := sgn_bd hs v3 v4
  have hz := sgn_bd hs v5 v6
  rw [kick_p]
  unfold Fits C3.le C3.more
  simp only
  omega
theorem far_iff (n : Nat) (B : Nat → Bd) : anyB n B farB = false ↔ okP n B := by
  rw [anyB_false]
  unfold okP farB
  constructor
  · intro h k hk; have := h k hk; rw [Bool.not_eq_false'] at this; exact (C3.inB_iff _ _).1 this
  · intro h k hk; rw [(C3.inB_iff _ _).2 (h k hk)]; rfl
theorem out_iff (n : Nat) (B : Nat → Bd) : anyB n B outB = false ↔ okP n B ∧ okV n B := by
  rw [anyB_false]
  constructor
  · intro h; exact ⟨fun k hk => (outB_false.1 (h k hk)).1, fun k hk => (outB_false.1 (h k hk)).2⟩
  · rintro ⟨h1, h2⟩ k hk; exact outB_false.2 ⟨h1 k hk, h2 k hk⟩
theorem mild2 {n : Nat} {s : Int} {B : Nat → Bd} (hn : n ≤ 12) (hs : s = 1 ∨ s = -1) (h : Ok n B) (hp : okP n (drift s (kick n s B))) : Mild n s (drift s (kick n s B)) :=
  ⟨hn, hs, hp, fun i hi => by rw [drift_m, kick_m]; exact h.m i hi, fun i hi => (kick_le hn hs h i hi).mono (by omega)⟩
theorem Row.but_below {w w' w2 : World} {g o n : Nat} {B : Nat → Bd} (h : Row w g o n B) (hb : Below w.heap.size w w') : Row w' g o n B := h.below hb

set_option maxRecDepth 100000 in
set_option maxHeartbeats 16000000 in
theorem step_walk (g o n cap : Nat) (s : Int) (B : Nat → Bd) (w : World) (hr : Row w g o n B) (hn : n ≤ 12) (hs : s = 1 ∨ s = -1) (hok : Ok n B) :
    Calls Tryd.prog 69 #[.slice (some ⟨g, o, none⟩) n cap, .int .i64 s] w (StepPost w g o n s B) := by
  have K1 := Lib.hid (kick_walk g o n cap s B w hr (mild_of hn hs hok))
  have F1 := Lib.hid (fast_none hn hs hok)
  have D1 := Lib.hid (fun x (hx : Row x g o n (kick n s B)) => drift_walk g o n cap s (kick n s B) x (by omega) hx (drift_fits hn hs hok))
  have H1 := Lib.hid (fun x (hx : Row x g o n (kick n s B)) => has_step1 (some ⟨g, o, none⟩) n cap (kick n s B) x (by omega) hx.bods)
  rw [F1.out] at H1
  have H2 := Lib.hid (fun x (hx : Row x g o n (drift s (kick n s B))) => has_step2 (some ⟨g, o, none⟩) n cap (drift s (kick n s B)) x (by omega) hx.bods)
  clear hr
  cases hf : anyB n (drift s (kick n s B)) farB with
  | true =>
    have HS := Lib.hid (show Bo.step n s B = none by
      unfold Bo.step
      rw [if_neg (fun h => by rw [(far_iff _ _).2 h] at hf; cases hf)])
    rw [hf] at H2
    clear hf hok
    have s0 := trivial
    go_enter Tryd.func69, Tryd.ntmps69
    go_wp2_with (first
      | (go_at_call 116; (with_reducible refine K1.out.mono ?_); rintro e w1 ⟨rfl, hr1, hb1⟩; have R1 := Lib.hid hr1; have B1 := Lib.hid hb1; clear hr1 hb1)
      | (clear s0; go_at_call 77; (with_reducible refine (H1.out _ R1.out).mono ?_); rintro e w2 ⟨rfl, hb2⟩; have R2 := Lib.hid (R1.out.below hb2); have B2 := Lib.hid (B1.out.trans (But.of_below hb2)); clear hb2 R1 B1; have s1 := trivial)
      | (go_at_call 119; (with_reducible refine (D1.out _ R2.out).mono ?_); rintro e w3 ⟨rfl, hr3, hb3⟩; have R3 := Lib.hid hr3; have B3 := Lib.hid (B2.out.trans hb3); clear hr3 hb3 R2 B2)
      | (clear s1; go_at_call 77; (with_reducible refine (H2.out _ R3.out).mono ?_); rintro e w4 ⟨rfl, hb4⟩; have B4 := Lib.hid (B3.out.trans (But.of_below hb4)); clear hb4 R3 B3))
    go_ret
    exact ⟨B4.out, .inr ⟨HS.out, rfl⟩⟩
  | false =>
    have hp := (far_iff _ _).1 hf
    have K2 := Lib.hid (fun x (hx : Row x g o n (drift s (kick n s B))) => kick_walk g o n cap s (drift s (kick n s B)) x hx (mild2 hn hs hok hp))
    have FR := Lib.hid (fun x (hx : Row x g o n (kick n s (drift s (kick n s B)))) => free_walk (some ⟨g, o, none⟩) n cap (kick n s (drift s (kick n s B))) x (by omega) hx.bods)
    have HS := Lib.hid (show (okV n (kick n s (drift s (kick n s B))) → Bo.step n s B = some (kick n s (drift s (kick n s B)))) ∧ (¬ okV n (kick n s (drift s (kick n s B))) → Bo.step n s B = none) from
      ⟨fun h => by unfold Bo.step; rw [if_pos hp, if_pos h], fun h => by unfold Bo.step; rw [if_pos hp, if_neg h]⟩)
    have OI := Lib.hid ((out_iff n (kick n s (drift s (kick n s B)))).trans ⟨fun h => h.2, fun h => ⟨okP_kick hp, h⟩⟩)
    rw [hf] at H2
    clear hf hok hp
    have s0 := trivial
    have t0 := trivial
    generalize hE : kick n s (drift s (kick n s B)) = E at *
    clear hE
    go_enter Tryd.func69, Tryd.ntmps69
    go_wp2_with (first
      | (clear t0; go_at_call 116; (with_reducible refine K1.out.mono ?_); rintro e w1 ⟨rfl, hr1, hb1⟩; have R1 := Lib.hid hr1; have B1 := Lib.hid hb1; clear hr1 hb1; have t1 := trivial)
      | (clear s0; go_at_call 77; (with_reducible refine (H1.out _ R1.out).mono ?_); rintro e w2 ⟨rfl, hb2⟩; have R2 := Lib.hid (R1.out.below hb2); have B2 := Lib.hid (B1.out.trans (But.of_below hb2)); clear hb2 R1 B1; have s1 := trivial)
      | (go_at_call 119; (with_reducible refine (D1.out _ R2.out).mono ?_); rintro e w3 ⟨rfl, hr3, hb3⟩; have R3 := Lib.hid hr3; have B3 := Lib.hid (B2.out.trans hb3); clear hr3 hb3 R2 B2)
      | (clear s1; go_at_call 77; (with_reducible refine (H2.out _ R3.out).mono ?_); rintro e w4 ⟨rfl, hb4⟩; have R4 := Lib.hid (R3.out.below hb4); have B4 := Lib.hid (B3.out.trans (But.of_below hb4)); clear hb4 R3 B3)
      | (clear t1; go_at_call 116; (with_reducible refine (K2.out _ R4.out).mono ?_); rintro e w5 ⟨rfl, hr5, hb5⟩; have R5 := Lib.hid hr5; have B5 := Lib.hid (B4.out.trans hb5); clear hr5 hb5 R4 B4)
      | (go_at_call 79; (with_reducible refine (FR.out _ R5.out).mono ?_); rintro e w6 ⟨rfl, hb6⟩; have R6 := Lib.hid (R5.out.below hb6); have B6 := Lib.hid (B5.out.trans (But.of_below hb6)); clear hb6 R5 B5))
    go_ret
    refine ⟨B6.out, ?_⟩
    cases ho : anyB n E outB with
    | true => exact .inr ⟨HS.out.2 (fun h => by rw [OI.out.2 h] at ho; cases ho), by first | rfl | simp⟩
    | false => exact .inl ⟨E, HS.out.1 (OI.out.1 ho), by first | rfl | simp, R6.out⟩
end Go.Proofs.YtlfpfeidaohjmaaDoor
