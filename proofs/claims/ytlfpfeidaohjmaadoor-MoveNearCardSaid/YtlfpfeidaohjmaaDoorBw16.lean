/- MoveBack: the law's walk. -/
import Derived.Test.YtlfpfeidaohjmaaDoorBw15
set_option linter.unusedSimpArgs false
set_option linter.unusedVariables false
namespace Go.Proofs.YtlfpfeidaohjmaaDoor
open Go.RowKit Go.Grow Go.Bo

@[go_sem] theorem guardBody : Tryd.prog.eqGuardType Tryd.prog.depth 35 = false := by kernel_rfl
theorem heldBody : Tryd.prog.stoodInHeld 35 = false := by kernel_rfl
theorem underBody : Tryd.prog.underlying 35 = some (.struct (Tryd.prog.fieldsOf 35)) := by kernel_rfl
theorem eqCell' (a b c : Int) (w : World) : (Op.equalIn 9999 33 (.agg #[.int .i64 a, .int .i64 b, .int .i64 c]) (.agg #[.int .i64 a, .int .i64 b, .int .i64 c])).run Tryd.prog w = .ok true w := by
  rw [show (9999 : Nat) = 9998 + 1 from rfl, run_equalIn_agg w 9998 33 _ _ underCell heldCell]
  simp only [Program.fieldsOf, Tryd.underlying33]
  go_simp
@[go_sem] theorem eqBody (a b c d e f g : Int) (w : World) : (Op.equalIn 10000 35 (.agg #[.int .i64 a, .int .i64 b, .int .i64 c, .int .i64 d, .int .i64 e, .int .i64 f, .int .i64 g]) (.agg #[.int .i64 a, .int .i64 b, .int .i64 c, .int .i64 d, .int .i64 e, .int .i64 f, .int .i64 g])).run Tryd.prog w = .ok true w := by
  rw [show (10000 : Nat) = 9999 + 1 from rfl, run_equalIn_agg w 9999 35 _ _ underBody heldBody]
  simp only [Program.fieldsOf, Tryd.underlying35]
  have h1 := eqCell' a b c
  have h2 := eqCell' d e f
  go_simp

theorem runZ_ok {n : Nat} {k : Int} {B E : Nat → Bd} (hB : Ok n B) (h : runZ n k B = some E) : Ok n E := Bo.run_ok hB h
theorem runZ_back {n : Nat} {k : Int} {B E : Nat → Bd} (hB : Ok n B) (h : runZ n k B = some E) : runZ n (-k) E = some B := by
  have h2 := run_back hB h
  unfold runZ at *
  by_cases h0 : k = 0
  · subst h0; exact h2
  · rw [show sgn (-k) = -sgn k by unfold sgn; split <;> split <;> omega, Int.natAbs_neg]; exact h2
theorem runZ_add {n : Nat} {j k : Int} (hj : 0 ≤ j) (hk : 0 ≤ k) {B E F : Nat → Bd} (h1 : runZ n j B = some E) (h2 : runZ n k E = some F) : runZ n (j + k) B = some F := by
  unfold runZ sgn at *
  rw [if_neg (by omega)] at *
  rw [show (j + k).natAbs = j.natAbs + k.natAbs by omega, run_add, h1, Option.bind_some, h2]
set_option maxRecDepth 100000 in
set_option maxHeartbeats 16000000 in
theorem back_long (a : Nat → Addr) (r : Option Addr) (n cap : Nat) (st k : Int) (B : Nat → Bd) (w : World) (hs : Sen a [2, 5, 6] w) (hl : ¬ shortB n st ∨ k < 0 ∨ 120 < k) :
    Calls Tryd.prog 3 #[.slice r n cap, .int .i64 st, .int .i64 k] w fun e w' => e = .returned (.bool true) ∧ Below w.heap.size w w' := by
  have MV := Lib.hid (fun x (hx : Below w.heap.size w x) => moves_walk a x (hs.below hx))
  have HS := Lib.hid hs
  have g : Hid (Below w.heap.size w w) := Lib.hid (grow_refl w)
  clear hs
  by_cases hsh : shortB n st
  · have SH := Lib.hid (short_yes r n cap st · hsh)
    by_cases hk : k < 0
    all_goals
      have hk2 : k < 0 ∨ 120 < k := by rcases hl with h | h; exact absurd hsh h; exact h
      clear hl hsh
      go_enter Tryd.func3, Tryd.ntmps3
      go_wp2_with (first
        | (go_at_call 14; (with_reducible refine (MV.out _ g.out).mono ?_); rintro e w1 ⟨rfl, hb⟩; replace g := Lib.hid (grow_trans g.out hb); clear hb)
        | (go_at_call 15; (with_reducible refine (SH.out _).mono ?_); rintro e w2 ⟨rfl, rfl⟩))
      go_ret
      exact ⟨rfl, g.out⟩
  · have SH := Lib.hid (short_no r n cap st · hsh)
    clear hl hsh
    go_enter Tryd.func3, Tryd.ntmps3
    go_wp2_with (first
      | (go_at_call 14; (with_reducible refine (MV.out _ g.out).mono ?_); rintro e w1 ⟨rfl, hb⟩; replace g := Lib.hid (grow_trans g.out hb); clear hb)
      | (go_at_call 15; (with_reducible refine (SH.out _).mono ?_); rintro e w2 ⟨rfl, rfl⟩))
    go_ret
    exact ⟨rfl, g.out⟩
set_option maxRecDepth 100000 in
set_option maxHeartbeats 16000000 in
theorem back_bad (a : Nat → Addr) (r : Option Addr) (n cap : Nat) (st k : Int) (B : Nat → Bd) (w : World) (hs : Sen a [2, 5, 6] w) (hr : BodsAt w r n B) (hsh : shortB n st) (hk : 0 ≤ k ∧ k ≤ 120) (x : Nat) (hx0 : x ≠ 0) (R : ∀ x' r' c, Below w.heap.size w x' → (r' = none → c = 0) → BodsAt x' r' n B → Calls Tryd.prog 16 #[.slice r' n c, .int .i64 st] x' (RunOut a x' x)) :
    Calls Tryd.prog 3 #[.slice r n cap, .int .i64 st, .int .i64 k] w fun e w' => e = .returned (.bool true) ∧ Below w.heap.size w w' := by
  have MV := Lib.hid (fun x (hx : Below w.heap.size w x) => moves_walk a x (hs.below hx))
  have HS := Lib.hid hs
  have g : Hid (Below w.heap.size w w) := Lib.hid (grow_refl w)
  clear hs
  have hn14 := hsh.1
  have SH := Lib.hid (short_yes r n cap st · hsh)
  have BD := Lib.hid (fun x (hx : Below w.heap.size w x) => bodies_walk r n cap B x (by omega) (hr.below hx))
  obtain ⟨hk1, hk2⟩ := hk
  clear hr
  have s0 := trivial
  have RN := Lib.hid R
  have HE := Lib.hid (errV_pos a hx0)
  clear hsh R
  go_enter Tryd.func3, Tryd.ntmps3
  go_wp2_with (first
    | (go_at_call 14; (with_reducible refine (MV.out _ g.out).mono ?_); rintro e w1 ⟨rfl, hb⟩; replace g := Lib.hid (grow_trans g.out hb); clear hb)
    | (go_at_call 15; (with_reducible refine (SH.out _).mono ?_); rintro e w2 ⟨rfl, rfl⟩)
    | (clear s0; go_at_call 17; (with_reducible refine (BD.out _ g.out).mono ?_); rintro e w3 ⟨r3, c3, rfl, hrc3, hb3, hb⟩; replace g := Lib.hid (grow_trans g.out hb); have HB3 := Lib.hid hb3; have HC3 := Lib.hid hrc3; clear hb hb3 hrc3; have s1 := trivial)
    | (go_at_call 16; (with_reducible refine (RN.out _ _ _ g.out HC3.out HB3.out).mono ?_); rintro e w4 ⟨rfl, hb⟩; rw [HE.out]; replace g := Lib.hid (grow_trans g.out hb); clear hb))
  go_ret
  exact ⟨rfl, g.out⟩
set_option maxRecDepth 100000 in
set_option maxHeartbeats 16000000 in
theorem back_stop (a : Nat → Addr) (r : Option Addr) (n cap : Nat) (st k : Int) (B : Nat → Bd) (w : World) (hs : Sen a [2, 5, 6] w) (hr : BodsAt w r n B) (hsh : shortB n st) (hk : 0 ≤ k ∧ k ≤ 120) (h0 : validE n B = 0) (hst : -2000 ≤ st ∧ st ≤ 2000) (E : Nat → Bd) (hX : runZ n st B = some E) (hY : runZ n k E = none) :
    Calls Tryd.prog 3 #[.slice r n cap, .int .i64 st, .int .i64 k] w fun e w' => e = .returned (.bool true) ∧ Below w.heap.size w w' := by
  have MV := Lib.hid (fun x (hx : Below w.heap.size w x) => moves_walk a x (hs.below hx))
  have HS := Lib.hid hs
  have g : Hid (Below w.heap.size w w) := Lib.hid (grow_refl w)
  clear hs
  have hn14 := hsh.1
  have SH := Lib.hid (short_yes r n cap st · hsh)
  have BD := Lib.hid (fun x (hx : Below w.heap.size w x) => bodies_walk r n cap B x (by omega) (hr.below hx))
  obtain ⟨hk1, hk2⟩ := hk
  have HR := Lib.hid hr
  clear hr
  have s0 := trivial
  have HRX := Lib.hid hX
  have hnm : n ≤ 9223372036854775807 := by omega
  have hkm : -120 ≤ st ∧ st ≤ 120 := by rcases hsh.2 with h | h; exact ⟨h.2, h.1⟩; omega
  obtain ⟨hn12, hok⟩ := validE_ok.1 h0
  have hokE := runZ_ok hok hX
  have h0E : validE n E = 0 := validE_ok.2 ⟨hn12, hokE⟩
  have RX := Lib.hid (fun x' r' c (hx : Below w.heap.size w x') (hc : r' = none → c = 0) (hb : BodsAt x' r' n B) => run_some a r' n c st B E x' hnm hb hc (HS.out.below hx) h0 (by omega) hX)
  have RB := Lib.hid (fun x' r' c (hx : Below w.heap.size w x') (hc : r' = none → c = 0) (hb : BodsAt x' r' n E) => run_some a r' n c (-st) E B x' hnm hb hc (HS.out.below hx) h0E (by omega) (runZ_back hok hX))
  have SM := Lib.hid (fun x' r' c (hx : Below w.heap.size w x') (hb : BodsAt x' r' n B) => same_walk r' r n c cap B x' (by omega) hb (HR.out.below hx))
  have ng : IntKind.i64.wrap (-st) = -st := IntWalk.i64_in _ (by omega)
  have t0 := trivial
  have RY := Lib.hid (fun x' r' c (hx : Below w.heap.size w x') (hc : r' = none → c = 0) (hb : BodsAt x' r' n E) => run_none a r' n c k E x' hnm hb hc (HS.out.below hx) h0E (by omega) hY)
  have HE := Lib.hid (errV_pos a (show 6 ≠ 0 by decide))
  clear hsh hX hY h0 h0E hok hokE
  go_enter Tryd.func3, Tryd.ntmps3
  go_wp2_with (first
    | (go_at_call 14; (with_reducible refine (MV.out _ g.out).mono ?_); rintro e w1 ⟨rfl, hb⟩; replace g := Lib.hid (grow_trans g.out hb); clear hb)
    | (go_at_call 15; (with_reducible refine (SH.out _).mono ?_); rintro e w2 ⟨rfl, rfl⟩)
    | (clear s0; go_at_call 17; (with_reducible refine (BD.out _ g.out).mono ?_); rintro e w3 ⟨r3, c3, rfl, hrc3, hb3, hb⟩; replace g := Lib.hid (grow_trans g.out hb); have HB3 := Lib.hid hb3; have HC3 := Lib.hid hrc3; clear hb hb3 hrc3; have s1 := trivial)
    | (clear t0; go_at_call 16; (with_reducible refine (RX.out _ _ _ g.out HC3.out HB3.out).mono ?_); rintro e w4 ⟨r4, c4, rfl, hrc4, hb4, hb⟩; replace g := Lib.hid (grow_trans g.out hb); have HB4 := Lib.hid hb4; have HC4 := Lib.hid hrc4; clear hb hb4 hrc4; have t1 := trivial)
    | (clear t1; go_at_call 16; (with_reducible refine (RB.out _ _ _ g.out HC4.out HB4.out).mono ?_); rintro e w5 ⟨r5, c5, rfl, hrc5, hb5, hb⟩; replace g := Lib.hid (grow_trans g.out hb); have HB5 := Lib.hid hb5; have HB4b := Lib.hid (HB4.out.below hb); clear hb hb5 hrc5 HB4; have t2 := trivial)
    | (go_at_call 18; (with_reducible refine (SM.out _ _ _ g.out HB5.out).mono ?_); rintro e w6 ⟨rfl, hb⟩; replace g := Lib.hid (grow_trans g.out hb); have HB4c := Lib.hid (HB4b.out.below hb); clear hb HB4b HB5)
    | (clear t2; go_at_call 16; (with_reducible refine (RY.out _ _ _ g.out HC4.out HB4c.out).mono ?_); rintro e w7 ⟨rfl, hb⟩; rw [HE.out]; replace g := Lib.hid (grow_trans g.out hb); clear hb))
  go_ret
  exact ⟨rfl, g.out⟩
set_option maxRecDepth 100000 in
set_option maxHeartbeats 16000000 in
theorem back_neg (a : Nat → Addr) (r : Option Addr) (n cap : Nat) (st k : Int) (B : Nat → Bd) (w : World) (hs : Sen a [2, 5, 6] w) (hr : BodsAt w r n B) (hsh : shortB n st) (hk : 0 ≤ k ∧ k ≤ 120) (h0 : validE n B = 0) (hst : -2000 ≤ st ∧ st ≤ 2000) (E : Nat → Bd) (hX : runZ n st B = some E) (F : Nat → Bd) (hY : runZ n k E = some F) (hneg : st < 0) :
    Calls Tryd.prog 3 #[.slice r n cap, .int .i64 st, .int .i64 k] w fun e w' => e = .returned (.bool true) ∧ Below w.heap.size w w' := by
  have MV := Lib.hid (fun x (hx : Below w.heap.size w x) => moves_walk a x (hs.below hx))
  have HS := Lib.hid hs
  have g : Hid (Below w.heap.size w w) := Lib.hid (grow_refl w)
  clear hs
  have hn14 := hsh.1
  have SH := Lib.hid (short_yes r n cap st · hsh)
  have BD := Lib.hid (fun x (hx : Below w.heap.size w x) => bodies_walk r n cap B x (by omega) (hr.below hx))
  obtain ⟨hk1, hk2⟩ := hk
  have HR := Lib.hid hr
  clear hr
  have s0 := trivial
  have HRX := Lib.hid hX
  have hnm : n ≤ 9223372036854775807 := by omega
  have hkm : -120 ≤ st ∧ st ≤ 120 := by rcases hsh.2 with h | h; exact ⟨h.2, h.1⟩; omega
  obtain ⟨hn12, hok⟩ := validE_ok.1 h0
  have hokE := runZ_ok hok hX
  have h0E : validE n E = 0 := validE_ok.2 ⟨hn12, hokE⟩
  have RX := Lib.hid (fun x' r' c (hx : Below w.heap.size w x') (hc : r' = none → c = 0) (hb : BodsAt x' r' n B) => run_some a r' n c st B E x' hnm hb hc (HS.out.below hx) h0 (by omega) hX)
  have RB := Lib.hid (fun x' r' c (hx : Below w.heap.size w x') (hc : r' = none → c = 0) (hb : BodsAt x' r' n E) => run_some a r' n c (-st) E B x' hnm hb hc (HS.out.below hx) h0E (by omega) (runZ_back hok hX))
  have SM := Lib.hid (fun x' r' c (hx : Below w.heap.size w x') (hb : BodsAt x' r' n B) => same_walk r' r n c cap B x' (by omega) hb (HR.out.below hx))
  have ng : IntKind.i64.wrap (-st) = -st := IntWalk.i64_in _ (by omega)
  have t0 := trivial
  have RY := Lib.hid (fun x' r' c (hx : Below w.heap.size w x') (hc : r' = none → c = 0) (hb : BodsAt x' r' n E) => run_some a r' n c k E F x' hnm hb hc (HS.out.below hx) h0E (by omega) hY)
  clear hsh hX hY h0 h0E hok hokE
  go_enter Tryd.func3, Tryd.ntmps3
  go_wp2_with (first
    | (go_at_call 14; (with_reducible refine (MV.out _ g.out).mono ?_); rintro e w1 ⟨rfl, hb⟩; replace g := Lib.hid (grow_trans g.out hb); clear hb)
    | (go_at_call 15; (with_reducible refine (SH.out _).mono ?_); rintro e w2 ⟨rfl, rfl⟩)
    | (clear s0; go_at_call 17; (with_reducible refine (BD.out _ g.out).mono ?_); rintro e w3 ⟨r3, c3, rfl, hrc3, hb3, hb⟩; replace g := Lib.hid (grow_trans g.out hb); have HB3 := Lib.hid hb3; have HC3 := Lib.hid hrc3; clear hb hb3 hrc3; have s1 := trivial)
    | (clear t0; go_at_call 16; (with_reducible refine (RX.out _ _ _ g.out HC3.out HB3.out).mono ?_); rintro e w4 ⟨r4, c4, rfl, hrc4, hb4, hb⟩; replace g := Lib.hid (grow_trans g.out hb); have HB4 := Lib.hid hb4; have HC4 := Lib.hid hrc4; clear hb hb4 hrc4; have t1 := trivial)
    | (clear t1; go_at_call 16; (with_reducible refine (RB.out _ _ _ g.out HC4.out HB4.out).mono ?_); rintro e w5 ⟨r5, c5, rfl, hrc5, hb5, hb⟩; replace g := Lib.hid (grow_trans g.out hb); have HB5 := Lib.hid hb5; have HB4b := Lib.hid (HB4.out.below hb); clear hb hb5 hrc5 HB4; have t2 := trivial)
    | (go_at_call 18; (with_reducible refine (SM.out _ _ _ g.out HB5.out).mono ?_); rintro e w6 ⟨rfl, hb⟩; replace g := Lib.hid (grow_trans g.out hb); have HB4c := Lib.hid (HB4b.out.below hb); clear hb HB4b HB5)
    | (clear t2; go_at_call 16; (with_reducible refine (RY.out _ _ _ g.out HC4.out HB4c.out).mono ?_); rintro e w7 ⟨r7, c7, rfl, hrc7, hb7, hb⟩; replace g := Lib.hid (grow_trans g.out hb); have HB7 := Lib.hid hb7; clear hb hb7 hrc7; have t3 := trivial))
  go_ret
  exact ⟨rfl, g.out⟩
set_option maxRecDepth 100000 in
set_option maxHeartbeats 16000000 in
theorem back_all (a : Nat → Addr) (r : Option Addr) (n cap : Nat) (st k : Int) (B : Nat → Bd) (w : World) (hs : Sen a [2, 5, 6] w) (hr : BodsAt w r n B) (hsh : shortB n st) (hk : 0 ≤ k ∧ k ≤ 120) (h0 : validE n B = 0) (hst : -2000 ≤ st ∧ st ≤ 2000) (E : Nat → Bd) (hX : runZ n st B = some E) (F : Nat → Bd) (hY : runZ n k E = some F) (hpos : 0 ≤ st) :
    Calls Tryd.prog 3 #[.slice r n cap, .int .i64 st, .int .i64 k] w fun e w' => e = .returned (.bool true) ∧ Below w.heap.size w w' := by
  have MV := Lib.hid (fun x (hx : Below w.heap.size w x) => moves_walk a x (hs.below hx))
  have HS := Lib.hid hs
  have g : Hid (Below w.heap.size w w) := Lib.hid (grow_refl w)
  clear hs
  have hn14 := hsh.1
  have SH := Lib.hid (short_yes r n cap st · hsh)
  have BD := Lib.hid (fun x (hx : Below w.heap.size w x) => bodies_walk r n cap B x (by omega) (hr.below hx))
  obtain ⟨hk1, hk2⟩ := hk
  have HR := Lib.hid hr
  clear hr
  have s0 := trivial
  have HRX := Lib.hid hX
  have hnm : n ≤ 9223372036854775807 := by omega
  have hkm : -120 ≤ st ∧ st ≤ 120 := by rcases hsh.2 with h | h; exact ⟨h.2, h.1⟩; omega
  obtain ⟨hn12, hok⟩ := validE_ok.1 h0
  have hokE := runZ_ok hok hX
  have h0E : validE n E = 0 := validE_ok.2 ⟨hn12, hokE⟩
  have RX := Lib.hid (fun x' r' c (hx : Below w.heap.size w x') (hc : r' = none → c = 0) (hb : BodsAt x' r' n B) => run_some a r' n c st B E x' hnm hb hc (HS.out.below hx) h0 (by omega) hX)
  have RB := Lib.hid (fun x' r' c (hx : Below w.heap.size w x') (hc : r' = none → c = 0) (hb : BodsAt x' r' n E) => run_some a r' n c (-st) E B x' hnm hb hc (HS.out.below hx) h0E (by omega) (runZ_back hok hX))
  have SM := Lib.hid (fun x' r' c (hx : Below w.heap.size w x') (hb : BodsAt x' r' n B) => same_walk r' r n c cap B x' (by omega) hb (HR.out.below hx))
  have ng : IntKind.i64.wrap (-st) = -st := IntWalk.i64_in _ (by omega)
  have t0 := trivial
  have RY := Lib.hid (fun x' r' c (hx : Below w.heap.size w x') (hc : r' = none → c = 0) (hb : BodsAt x' r' n E) => run_some a r' n c k E F x' hnm hb hc (HS.out.below hx) h0E (by omega) hY)
  have RZ := Lib.hid (fun x' r' c (hx : Below w.heap.size w x') (hc : r' = none → c = 0) (hb : BodsAt x' r' n B) => run_some a r' n c (st + k) B F x' hnm hb hc (HS.out.below hx) h0 (by omega) (runZ_add hpos hk1 hX hY))
  clear hsh hX hY h0 h0E hok hokE
  go_enter Tryd.func3, Tryd.ntmps3
  go_wp2_with (first
    | (go_at_call 14; (with_reducible refine (MV.out _ g.out).mono ?_); rintro e w1 ⟨rfl, hb⟩; replace g := Lib.hid (grow_trans g.out hb); clear hb)
    | (go_at_call 15; (with_reducible refine (SH.out _).mono ?_); rintro e w2 ⟨rfl, rfl⟩)
    | (clear s0; go_at_call 17; (with_reducible refine (BD.out _ g.out).mono ?_); rintro e w3 ⟨r3, c3, rfl, hrc3, hb3, hb⟩; replace g := Lib.hid (grow_trans g.out hb); have HB3 := Lib.hid hb3; have HC3 := Lib.hid hrc3; clear hb hb3 hrc3; have s1 := trivial)
    | (clear t0; go_at_call 16; (with_reducible refine (RX.out _ _ _ g.out HC3.out HB3.out).mono ?_); rintro e w4 ⟨r4, c4, rfl, hrc4, hb4, hb⟩; replace g := Lib.hid (grow_trans g.out hb); have HB4 := Lib.hid hb4; have HC4 := Lib.hid hrc4; clear hb hb4 hrc4; have t1 := trivial)
    | (clear t1; go_at_call 16; (with_reducible refine (RB.out _ _ _ g.out HC4.out HB4.out).mono ?_); rintro e w5 ⟨r5, c5, rfl, hrc5, hb5, hb⟩; replace g := Lib.hid (grow_trans g.out hb); have HB5 := Lib.hid hb5; have HB4b := Lib.hid (HB4.out.below hb); clear hb hb5 hrc5 HB4; have t2 := trivial)
    | (go_at_call 18; (with_reducible refine (SM.out _ _ _ g.out HB5.out).mono ?_); rintro e w6 ⟨rfl, hb⟩; replace g := Lib.hid (grow_trans g.out hb); have HB4c := Lib.hid (HB4b.out.below hb); clear hb HB4b HB5)
    | (clear t2; go_at_call 16; (with_reducible refine (RY.out _ _ _ g.out HC4.out HB4c.out).mono ?_); rintro e w7 ⟨r7, c7, rfl, hrc7, hb7, hb⟩; replace g := Lib.hid (grow_trans g.out hb); have HB7 := Lib.hid hb7; clear hb hb7 hrc7; have t3 := trivial)
    | (clear s1; go_at_call 17; (with_reducible refine (BD.out _ g.out).mono ?_); rintro e w8 ⟨r8, c8, rfl, hrc8, hb8, hb⟩; replace g := Lib.hid (grow_trans g.out hb); have HB8 := Lib.hid hb8; have HC8 := Lib.hid hrc8; have HB7b := Lib.hid (HB7.out.below hb); clear hb hb8 hrc8 HB7)
    | (clear t3; go_at_call 16; (with_reducible refine (RZ.out _ _ _ g.out HC8.out HB8.out).mono ?_); rintro e w9 ⟨r9, c9, rfl, hrc9, hb9, hb⟩; replace g := Lib.hid (grow_trans g.out hb); have HB9 := Lib.hid hb9; have HB7c := Lib.hid (HB7b.out.below hb); clear hb hb9 hrc9 HB7b))
  go_loopw [15] (fun v15 wr => ∃ j : Nat, j ≤ n ∧ v15 = .int .i64 j ∧ BodsAt wr r7 n F ∧ BodsAt wr r9 n F ∧ Below w.heap.size w wr) (fun i _ => n - (intOf i).toNat)
  case atStart => exact ⟨0, Nat.zero_le _, rfl, HB7c.out, HB9.out, g.out⟩
  case round =>
    clear HB7c HB9 g
    obtain ⟨j, hj, rfl, h7, h9, hg⟩ := hrel
    have H7 := Lib.hid h7
    have H9 := Lib.hid h9
    have g := Lib.hid hg
    clear h7 h9 hg
    by_cases hlt : j < n
    · obtain ⟨b1, o1, rfl, hl1, hc1⟩ := H7.out.resolve_left (by omega)
      obtain ⟨b2, o2, rfl, hl2, hc2⟩ := H9.out.resolve_left (by omega)
      obtain ⟨a0, a1, a2, a3, a4, a5, a6⟩ := hc1 j hlt
      obtain ⟨d0, d1, d2, d3, d4, d5, d6⟩ := hc2 j hlt
      clear hc1 hc2
      generalize F j = d at *
      obtain ⟨⟨x, y, z⟩, ⟨u, v, q⟩, m⟩ := d
      simp only at a0 a1 a2 a3 a4 a5 a6 d0 d1 d2 d3 d4 d5 d6
      go_wp2
      go_quiet (fail)
      go_wp2
      go_roundw
      case rel => exact ⟨j + 1, by omega, by go_num, H7.out.below (grow_drewN (grow_refl _) _), H9.out.below (grow_drewN (grow_refl _) _), grow_drewN g.out _⟩
      case measure => simp [intOf]; omega
    · obtain rfl : j = n := by omega
      go_wp2
      go_ret
      exact ⟨rfl, g.out⟩

theorem moveBack_walk (a : Nat → Addr) (r : Option Addr) (n cap : Nat) (st k : Int) (B : Nat → Bd) (w : World) (hs : Sen a [2, 5, 6] w) (hr : BodsAt w r n B) (hn : n ≤ 9223372036854775807) :
    Calls Tryd.prog 3 #[.slice r n cap, .int .i64 st, .int .i64 k] w fun e w' => e = .returned (.bool true) ∧ Below w.heap.size w w' := by
  by_cases hl : ¬ shortB n st ∨ k < 0 ∨ 120 < k
  · exact back_long a r n cap st k B w hs hl
  · have hsh : shortB n st := Classical.byContradiction fun h => hl (.inl h)
    have hk : 0 ≤ k ∧ k ≤ 120 := by
      constructor
      · exact Int.not_lt.1 fun h => hl (.inr (.inl h))
      · exact Int.not_lt.1 fun h => hl (.inr (.inr h))
    clear hl
    have hn14 := hsh.1
    by_cases h0 : validE n B = 0
    · by_cases hst : -2000 ≤ st ∧ st ≤ 2000
      · cases hX : runZ n st B with
        | none => exact back_bad a r n cap st k B w hs hr hsh hk 6 (by decide) fun x' r' c hx hc hb => run_none a r' n c st B x' hn hb hc (hs.below hx) h0 hst hX
        | some E =>
          cases hY : runZ n k E with
          | none => exact back_stop a r n cap st k B w hs hr hsh hk h0 hst E hX hY
          | some F =>
            by_cases hneg : st < 0
            · exact back_neg a r n cap st k B w hs hr hsh hk h0 hst E hX F hY hneg
            · exact back_all a r n cap st k B w hs hr hsh hk h0 hst E hX F hY (by omega)
      · exact back_bad a r n cap st k B w hs hr hsh hk 2 (by decide) fun x' r' c hx hc hb => run_far a r' n c st B x' hn hb (hs.below hx) h0 (by omega)
    · exact back_bad a r n cap st k B w hs hr hsh hk (validE n B) h0 fun x' r' c hx hc hb => run_bad a r' n c st B x' hn hb (hs.below hx) h0
end Go.Proofs.YtlfpfeidaohjmaaDoor
