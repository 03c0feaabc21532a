/- Rows of whole numbers: slices.IndexFunc, ContainsFunc, Max, Index; the program's own test of two rows. -/
import Derived.Test.YtaakbajhbmbhcaaDoorSen
import Derived.Test.YtaakbajhbmbhcaaDoorKno
import Derived.Deep.LoopGhost
import Derived.Outline
set_option linter.unusedSimpArgs false
set_option linter.unusedVariables false
namespace Go.Proofs.YtaakbajhbmbhcaaDoor
open Go.RowKit Go.Grow

def IntsAt (w : World) (r : Option Addr) (len : Nat) (z : Nat → Int) : Prop := len = 0 ∨ ∃ b0 o0, r = some ⟨b0, o0, none⟩ ∧ ∀ k, k < len → w.cell? ⟨b0, o0 + k, none⟩ = some (.int .i64 (z k))
theorem IntsAt.below {w w' : World} {r : Option Addr} {len : Nat} {z : Nat → Int} (h : IntsAt w r len z) (hb : Below w.heap.size w w') : IntsAt w' r len z := by
  rcases h with h | ⟨b0, o0, rfl, hc⟩
  · exact .inl h
  · refine .inr ⟨b0, o0, rfl, fun k hk => ?_⟩
    have c := hc k hk
    rw [hb.cell (p := ⟨b0, o0 + k, none⟩) (lt_of_cell c)]
    exact c
theorem IntsAt.drewN {w : World} {r : Option Addr} {len : Nat} {z : Nat → Int} (h : IntsAt w r len z) (n : Nat) : IntsAt (w.drewN n) r len z := h.below (grow_drewN (grow_refl w) n)
def anyZ (p : Int → Bool) (z : Nat → Int) : Nat → Bool
  | 0 => false
  | n + 1 => anyZ p z n || p (z n)
theorem anyZ_false {p : Int → Bool} {z : Nat → Int} : ∀ {n : Nat}, (∀ j, j < n → p (z j) = false) → anyZ p z n = false
  | 0, _ => rfl
  | n + 1, h => by unfold anyZ; rw [anyZ_false fun j hj => h j (by omega), h n (by omega)]; rfl
theorem anyZ_true {p : Int → Bool} {z : Nat → Int} {k : Nat} (hk : p (z k) = true) : ∀ {n : Nat}, k < n → anyZ p z n = true
  | 0, h => absurd h (by omega)
  | n + 1, h => by
    unfold anyZ
    rcases Nat.lt_or_ge k n with h' | h'
    · rw [anyZ_true hk h']; rfl
    · obtain rfl : k = n := by omega
      rw [hk]; simp
theorem anyZ_of {p : Int → Bool} {z : Nat → Int} : ∀ {n : Nat}, anyZ p z n = false → ∀ j, j < n → p (z j) = false
  | 0, _, j, hj => absurd hj (by omega)
  | n + 1, h, j, hj => by
    unfold anyZ at h
    simp only [Bool.or_eq_false_iff] at h
    rcases Nat.lt_or_ge j n with h' | h'
    · exact anyZ_of h.1 j h'
    · obtain rfl : j = n := by omega
      exact h.2
def IdxZ (n : Nat) (p : Int → Bool) (z : Nat → Int) (e : Ending) : Prop := ∃ i : Int, e = .returned (.int .i64 i) ∧ -1 ≤ i ∧ ((0 ≤ i ∧ anyZ p z n = true) ∨ (i = -1 ∧ anyZ p z n = false))

def farB (x : Int) : Bool := decide (1048576 < x) || decide (x < -1048576)
set_option maxRecDepth 100000 in
set_option maxHeartbeats 4000000 in
theorem rows1_walk (x : Int) (W : World) : Calls Tryd.prog 57 #[.int .i64 x] W fun e w' => e = .returned (.bool (farB x)) ∧ W = w' := by
  by_cases h1 : 1048576 < x
  · have e : farB x = true := by unfold farB; rw [decide_eq_true h1]; rfl
    rw [e]; clear e
    go_enter Tryd.func57, Tryd.ntmps57
    go_wp2
    go_ret
    exact ⟨rfl, rfl⟩
  · by_cases h2 : x < -1048576
    · have e : farB x = true := by unfold farB; rw [decide_eq_true h2]; simp
      rw [e]; clear e
      go_enter Tryd.func57, Tryd.ntmps57
      go_wp2
      go_ret
      exact ⟨rfl, rfl⟩
    · have e : farB x = false := by unfold farB; rw [decide_eq_false h1, decide_eq_false h2]; rfl
      rw [e]; clear e
      go_enter Tryd.func57, Tryd.ntmps57
      go_wp2
      go_ret
      exact ⟨rfl, rfl⟩
set_option maxRecDepth 100000 in
set_option maxHeartbeats 4000000 in
theorem index_rows1 (r : Option Addr) (n cap : Nat) (z : Nat → Int) (w : World) (hn : n ≤ 9223372036854775807) (hr : IntsAt w r n z) :
    Calls Tryd.prog 65 #[.slice r n cap, .func (.func 57) #[] #[]] w fun e w' => IdxZ n farB z e ∧ w = w' := by
  have HR := Lib.hid hr
  have HP := Lib.hid rows1_walk
  clear hr
  go_enter Tryd.func65, Tryd.ntmps65
  go_wp2
  go_loop [8] (fun v8 => ∃ k : Nat, k ≤ n ∧ v8 = .int .i64 k ∧ Hid (∀ j, j < k → farB (z j) = false)) (fun i => n - (intOf i).toNat)
  case atStart => exact ⟨0, Nat.zero_le _, rfl, Lib.hid fun j h => absurd h (by omega)⟩
  case round =>
    obtain ⟨k, hk, rfl, HNO⟩ := hrel
    by_cases hlt : k < n
    · obtain ⟨b1, o1, rfl, hc⟩ := HR.out.resolve_left (by omega)
      have c0 := hc k hlt
      clear hc
      have HQ := Lib.hid (fun W => HP.out (z k) W)
      cases hpk : farB (z k) with
      | true =>
        have HPK := Lib.hid hpk
        rw [hpk] at HQ
        clear hpk
        generalize z k = x at c0 HQ
        go_wp2_with (go_at_call 57; (with_reducible refine (HQ.out _).mono ?_); rintro e w1 ⟨rfl, rfl⟩)
        go_ret
        exact ⟨⟨k, rfl, by omega, .inl ⟨by omega, anyZ_true HPK.out hlt⟩⟩, rfl⟩
      | false =>
        have HPK := Lib.hid hpk
        rw [hpk] at HQ
        clear hpk
        generalize z k = x at c0 HQ
        go_wp2_with (go_at_call 57; (with_reducible refine (HQ.out _).mono ?_); rintro e w1 ⟨rfl, rfl⟩)
        go_round
        case rel =>
          refine ⟨k + 1, by omega, by go_num, Lib.hid fun j hj => ?_⟩
          rcases Nat.lt_or_ge j k with h | h
          · exact HNO.out j h
          · obtain rfl : j = k := by omega
            exact HPK.out
        case measure => simp [intOf]; omega
    · obtain rfl : k = n := by omega
      go_wp2
      go_ret
      exact ⟨⟨-1, rfl, by omega, .inr ⟨rfl, anyZ_false HNO.out⟩⟩, rfl⟩
set_option maxRecDepth 100000 in
set_option maxHeartbeats 4000000 in
theorem has_rows1 (r : Option Addr) (n cap : Nat) (z : Nat → Int) (w : World) (hn : n ≤ 9223372036854775807) (hr : IntsAt w r n z) :
    Calls Tryd.prog 53 #[.slice r n cap, .func (.func 57) #[] #[]] w fun e w' => e = .returned (.bool (anyZ farB z n)) ∧ w = w' := by
  have HI := Lib.hid (index_rows1 r n cap z w hn hr)
  clear hr
  go_enter Tryd.func53, Tryd.ntmps53
  go_wp2_with (go_at_call 65; (with_reducible refine HI.out.mono ?_); rintro e w1 ⟨⟨i, rfl, hi1, hi⟩, rfl⟩; have HII := Lib.hid hi; clear hi)
  go_ret
  refine ⟨?_, rfl⟩
  rcases HII.out with ⟨h, h2⟩ | ⟨h, h2⟩
  · rw [h2, decide_eq_true h]; rfl
  · rw [h2, h]; rfl

def badB (x : Int) : Bool := decide (x < 0) || decide (65535 < x)
set_option maxRecDepth 100000 in
set_option maxHeartbeats 4000000 in
theorem valid1_walk (x : Int) (W : World) : Calls Tryd.prog 54 #[.int .i64 x] W fun e w' => e = .returned (.bool (badB x)) ∧ W = w' := by
  by_cases h1 : x < 0
  · have e : badB x = true := by unfold badB; rw [decide_eq_true h1]; rfl
    rw [e]; clear e
    go_enter Tryd.func54, Tryd.ntmps54
    go_wp2
    go_ret
    exact ⟨rfl, rfl⟩
  · by_cases h2 : 65535 < x
    · have e : badB x = true := by unfold badB; rw [decide_eq_true h2]; simp
      rw [e]; clear e
      go_enter Tryd.func54, Tryd.ntmps54
      go_wp2
      go_ret
      exact ⟨rfl, rfl⟩
    · have e : badB x = false := by unfold badB; rw [decide_eq_false h1, decide_eq_false h2]; rfl
      rw [e]; clear e
      go_enter Tryd.func54, Tryd.ntmps54
      go_wp2
      go_ret
      exact ⟨rfl, rfl⟩
set_option maxRecDepth 100000 in
set_option maxHeartbeats 4000000 in
theorem index_valid1 (r : Option Addr) (n cap : Nat) (z : Nat → Int) (w : World) (hn : n ≤ 9223372036854775807) (hr : IntsAt w r n z) :
    Calls Tryd.prog 65 #[.slice r n cap, .func (.func 54) #[] #[]] w fun e w' => IdxZ n badB z e ∧ w = w' := by
  have HR := Lib.hid hr
  have HP := Lib.hid valid1_walk
  clear hr
  go_enter Tryd.func65, Tryd.ntmps65
  go_wp2
  go_loop [8] (fun v8 => ∃ k : Nat, k ≤ n ∧ v8 = .int .i64 k ∧ Hid (∀ j, j < k → badB (z j) = false)) (fun i => n - (intOf i).toNat)
  case atStart => exact ⟨0, Nat.zero_le _, rfl, Lib.hid fun j h => absurd h (by omega)⟩
  case round =>
    obtain ⟨k, hk, rfl, HNO⟩ := hrel
    by_cases hlt : k < n
    · obtain ⟨b1, o1, rfl, hc⟩ := HR.out.resolve_left (by omega)
      have c0 := hc k hlt
      clear hc
      have HQ := Lib.hid (fun W => HP.out (z k) W)
      cases hpk : badB (z k) with
      | true =>
        have HPK := Lib.hid hpk
        rw [hpk] at HQ
        clear hpk
        generalize z k = x at c0 HQ
        go_wp2_with (go_at_call 54; (with_reducible refine (HQ.out _).mono ?_); rintro e w1 ⟨rfl, rfl⟩)
        go_ret
        exact ⟨⟨k, rfl, by omega, .inl ⟨by omega, anyZ_true HPK.out hlt⟩⟩, rfl⟩
      | false =>
        have HPK := Lib.hid hpk
        rw [hpk] at HQ
        clear hpk
        generalize z k = x at c0 HQ
        go_wp2_with (go_at_call 54; (with_reducible refine (HQ.out _).mono ?_); rintro e w1 ⟨rfl, rfl⟩)
        go_round
        case rel =>
          refine ⟨k + 1, by omega, by go_num, Lib.hid fun j hj => ?_⟩
          rcases Nat.lt_or_ge j k with h | h
          · exact HNO.out j h
          · obtain rfl : j = k := by omega
            exact HPK.out
        case measure => simp [intOf]; omega
    · obtain rfl : k = n := by omega
      go_wp2
      go_ret
      exact ⟨⟨-1, rfl, by omega, .inr ⟨rfl, anyZ_false HNO.out⟩⟩, rfl⟩
set_option maxRecDepth 100000 in
set_option maxHeartbeats 4000000 in
theorem has_valid1 (r : Option Addr) (n cap : Nat) (z : Nat → Int) (w : World) (hn : n ≤ 9223372036854775807) (hr : IntsAt w r n z) :
    Calls Tryd.prog 53 #[.slice r n cap, .func (.func 54) #[] #[]] w fun e w' => e = .returned (.bool (anyZ badB z n)) ∧ w = w' := by
  have HI := Lib.hid (index_valid1 r n cap z w hn hr)
  clear hr
  go_enter Tryd.func53, Tryd.ntmps53
  go_wp2_with (go_at_call 65; (with_reducible refine HI.out.mono ?_); rintro e w1 ⟨⟨i, rfl, hi1, hi⟩, rfl⟩; have HII := Lib.hid hi; clear hi)
  go_ret
  refine ⟨?_, rfl⟩
  rcases HII.out with ⟨h, h2⟩ | ⟨h, h2⟩
  · rw [h2, decide_eq_true h]; rfl
  · rw [h2, h]; rfl

end Go.Proofs.YtaakbajhbmbhcaaDoor
