/- The document's division, bit by bit; rounded down. -/
import Derived.Test.YtlfpfeidaohjmaaDoorEb3
set_option linter.unusedSimpArgs false
set_option linter.unusedVariables false
namespace Go.Proofs.YtlfpfeidaohjmaaDoor
open Go.RowKit Go.Grow Go.Bg

theorem pow_big {x : Nat} (h : x < 1000000 ^ 50) : x < 1000000 ^ 100 := Nat.lt_of_lt_of_le h (Nat.pow_le_pow_right (by decide) (by decide))
theorem mul_big {x y : Nat} (hx : x ≤ 9223372036854775807) (hy : y ≤ 9223372036854775807) : x * y < 1000000 ^ 100 := by
  have h : x * y ≤ 9223372036854775807 * 9223372036854775807 := Nat.mul_le_mul hx hy
  have h2 : 9223372036854775807 * 9223372036854775807 < 1000000 ^ 10 := by decide
  exact Nat.lt_of_lt_of_le (Nat.lt_of_le_of_lt h h2) (Nat.pow_le_pow_right (by decide) (by decide))
theorem cmp_le (a b : Nat) : cmpN a b ≤ 0 ↔ a ≤ b := by
  unfold cmpN
  split
  · omega
  · split <;> omega
theorem cmp_ne (a b : Nat) : cmpN a b = 0 ↔ a = b := by
  unfold cmpN
  split
  · omega
  · split <;> omega
def DivRel (P c : Nat) (W : World) (v6 v8 : Value) (wr : World) : Prop :=
  ∃ q b : Nat, v6 = .int .i64 q ∧ v8 = .int .i64 b ∧ Quo P c q b ∧ Below W.heap.size W wr
set_option maxRecDepth 100000 in
set_option maxHeartbeats 16000000 in
theorem divided_walk (r : Option Addr) (cap P c : Nat) (w : World) (hP : P < 1000000 ^ 100) (hc : 0 < c) (hc2 : c ≤ 9223372036854775807) (hq : P < 4611686018427387904 * c) (h : DgAt w r (dig P)) :
    Calls Tryd.prog 134 #[.slice r (dig P).length cap, .int .i64 c] w fun e w' => e = .returned (.tuple #[.int .i64 (P / c : Nat), .bool (decide (P % c ≠ 0))]) ∧ Below w.heap.size w w' := by
  have B1 := Lib.hid (fun X => bigOf_walk c hc2 X)
  have HA := Lib.hid h
  have HP := Lib.hid hP
  have HC := Lib.hid hc
  have QF := Lib.hid (Quo.first hq)
  have NQ := Lib.hid (show c * (P / c) = P ↔ P % c = 0 by have := Nat.div_add_mod P c; omega)
  clear h hP hq hc
  go_enter Tryd.func134, Tryd.ntmps134
  go_wp2_with (go_at_call 140; (with_reducible refine (B1.out _).mono ?_); rintro e w1 ⟨r1, cc1, rfl, hd, hb⟩; have D1 := Lib.hid hd; have G1 := Lib.hid hb; clear hd hb B1)
  go_loopw [6, 8] (fun v6 v8 wr => DivRel P c w1 v6 v8 wr) (fun _ v _ => (intOf v).toNat)
  case atStart => exact ⟨0, 2305843009213693952, rfl, rfl, QF.out, Below.refl _ _⟩
  case round =>
    obtain ⟨q, b, rfl, rfl, hQ, hg⟩ := hrel
    have G := Lib.hid hg
    have Q := Lib.hid hQ
    obtain ⟨bq1, bq2, bq3⟩ := hQ.bound
    clear hg hQ
    rcases Nat.eq_zero_or_pos b with h0 | h0
    · subst h0
      have QE := Lib.hid (Q.out.done HC.out)
      have BO := Lib.hid (fun X => bigOf_walk q (by omega) X)
      have MU := Lib.hid (fun X r1' r2' k1 k2 h1 h2 => dgMul_walk r1' r2' c q k1 k2 X (big_pow hc2) (big_pow (by omega)) h1 h2)
      have CM := Lib.hid (fun X r1' k1 h1 h2 => dgCmp_walk r1' r (c * q) P k1 cap X (mul_big hc2 (by omega)) HP.out h1 h2)
      have CN := cmp_ne (c * q) P
      have NQ2 := NQ.out
      rw [← QE.out] at NQ2
      generalize cmpN (c * q) P = z at CM CN
      by_cases hz : z = 0
      · subst hz
        have hm : P % c = 0 := NQ2.1 (CN.1 rfl)
        clear CN NQ2
        go_wp2_with (first
          | (go_at_call 140; (with_reducible refine (BO.out _).mono ?_); rintro e w2 ⟨r2, c2, rfl, hd, hb⟩; have D2 := Lib.hid hd; have D4 := Lib.hid ((D1.out.below G.out).below hb); replace G := Lib.hid (grow_trans G.out hb); clear hd hb BO)
          | (go_at_call 139; (with_reducible refine (MU.out _ _ _ _ _ D4.out D2.out).mono ?_); rintro e w3 ⟨r3, c3, rfl, hd, hb⟩; have D3 := Lib.hid hd; replace G := Lib.hid (grow_trans G.out hb); clear hd hb MU)
          | (go_at_call 115; (with_reducible refine (CM.out _ _ _ D3.out (HA.out.below (grow_trans G1.out G.out))).mono ?_); rintro e w4 ⟨rfl, hb⟩; replace G := Lib.hid (grow_trans G.out hb); clear hb CM))
        go_ret2
        exact ⟨by rw [← QE.out, hm]; simp, grow_trans G1.out G.out⟩
      · have hm : P % c ≠ 0 := fun h => hz (CN.2 (NQ2.2 h))
        clear CN NQ2
        go_wp2_with (first
          | (go_at_call 140; (with_reducible refine (BO.out _).mono ?_); rintro e w2 ⟨r2, c2, rfl, hd, hb⟩; have D2 := Lib.hid hd; have D4 := Lib.hid ((D1.out.below G.out).below hb); replace G := Lib.hid (grow_trans G.out hb); clear hd hb BO)
          | (go_at_call 139; (with_reducible refine (MU.out _ _ _ _ _ D4.out D2.out).mono ?_); rintro e w3 ⟨r3, c3, rfl, hd, hb⟩; have D3 := Lib.hid hd; replace G := Lib.hid (grow_trans G.out hb); clear hd hb MU)
          | (go_at_call 115; (with_reducible refine (CM.out _ _ _ D3.out (HA.out.below (grow_trans G1.out G.out))).mono ?_); rintro e w4 ⟨rfl, hb⟩; replace G := Lib.hid (grow_trans G.out hb); clear hb CM))
        go_ret2
        exact ⟨by rw [← QE.out]; simp [hm, hz], grow_trans G1.out G.out⟩
    · have d0 : decide (0 < b) = true := decide_eq_true h0
      have NX := Lib.hid (Q.out.next h0)
      have BO := Lib.hid (fun X => show Calls Tryd.prog 140 #[.int .i64 ((q : Int) + (b : Int))] X (DgPost (dig (q + b)) X) from by
        have := bigOf_walk (q + b) (by omega) X
        rwa [Int.natCast_add] at this)
      have MU := Lib.hid (fun X r1' r2' k1 k2 h1 h2 => dgMul_walk r1' r2' c (q + b) k1 k2 X (big_pow hc2) (big_pow (by omega)) h1 h2)
      have CM := Lib.hid (fun X r1' k1 h1 h2 => dgCmp_walk r1' r (c * (q + b)) P k1 cap X (mul_big hc2 (by omega)) HP.out h1 h2)
      have CL := cmp_le (c * (q + b)) P
      rw [Nat.mul_comm c] at CL
      generalize hz : cmpN (c * (q + b)) P = z at CM
      rw [Nat.mul_comm c] at hz
      rw [hz] at CL
      clear hz
      by_cases hle : (q + b) * c ≤ P
      · have hz : z ≤ 0 := CL.2 hle
        rw [if_pos hle] at NX
        clear CL
        go_wp2_with (first
          | (go_at_call 140; (with_reducible refine (BO.out _).mono ?_); rintro e w2 ⟨r2, c2, rfl, hd, hb⟩; have D2 := Lib.hid hd; have D3 := Lib.hid ((D1.out.below G.out).below hb); replace G := Lib.hid (grow_trans G.out hb); clear hd hb BO)
          | (go_at_call 139; (with_reducible refine (MU.out _ _ _ _ _ D3.out D2.out).mono ?_); rintro e w3 ⟨r3, c3, rfl, hd, hb⟩; have D4 := Lib.hid hd; replace G := Lib.hid (grow_trans G.out hb); clear hd hb MU)
          | (go_at_call 115; (with_reducible refine (CM.out _ _ _ D4.out (HA.out.below (grow_trans G1.out G.out))).mono ?_); rintro e w4 ⟨rfl, hb⟩; replace G := Lib.hid (grow_trans G.out hb); clear hb CM))
        go_roundw
        case rel => exact ⟨q + b, b / 2, by go_num, by go_num, NX.out, G.out⟩
        case measure => simp [intOf]; omega
      · have hz : ¬ z ≤ 0 := fun h => hle (CL.1 h)
        rw [if_neg hle] at NX
        clear CL
        go_wp2_with (first
          | (go_at_call 140; (with_reducible refine (BO.out _).mono ?_); rintro e w2 ⟨r2, c2, rfl, hd, hb⟩; have D2 := Lib.hid hd; have D3 := Lib.hid ((D1.out.below G.out).below hb); replace G := Lib.hid (grow_trans G.out hb); clear hd hb BO)
          | (go_at_call 139; (with_reducible refine (MU.out _ _ _ _ _ D3.out D2.out).mono ?_); rintro e w3 ⟨r3, c3, rfl, hd, hb⟩; have D4 := Lib.hid hd; replace G := Lib.hid (grow_trans G.out hb); clear hd hb MU)
          | (go_at_call 115; (with_reducible refine (CM.out _ _ _ D4.out (HA.out.below (grow_trans G1.out G.out))).mono ?_); rintro e w4 ⟨rfl, hb⟩; replace G := Lib.hid (grow_trans G.out hb); clear hb CM))
        go_roundw
        case rel => exact ⟨q, b / 2, rfl, by go_num, NX.out, G.out⟩
        case measure => simp [intOf]; omega
/-- Rounded down, by its sign and its size. -/
theorem floor_sgn (a b : Int) {c : Nat} (hc : 0 < c) : a * b / (c : Int) = if sgn a b = 1 then ((a.natAbs * b.natAbs / c : Nat) : Int) else if (a.natAbs * b.natAbs) % c = 0 then -((a.natAbs * b.natAbs / c : Nat) : Int) else -((a.natAbs * b.natAbs / c : Nat) : Int) - 1 := by
  rw [prod_sgn a b]
  by_cases h : sgn a b = 1
  · rw [if_pos h, h, Int.one_mul, floor_pos]
  · have h2 : sgn a b = -1 := by
      unfold sgn at h ⊢
      split at h
      · exact absurd rfl h
      · rename_i h3
        rw [if_neg h3]
    rw [if_neg h, h2, Int.neg_mul, Int.one_mul, floor_neg hc]
set_option maxRecDepth 100000 in
set_option maxHeartbeats 8000000 in
theorem floorOf_walk (a b : Int) (c : Nat) (w : World) (ha : a.natAbs ≤ 9223372036854775807) (hb : b.natAbs ≤ 9223372036854775807) (hc : 0 < c) (hc2 : c ≤ 9223372036854775807) (hq : a.natAbs * b.natAbs < 4611686018427387904 * c) :
    Calls Tryd.prog 106 #[.int .i64 a, .int .i64 b, .int .i64 c] w fun e w' => e = .returned (.int .i64 (a * b / (c : Int))) ∧ Below w.heap.size w w' := by
  have PW := Lib.hid (product_walk a b w (by omega) (by omega))
  have DW := Lib.hid (fun X r k h => divided_walk r k (a.natAbs * b.natAbs) c X (mul_big ha hb) hc hc2 hq h)
  have FE := Lib.hid (floor_sgn a b hc)
  have BQ : a.natAbs * b.natAbs / c < 4611686018427387904 := (Nat.div_lt_iff_lt_mul hc).2 hq
  generalize a * b / (c : Int) = F at FE ⊢
  unfold ProdPost at PW
  have hs1 : sgn a b = 1 ∨ sgn a b = -1 := by unfold sgn; split <;> simp
  generalize sgn a b = s at PW FE hs1
  generalize a.natAbs * b.natAbs = P at PW DW FE BQ
  obtain ⟨Q, hQ⟩ : ∃ Q, P / c = Q := ⟨_, rfl⟩
  rw [hQ] at DW FE BQ
  clear ha hb hc hc2 hq hQ
  by_cases hm : P % c = 0
  all_goals
    simp only [hm, ne_eq, not_true_eq_false, not_false_eq_true, decide_true, decide_false, if_true, if_false] at DW FE
    rcases hs1 with rfl | rfl
    all_goals
      simp only [if_true, if_false, reduceCtorEq, show ¬ ((-1 : Int) = 1) by decide] at FE
      go_enter Tryd.func106, Tryd.ntmps106
      go_wp2_with (first
        | (go_at_call 114; (with_reducible refine PW.out.mono ?_); rintro e w1 ⟨r1, c1, rfl, hd, hb⟩; have D1 := Lib.hid hd; have G := Lib.hid hb; clear hd hb PW)
        | (go_at_call 134; (with_reducible refine (DW.out _ _ _ D1.out).mono ?_); rintro e w2 ⟨rfl, hb⟩; replace G := Lib.hid (grow_trans G.out hb); clear hb DW))
      go_ret
      exact ⟨by rw [FE.out]; rfl, G.out⟩
end Go.Proofs.YtlfpfeidaohjmaaDoor
