/- Waves of rows of floats, one by one; there and back: the errors. Nothing of a program stands here. -/
import Derived.Test.YtaakbajhbmbhcaaDoorFf5
import Derived.Test.YtaakbajhbmbhcaaDoorFe23
set_option linter.unusedSimpArgs false
set_option linter.unusedVariables false
namespace Go.Fe
open Ieee Fl

/-! Waves one by one. -/
def upC (X : Nat → C2) (n : Nat) (back : Bool) (k : Nat) : Nat → C2
  | 0 => ⟨some 0, some 0⟩
  | j + 1 => addC (upC X n back k j) (mulC (X j) (wavC ((1296000000000 * (j * k % n) / n : Nat) : Int) back))
theorem slow_near (b : Bool) {p : Nat} (hp : p < 7) {M : Rat} (hM : ScM M) {X : Nat → C2} {z : Nat → Z} (hX : ∀ j, j < 2 ^ p → Fz (X j) (z j) ∧ Zn (z j) M) (k : Nat) :
    ∀ J, J ≤ 2 ^ p → ∃ y, Fz (upC X (2 ^ p) b k J) y ∧ Zn (zsub y (dft b (2 ^ (6 - p)) z J k)) ((J : Rat) * (70 * U * M))
  | 0, _ => by
    refine ⟨znil, ⟨0, 0, rfl, fn_zero, fn_zero, V_zero, V_zero⟩, ?_⟩
    have c0 : ((0 : Nat) : Rat) = 0 := rfl
    rw [c0]
    show Zn (zsub znil znil) _
    refine ⟨by grind, ?_⟩
    unfold zsub znil; simp <;> grind
  | J + 1, hJ => by
    have hU := U_pos
    have hU1 : U ≤ 1 / 1000000 := by decide +kernel
    obtain ⟨y, fy, ny⟩ := slow_near b hp hM hX k J (by omega)
    obtain ⟨M0, M1, M2⟩ := hM
    obtain ⟨fx, nx⟩ := hX J (by omega)
    have hn : 0 < 2 ^ p := Nat.two_pow_pos p
    have h64 : 2 ^ (6 - p) * 2 ^ p = 64 := by rw [← Nat.pow_add, show 6 - p + p = 6 by omega]
    have n64 : 2 ^ p ≤ 64 := by
      have : 2 ^ p ≤ 2 ^ 6 := Nat.pow_le_pow_right (by decide) (by omega)
      omega
    have hmod := Nat.mod_lt (J * k) hn
    have hi : 2 ^ (6 - p) * (J * k % 2 ^ p) < 64 := by
      have := Nat.mul_lt_mul_of_pos_left hmod (Nat.two_pow_pos (6 - p))
      omega
    have tt : tz b (2 ^ (6 - p) * (J * k % 2 ^ p)) = tz b (2 ^ (6 - p) * (J * k)) := tz_same b (by
      have h := Nat.div_add_mod (J * k) (2 ^ p)
      have e : 2 ^ (6 - p) * (J * k) = 64 * (J * k / 2 ^ p) + 2 ^ (6 - p) * (J * k % 2 ^ p) := by
        conv => lhs; rw [← h, Nat.mul_add, ← Nat.mul_assoc, h64]
      omega)
    obtain ⟨q, fq, nq⟩ := mul_tw fx (wav_is b hi) nx (tz_size b _) ⟨M0, M1, M2⟩ Rat.le_refl (by grind)
    have J0 := nat_nonneg J
    have J64 : (J : Rat) ≤ 63 := by have := rat_le (show J ≤ 63 by omega); exact this
    have UM := Rat.mul_nonneg (Rat.le_of_lt hU) M0
    have UM1 := Rat.mul_le_mul_of_nonneg_right hU1 M0
    have JUM := Rat.mul_le_mul_of_nonneg_right J64 UM
    have JM := Rat.mul_le_mul_of_nonneg_right J64 M0
    have JM0 := Rat.mul_nonneg J0 M0
    have sy := (near_size ny (dft_size b _ (fun j hj => (hX j (by omega)).2) M0 k)).le (s := 64 * M) (by grind)
    have sq := (near_size nq (nx.mul (tz_size b _))).le (s := 1001 / 1000 * M) (by grind)
    have sS := sy.add sq
    have big : 64 * M + 1001 / 1000 * M ≤ two 900 := by
      have k : 1000000 * two 600 ≤ two 900 := by decide +kernel
      have := two_pos 600
      grind
    obtain ⟨r, fr, nr⟩ := add_tw fy fq sS big
    refine ⟨r, ?_, ?_⟩
    · show Fz (addC _ (mulC _ (wavC ((1296000000000 * (J * k % 2 ^ p) / 2 ^ p : Nat) : Int) b))) r
      rw [ang_idx hp]
      exact fr
    · have t := (nr.add ny).add nq
      rw [tt] at t
      refine (t.eq ?_).le (by rw [nat_succ]; grind)
      show _ = zsub r (zadd (dft b (2 ^ (6 - p)) z J k) (zmul (z J) (tz b (2 ^ (6 - p) * (J * k)))))
      rw [← tt]
      unfold zadd zsub zmul; ext <;> simp <;> grind
/-! There and back. -/
theorem fn_tiny {r : Nat} (h : Fn r) (h1 : V r ≤ two (-1075)) (h2 : -two (-1075) ≤ V r) : V r = 0 := by
  obtain ⟨s, m, i, hr, hi⟩ := h
  have hv : V r = sg s * ((m : Rat) * two i) := by unfold V; rw [hr]; unfold Vd; grind
  rcases Nat.eq_zero_or_pos m with h0 | h0
  · subst h0
    have c0 : ((0 : Nat) : Rat) = 0 := rfl
    rw [hv, c0]; grind
  · exfalso
    have k1 : (1 : Rat) ≤ (m : Rat) := rat_le h0
    have k2 := two_le hi
    have k3 := mul_le_both (show (0 : Rat) ≤ 1 by decide) (Rat.le_of_lt (two_pos (-1074))) k1 k2
    have k4 : two (-1075) < two (-1074) := by decide +kernel
    have k5 := two_pos (-1075)
    rcases sg_cases s with h | h <;> rw [hv, h] at h1 h2 <;> grind
def shrC (n : Nat) (x : C2) : C2 := ⟨Fl.fdiv x.re (Tr.ofI (n : Int)), Fl.fdiv x.im (Tr.ofI (n : Int))⟩
/-- A float by n: near what it is near by n. -/
theorem shr_part {x n : Nat} {m M e : Rat} (hx : Fn x) (hn0 : 0 < n) (hn : n ≤ 64) (hM : ScM M) (hB : Nr (V x) ((n : Rat) * m) ((n : Rat) * e)) (hm : m ≤ M) (hm' : -M ≤ m) (he : e ≤ M) (e0 : 0 ≤ e) :
    ∃ r, Fl.fdiv (some x) (Tr.ofI (n : Int)) = some r ∧ Fn r ∧ Nr (V r) m (e + 5 * U * M) := by
  obtain ⟨M0, M1, M2⟩ := hM
  have hU := U_pos
  obtain ⟨w, hw, fw, vw⟩ := ofI_val (n := (n : Int)) (by omega)
  have vw' : V w = (n : Rat) := vw
  have n1 : (1 : Rat) ≤ (n : Rat) := rat_le hn0
  have n64 : (n : Rat) ≤ 64 := by have := rat_le hn; exact this
  obtain ⟨b1, b2⟩ := hB
  have nm := Rat.mul_le_mul_of_nonneg_right n64 M0
  have k1 : ab (V x) ≤ two 800 * V w := by
    rw [vw']
    have q1 : V x ≤ 2 * ((n : Rat) * M) := by
      have g1 := Rat.mul_le_mul_of_nonneg_left hm (show 0 ≤ (n : Rat) by grind)
      have g2 := Rat.mul_le_mul_of_nonneg_left he (show 0 ≤ (n : Rat) by grind)
      grind
    have q2 : -V x ≤ 2 * ((n : Rat) * M) := by
      have g1 := Rat.mul_le_mul_of_nonneg_left hm' (show 0 ≤ (n : Rat) by grind)
      have g2 := Rat.mul_le_mul_of_nonneg_left he (show 0 ≤ (n : Rat) by grind)
      grind
    have q3 : ab (V x) ≤ 2 * ((n : Rat) * M) := by unfold ab; split <;> grind
    have g6 : 1000 * two 600 ≤ two 800 := by decide +kernel
    have g8 := two_pos 800
    have q4 := Rat.mul_le_mul_of_nonneg_left n1 (Rat.le_of_lt g8)
    grind
  rw [hw]
  obtain ⟨r, hr, fr, r1, r2⟩ := part_of hx fw (by rw [vw']; grind) k1
  refine ⟨r, hr, fr, ?_⟩
  obtain ⟨u, hu⟩ : ∃ u, V x / V w = u := ⟨_, rfl⟩
  rw [hu] at r1 r2
  have hux : V x = u * (n : Rat) := by rw [← hu, vw']; exact (Rat.div_mul_cancel (by grind)).symm
  rw [hux] at b1 b2
  have u1 : u - m ≤ e := by
    refine Rat.not_lt.mp fun h => ?_
    have := Rat.mul_pos (show 0 < u - m - e by grind) (show 0 < (n : Rat) by grind)
    grind
  have u2 : m - u ≤ e := by
    refine Rat.not_lt.mp fun h => ?_
    have := Rat.mul_pos (show 0 < m - u - e by grind) (show 0 < (n : Rat) by grind)
    grind
  have ua : ab u ≤ 2 * M := by unfold ab; split <;> grind
  have k2 := Rat.mul_le_mul_of_nonneg_left ua (Rat.le_of_lt hU)
  rcases M2 with h0 | h0
  · have z : u = 0 := by rw [h0] at hm hm' he; grind
    rw [z] at r1 r2 u1 u2
    have ab0 : ab 0 = 0 := by unfold ab; simp
    rw [ab0] at r1 r2
    have vr := fn_tiny fr (by grind) (by grind)
    rw [vr, h0]
    exact ⟨by grind, by grind⟩
  · have tiny : two (-1075) ≤ U * M := by
      have g := Rat.mul_le_mul_of_nonneg_left h0 (Rat.le_of_lt hU)
      have g2 : two (-1075) ≤ U * two (-700) := by decide +kernel
      grind
    exact ⟨by grind, by grind⟩
end Go.Fe
