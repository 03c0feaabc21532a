/- Floats as rationals: what a word stands for, and how near the written word is. Nothing of a program stands here. -/
import Derived.Test.YtaakbajhbmbhcaaDoorTr2
set_option linter.unusedSimpArgs false
set_option linter.unusedVariables false
namespace Go.Fe
open Ieee

def two (e : Int) : Rat := (2 : Rat) ^ e
theorem two_add (a b : Int) : two (a + b) = two a * two b := Rat.zpow_add (by decide) a b
theorem two_zero : two 0 = 1 := by unfold two; rw [Rat.zpow_zero]
theorem two_one : two 1 = 2 := by unfold two; rfl
theorem two_natCast : ∀ n : Nat, two (n : Int) = ((2 ^ n : Nat) : Rat)
  | 0 => by rw [Int.natCast_zero, two_zero]; rfl
  | n + 1 => by
    rw [Int.natCast_add, two_add, two_natCast n, Nat.pow_succ, Rat.natCast_mul, Int.natCast_one, two_one]
    rfl
theorem two_nat_pos (n : Nat) : (0 : Rat) < ((2 ^ n : Nat) : Rat) := by
  have : (0 : Nat) < 2 ^ n := Nat.two_pow_pos n
  exact_mod_cast this
theorem two_pos (e : Int) : 0 < two e := by
  rcases Int.le_total 0 e with h | h
  · obtain ⟨n, rfl⟩ := Int.eq_ofNat_of_zero_le h
    rw [two_natCast]; exact two_nat_pos n
  · obtain ⟨n, hn⟩ := Int.eq_ofNat_of_zero_le (show 0 ≤ -e by omega)
    have h1 : two e * two n = 1 := by rw [← two_add, show e + (n : Int) = 0 by omega, two_zero]
    have h2 : 0 < two n := by rw [two_natCast]; exact two_nat_pos n
    by_cases h3 : 0 < two e
    · exact h3
    · have h4 : two e * two n ≤ 0 * two n := Rat.mul_le_mul_of_nonneg_right (Rat.not_lt.1 h3) (Rat.le_of_lt h2)
      rw [h1, Rat.zero_mul] at h4
      exact absurd h4 (by decide)
theorem two_le {a b : Int} (h : a ≤ b) : two a ≤ two b := by
  obtain ⟨n, hn⟩ := Int.eq_ofNat_of_zero_le (show 0 ≤ b - a by omega)
  rw [show b = a + (n : Int) by omega, two_add, two_natCast]
  have h1 : (1 : Rat) ≤ ((2 ^ n : Nat) : Rat) := by
    have : 1 ≤ 2 ^ n := Nat.one_le_two_pow
    exact_mod_cast this
  have h2 := Rat.mul_le_mul_of_nonneg_left h1 (Rat.le_of_lt (two_pos a))
  rw [Rat.mul_one] at h2
  exact h2
theorem two_lt_iff {a b : Int} (h : two a ≤ two b) : a ≤ b := by
  by_cases h1 : a ≤ b
  · exact h1
  · have h2 := two_le (show b + 1 ≤ a by omega)
    rw [two_add, two_one] at h2
    have h3 := two_pos b
    grind
def sg (s : Bool) : Rat := if s then -1 else 1
def Vd : Datum → Rat
  | .number s m e => sg s * (m : Rat) * two e
  | _ => 0
/-- What a word stands for; nought if it is no number. -/
def V (w : Nat) : Rat := Vd (double.read w)
/-- A finite word. -/
def Fn (w : Nat) : Prop := ∃ s m e, double.read w = .number s m e ∧ -1074 ≤ e
/-- How a whole number is cut. -/
theorem cut_even (neg : Bool) (n drop : Nat) : 2 * (Toward.even.cut neg n drop * 2 ^ drop) ≤ 2 * n + 2 ^ drop ∧ 2 * n ≤ 2 * (Toward.even.cut neg n drop * 2 ^ drop) + 2 ^ drop := by
  unfold Toward.cut
  simp only
  rcases Nat.le_total drop (n.log2 + 2) with h | h
  · rw [Nat.min_eq_left h, Nat.shiftLeft_eq, Nat.one_mul]
    have h1 := Nat.div_add_mod n (2 ^ drop)
    have h2 := Nat.mod_lt n (Nat.two_pow_pos drop)
    generalize 2 ^ drop = g at h1 h2 ⊢
    generalize n / g = q at h1 ⊢
    generalize n % g = r at h1 h2 ⊢
    rw [Nat.mul_comm] at h1
    by_cases h3 : (decide (g < 2 * r) || (g == 2 * r && q % 2 == 1)) = true
    · rw [h3]
      simp only [Bool.toNat_true, Nat.add_mul, Nat.one_mul]
      simp at h3
      omega
    · have h4 : (decide (g < 2 * r) || (g == 2 * r && q % 2 == 1)) = false := by simpa using h3
      rw [h4]
      simp only [Bool.toNat_false, Nat.add_zero]
      simp at h4
      omega
  · rw [Nat.min_eq_right h, Nat.shiftLeft_eq, Nat.one_mul]
    have h1 : n < 2 ^ (n.log2 + 1) := Nat.lt_log2_self
    have h2 : 2 ^ (n.log2 + 2) = 2 * 2 ^ (n.log2 + 1) := by rw [Nat.pow_succ]; omega
    have h3 : 2 ^ (n.log2 + 2) ≤ 2 ^ drop := Nat.pow_le_pow_right (by decide) h
    have h4 : n / 2 ^ (n.log2 + 2) = 0 := Nat.div_eq_of_lt (by omega)
    have h5 : n % 2 ^ (n.log2 + 2) = n := Nat.mod_eq_of_lt (by omega)
    rw [h4, h5]
    have h6 : (decide (2 ^ (n.log2 + 2) < 2 * n) || (2 ^ (n.log2 + 2) == 2 * n && 0 % 2 == 1)) = false := by
      simp
      omega
    rw [h6]
    simp only [Bool.toNat_false, Nat.add_zero, Nat.zero_mul]
    omega
theorem dbl : double.fractionBits = 52 ∧ double.leastPlace = -1074 ∧ double.binade = 4503599627370496 ∧ double.infRung = 9218868437227405312 ∧ double.signWeight = 9223372036854775808 := by decide
/-- A word of a rung that is finite. -/
theorem read_word (neg : Bool) (R : Nat) (h : R < 9218868437227405312) : double.read (double.word neg R) = if R < 4503599627370496 then .number neg R (-1074) else .number neg (4503599627370496 + R % 4503599627370496) (-1074 + (R / 4503599627370496 - 1 : Nat)) := by
  obtain ⟨_, e1, e2, e3, e4⟩ := dbl
  have h1 : double.word neg R / 9223372036854775808 % 2 = if neg then 1 else 0 := by
    unfold Format.word
    rw [e4]
    cases neg
    · simp; omega
    · simp; omega
  have h2 : double.word neg R % 9223372036854775808 = R := by
    unfold Format.word
    rw [e4]
    cases neg
    · simp; omega
    · simp; omega
  unfold Format.read
  simp only
  rw [e1, e2, e3, e4, h1, h2]
  have h3 : ((if neg = true then 1 else 0) == (1 : Nat)) = neg := by cases neg <;> rfl
  rw [h3]
  by_cases h4 : R < 4503599627370496
  · rw [if_pos h4, if_pos h4]
  · rw [if_neg h4, if_neg h4, if_pos h]
/-- The word of a rung's parts. -/
theorem read_parts (neg : Bool) (L kept : Nat) (h1 : kept ≤ 9007199254740992) (h2 : L ≠ 0 → 4503599627370496 ≤ kept) (h3 : L ≤ 2040) :
    Fn (double.word neg (L * 4503599627370496 + kept)) ∧ V (double.word neg (L * 4503599627370496 + kept)) = sg neg * (kept : Rat) * two ((L : Int) - 1074) := by
  have h4 : L * 4503599627370496 + kept < 9218868437227405312 := by omega
  have hr := read_word neg _ h4
  unfold Fn V
  rw [hr]
  by_cases h5 : L * 4503599627370496 + kept < 4503599627370496
  · rw [if_pos h5]
    have : L = 0 := by
      rcases Nat.eq_zero_or_pos L with h | h
      · exact h
      · have := h2 (by omega); omega
    subst this
    refine ⟨⟨_, _, _, rfl, by omega⟩, ?_⟩
    unfold Vd
    simp
  · rw [if_neg h5]
    refine ⟨⟨_, _, _, rfl, by omega⟩, ?_⟩
    unfold Vd
    simp only
    by_cases h6 : kept = 9007199254740992
    · subst h6
      rw [show (L * 4503599627370496 + 9007199254740992) % 4503599627370496 = 0 by omega, show (L * 4503599627370496 + 9007199254740992) / 4503599627370496 - 1 = L + 1 by omega]
      rw [show (-1074 : Int) + ((L + 1 : Nat) : Int) = ((L : Int) - 1074) + 1 by omega, two_add, two_one]
      generalize two ((L : Int) - 1074) = t
      have : ((9007199254740992 : Nat) : Rat) = ((4503599627370496 + 0 : Nat) : Rat) * 2 := by
        rw [show (9007199254740992 : Nat) = (4503599627370496 + 0) * 2 by decide, Rat.natCast_mul]; rfl
      rw [this]
      grind
    · by_cases h7 : kept < 4503599627370496
      · have : L = 0 := by
          rcases Nat.eq_zero_or_pos L with h | h
          · exact h
          · have := h2 (by omega); omega
        omega
      · rw [show 4503599627370496 + (L * 4503599627370496 + kept) % 4503599627370496 = kept by omega, show (-1074 : Int) + (((L * 4503599627370496 + kept) / 4503599627370496 - 1 : Nat) : Int) = (L : Int) - 1074 by omega]
theorem two_nat_mul (n : Nat) (e : Int) : ((2 ^ n : Nat) : Rat) * two e = two (e + n) := by
  rw [← two_natCast, ← two_add, Int.add_comm]
theorem rat_le {a b : Nat} (h : a ≤ b) : (a : Rat) ≤ (b : Rat) := by exact_mod_cast h
theorem nat_nonneg (n : Nat) : (0 : Rat) ≤ (n : Rat) := rat_le (Nat.zero_le n)
/-- What is written for a number. -/
theorem nearest_main (neg : Bool) (mag : Nat) (place : Int) (h0 : 0 < mag) (hov : place + mag.log2 ≤ 900) :
    ∃ (last : Int) (kept : Nat), (last = place + mag.log2 - 52 ∨ last = -1074) ∧ Fn (double.nearest neg mag place) ∧ V (double.nearest neg mag place) = sg neg * (kept : Rat) * two last ∧
      (kept : Rat) * two last ≤ (mag : Rat) * two place + two (last - 1) ∧ (mag : Rat) * two place ≤ (kept : Rat) * two last + two (last - 1) ∧ (last ≤ place → (kept : Rat) * two last = (mag : Rat) * two place) := by
  obtain ⟨e0, e1, e2, e3, e4⟩ := dbl
  unfold Format.nearest
  rw [if_neg (by omega)]
  simp only
  rw [e0, e1, e2, e3]
  obtain ⟨last, hlast⟩ : ∃ last : Int, max (place + (mag.log2 : Int) - (52 : Nat)) (-1074) = last := ⟨_, rfl⟩
  rw [hlast]
  have hl1 : last = place + mag.log2 - 52 ∨ last = -1074 := by omega
  have hl2 : -1074 ≤ last ∧ place + mag.log2 - 52 ≤ last := by omega
  obtain ⟨n, hn⟩ : ∃ n, mag <<< (place - last).toNat = n := ⟨_, rfl⟩
  obtain ⟨drop, hdrop⟩ : ∃ d, (last - place).toNat = d := ⟨_, rfl⟩
  rw [hn, hdrop]
  have hc := cut_even neg n drop
  obtain ⟨kept, hk⟩ : ∃ k, Toward.even.cut neg n drop = k := ⟨_, rfl⟩
  rw [hk] at hc ⊢
  have lo : 2 ^ mag.log2 ≤ mag := Nat.log2_self_le (by omega)
  have hi : mag < 2 ^ (mag.log2 + 1) := Nat.lt_log2_self
  rw [Nat.shiftLeft_eq] at hn
  have hnhi : n < 9007199254740992 * 2 ^ drop := by
    rcases Int.le_total last place with h | h
    · have hd : drop = 0 := by omega
      obtain ⟨s, hs⟩ : ∃ s, (place - last).toNat = s := ⟨_, rfl⟩
      rw [hs] at hn
      rw [hd, Nat.pow_zero, Nat.mul_one, ← hn]
      have h2 : mag * 2 ^ s < 2 ^ (mag.log2 + 1) * 2 ^ s := Nat.mul_lt_mul_of_pos_right hi (Nat.two_pow_pos s)
      rw [← Nat.pow_add] at h2
      have h3 : 2 ^ (mag.log2 + 1 + s) ≤ 2 ^ 53 := Nat.pow_le_pow_right (by decide) (by omega)
      have h4 : (2 : Nat) ^ 53 = 9007199254740992 := by decide
      omega
    · have hs : (place - last).toNat = 0 := by omega
      rw [hs, Nat.pow_zero, Nat.mul_one] at hn
      have h3 : 2 ^ (mag.log2 + 1) ≤ 2 ^ (53 + drop) := Nat.pow_le_pow_right (by decide) (by omega)
      rw [Nat.pow_add 2 53 drop, show (2 : Nat) ^ 53 = 9007199254740992 by decide] at h3
      omega
  have hnlo : last ≠ -1074 → 4503599627370496 * 2 ^ drop ≤ n := fun hne => by
    have hl : last = place + mag.log2 - 52 := by omega
    rcases Int.le_total last place with h | h
    · have hd : drop = 0 := by omega
      obtain ⟨s, hs⟩ : ∃ s, (place - last).toNat = s := ⟨_, rfl⟩
      rw [hs] at hn
      rw [hd, Nat.pow_zero, Nat.mul_one, ← hn]
      have h2 : 2 ^ mag.log2 * 2 ^ s ≤ mag * 2 ^ s := Nat.mul_le_mul_right _ lo
      rw [← Nat.pow_add, show mag.log2 + s = 52 by omega, show (2 : Nat) ^ 52 = 4503599627370496 by decide] at h2
      exact h2
    · have hs : (place - last).toNat = 0 := by omega
      rw [hs, Nat.pow_zero, Nat.mul_one] at hn
      have h3 : 2 ^ (52 + drop) ≤ 2 ^ mag.log2 := Nat.pow_le_pow_right (by decide) (by omega)
      rw [Nat.pow_add 2 52 drop, show (2 : Nat) ^ 52 = 4503599627370496 by decide] at h3
      omega
  have hpd := Nat.two_pow_pos drop
  have hk1 : kept ≤ 9007199254740992 := by
    rcases Nat.lt_or_ge 9007199254740992 kept with h | h
    · have h2 : 9007199254740993 * 2 ^ drop ≤ kept * 2 ^ drop := Nat.mul_le_mul_right _ h
      omega
    · exact h
  have hk2 : last ≠ -1074 → 4503599627370496 ≤ kept := fun hne => by
    have h1 := hnlo hne
    rcases Nat.lt_or_ge kept 4503599627370496 with h | h
    · have h2 : kept * 2 ^ drop ≤ 4503599627370495 * 2 ^ drop := Nat.mul_le_mul_right _ (by omega)
      omega
    · exact h
  obtain ⟨L, hL⟩ : ∃ L, (last - -1074).toNat = L := ⟨_, rfl⟩
  rw [hL]
  have q1 : L ≤ 2040 := by clear hc hnhi hnlo hpd hk1 hk2 hn lo hi hlast hk hdrop; omega
  have q2 : L ≠ 0 → last ≠ -1074 := by clear hc hnhi hnlo hpd hk1 hk2 hn lo hi hlast hk hdrop; omega
  have q3 : (L : Int) - 1074 = last := by clear hc hnhi hnlo hpd hk1 hk2 hn lo hi hlast hk hdrop q2; omega
  have hmin : min (L * 4503599627370496 + kept) 9218868437227405312 = L * 4503599627370496 + kept := Nat.min_eq_left (by clear hc hnhi hnlo hpd hk2 hn lo hi hlast hk hdrop q2; omega)
  rw [hmin]
  obtain ⟨r1, r2⟩ := read_parts neg L kept hk1 (fun h => hk2 (q2 h)) q1
  rw [q3] at r2
  clear hmin hlast
  have hval : (n : Rat) * two (last - drop) = (mag : Rat) * two place := by
    rcases Int.le_total last place with h | h
    · have hd : drop = 0 := by omega
      obtain ⟨s, hs⟩ : ∃ s, (place - last).toNat = s := ⟨_, rfl⟩
      rw [hs] at hn
      rw [← hn, hd, Rat.natCast_mul, Rat.mul_assoc, two_nat_mul, show last - ((0 : Nat) : Int) + (s : Int) = place by omega]
    · have hs : (place - last).toNat = 0 := by omega
      rw [hs, Nat.pow_zero, Nat.mul_one] at hn
      rw [← hn, show last - (drop : Int) = place by omega]
  have hpos := two_pos (last - drop)
  have h2d : ((2 ^ drop : Nat) : Rat) * two (last - drop) = two last := by rw [two_nat_mul, show last - (drop : Int) + drop = last by omega]
  have hhalf : two last = 2 * two (last - 1) := by rw [show last = (last - 1) + 1 by omega, two_add, two_one, show last - 1 + 1 - 1 = last - 1 by omega, Rat.mul_comm]
  have hkd : ((kept * 2 ^ drop : Nat) : Rat) * two (last - drop) = (kept : Rat) * two last := by rw [Rat.natCast_mul, Rat.mul_assoc, h2d]
  refine ⟨last, kept, hl1, r1, r2, ?_, ?_, ?_⟩
  · have h1 := Rat.mul_le_mul_of_nonneg_right (rat_le hc.1) (Rat.le_of_lt hpos)
    clear r1 r2 hc hn hk hdrop hnhi hnlo hk2 lo hi hpd hl1 hl2 e0 e1 e2 e3 e4 q1 q2 q3 hov
    simp only [Rat.natCast_mul, Rat.natCast_add] at h1 hkd
    generalize ((2 ^ drop : Nat) : Rat) = A at h1 h2d hkd
    generalize two (last - (drop : Int)) = t at h1 h2d hkd hval hpos
    generalize two (last - 1) = v at hhalf ⊢
    generalize two last = tl at hhalf h2d hkd ⊢
    generalize (mag : Rat) * two place = M at hval ⊢
    have c2 : ((2 : Nat) : Rat) = 2 := rfl
    rw [c2] at h1
    grind
  · have h1 := Rat.mul_le_mul_of_nonneg_right (rat_le hc.2) (Rat.le_of_lt hpos)
    clear r1 r2 hc hn hk hdrop hnhi hnlo hk2 lo hi hpd hl1 hl2 e0 e1 e2 e3 e4 q1 q2 q3 hov
    simp only [Rat.natCast_mul, Rat.natCast_add] at h1 hkd
    generalize ((2 ^ drop : Nat) : Rat) = A at h1 h2d hkd
    generalize two (last - (drop : Int)) = t at h1 h2d hkd hval hpos
    generalize two (last - 1) = v at hhalf ⊢
    generalize two last = tl at hhalf h2d hkd ⊢
    generalize (mag : Rat) * two place = M at hval ⊢
    have c2 : ((2 : Nat) : Rat) = 2 := rfl
    rw [c2] at h1
    grind
  · intro h
    have hd : drop = 0 := by omega
    subst hd
    rw [Nat.pow_zero, Nat.mul_one] at hc
    have : kept = n := by omega
    rw [this, ← hval]
    simp
def U : Rat := two (-53)
theorem U_pos : 0 < U := two_pos _
/-- How near a is to x. -/
structure Nr (a x e : Rat) : Prop where
  hi : a - x ≤ e
  lo : x - a ≤ e
theorem sg_cases (s : Bool) : sg s = 1 ∨ sg s = -1 := by cases s <;> simp [sg]
theorem two_log {mag : Nat} (h : 0 < mag) (place : Int) : two (place + mag.log2) ≤ (mag : Rat) * two place := by
  rw [Int.add_comm, two_add, two_natCast]
  exact Rat.mul_le_mul_of_nonneg_right (rat_le (Nat.log2_self_le (by omega))) (Rat.le_of_lt (two_pos _))
theorem nearest_err (neg : Bool) (mag : Nat) (place : Int) (hb : (mag : Rat) * two place ≤ two 900) :
    Fn (double.nearest neg mag place) ∧ Nr (V (double.nearest neg mag place)) (sg neg * ((mag : Rat) * two place)) (U * ((mag : Rat) * two place) + two (-1075)) ∧ (-1074 ≤ place → Nr (V (double.nearest neg mag place)) (sg neg * ((mag : Rat) * two place)) (U * ((mag : Rat) * two place))) ∧ (mag = 0 → V (double.nearest neg mag place) = 0) := by
  have hη := two_pos (-1075)
  have hU := U_pos
  rcases Nat.eq_zero_or_pos mag with h0 | h0
  · subst h0
    have e : double.nearest neg 0 place = double.word neg (0 * 4503599627370496 + 0) := by unfold Format.nearest; rw [if_pos rfl]
    obtain ⟨r1, r2⟩ := read_parts neg 0 0 (by omega) (by omega) (by omega)
    rw [e]
    have r3 : V (double.word neg (0 * 4503599627370496 + 0)) = 0 := by rw [r2]; simp
    rw [r3]
    have c0 : ((0 : Nat) : Rat) = 0 := rfl
    rw [c0]
    exact ⟨r1, ⟨by grind, by grind⟩, fun _ => ⟨by grind, by grind⟩, fun _ => rfl⟩
  · have hov : place + mag.log2 ≤ 900 := two_lt_iff (Rat.le_trans (two_log h0 place) hb)
    obtain ⟨last, kept, hl, hf, hv, h1, h2, h3⟩ := nearest_main neg mag place h0 hov
    refine ⟨hf, ?_, fun hp => ?_, fun h => by omega⟩
    · have hlast : two (last - 1) ≤ U * ((mag : Rat) * two place) + two (-1075) := by
        have hm : 0 ≤ (mag : Rat) * two place := Rat.mul_nonneg (nat_nonneg _) (Rat.le_of_lt (two_pos _))
        rcases hl with hl | hl
        · have h4 := two_log h0 place
          have h5 : two (last - 1) = U * two (place + mag.log2) := by unfold U; rw [← two_add, show last - 1 = -53 + (place + (mag.log2 : Int)) by omega]
          have h6 := Rat.mul_le_mul_of_nonneg_left h4 (Rat.le_of_lt hU)
          rw [← h5] at h6
          grind
        · rw [hl, show (-1074 : Int) - 1 = -1075 by omega]
          have h6 := Rat.mul_nonneg (Rat.le_of_lt hU) hm
          grind
      rw [hv]
      rcases sg_cases neg with hs | hs
      · rw [hs]; exact ⟨by grind, by grind⟩
      · rw [hs]; exact ⟨by grind, by grind⟩
    · have hm : 0 ≤ (mag : Rat) * two place := Rat.mul_nonneg (nat_nonneg _) (Rat.le_of_lt (two_pos _))
      have hlast : (kept : Rat) * two last = (mag : Rat) * two place ∨ two (last - 1) ≤ U * ((mag : Rat) * two place) := by
        rcases hl with hl | hl
        · have h4 := two_log h0 place
          have h5 : two (last - 1) = U * two (place + mag.log2) := by unfold U; rw [← two_add, show last - 1 = -53 + (place + (mag.log2 : Int)) by omega]
          have h6 := Rat.mul_le_mul_of_nonneg_left h4 (Rat.le_of_lt hU)
          rw [← h5] at h6
          exact .inr h6
        · exact .inl (h3 (by omega))
      have h6 := Rat.mul_nonneg (Rat.le_of_lt hU) hm
      rw [hv]
      rcases sg_cases neg with hs | hs
      · rw [hs]
        rcases hlast with e | e
        · exact ⟨by grind, by grind⟩
        · exact ⟨by grind, by grind⟩
      · rw [hs]
        rcases hlast with e | e
        · exact ⟨by grind, by grind⟩
        · exact ⟨by grind, by grind⟩
theorem signed_val (s : Bool) (m : Nat) (i base : Int) (h : base ≤ i) : ((signed s m (i - base).toNat : Int) : Rat) * two base = sg s * (m : Rat) * two i := by
  obtain ⟨d, hd⟩ : ∃ d, (i - base).toNat = d := ⟨_, rfl⟩
  rw [hd]
  unfold signed sg
  rw [Nat.shiftLeft_eq]
  have e1 : ((m * 2 ^ d : Nat) : Rat) * two base = (m : Rat) * two i := by
    rw [Rat.natCast_mul, Rat.mul_assoc, two_nat_mul, show base + (d : Int) = i by omega]
  cases s
  · simp only [Bool.false_eq_true, if_false]
    rw [Rat.intCast_natCast, e1, Rat.one_mul]
  · simp only [if_true]
    rw [Rat.intCast_neg, Rat.intCast_natCast]
    grind
theorem total_val (neg : Bool) (t : Int) (h : t ≠ 0 → neg = decide (t < 0)) : sg neg * ((t.natAbs : Nat) : Rat) = (t : Rat) := by
  by_cases h0 : t = 0
  · subst h0; simp
  · rw [h h0]
    unfold sg
    by_cases h1 : t < 0
    · rw [if_pos (by simpa using h1)]
      have : (t : Rat) = -((t.natAbs : Nat) : Rat) := by
        rw [← Rat.intCast_natCast, ← Rat.intCast_neg]; congr 1; omega
      rw [this]; grind
    · rw [if_neg (by simpa using h1)]
      have : (t : Rat) = ((t.natAbs : Nat) : Rat) := by
        rw [← Rat.intCast_natCast]; congr 1; omega
      rw [this]; grind
theorem sum_err (a b : Datum) (s t : Bool) (m n : Nat) (i j : Int) (ha : a = .number s m i) (hb : b = .number t n j) (hi : -1074 ≤ i) (hj : -1074 ≤ j) (h1 : Vd a + Vd b ≤ two 900) (h2 : -(Vd a + Vd b) ≤ two 900) :
    ∃ r, (a.sum b).map double.write = some r ∧ Fn r ∧ ∀ M, Vd a + Vd b ≤ M → -(Vd a + Vd b) ≤ M → Nr (V r) (Vd a + Vd b) (U * M) := by
  subst ha hb
  unfold Datum.sum
  simp only [Option.map_some]
  obtain ⟨base, hbase⟩ : ∃ base, min i j = base := ⟨_, rfl⟩
  rw [hbase]
  obtain ⟨tot, htot⟩ : ∃ tot, signed s m (i - base).toNat + signed t n (j - base).toNat = tot := ⟨_, rfl⟩
  rw [htot]
  obtain ⟨neg, hneg⟩ : ∃ neg : Bool, (if tot = 0 then s && t else decide (tot < 0)) = neg := ⟨_, rfl⟩
  rw [hneg]
  have hv : Vd (.number s m i) + Vd (.number t n j) = sg neg * (((tot.natAbs : Nat) : Rat) * two base) := by
    rw [← Rat.mul_assoc, total_val neg tot (fun h => by rw [← hneg, if_neg h])]
    rw [← htot, Rat.intCast_add, Rat.add_mul, signed_val s m i base (by omega), signed_val t n j base (by omega)]
    rfl
  have hm : 0 ≤ ((tot.natAbs : Nat) : Rat) * two base := Rat.mul_nonneg (nat_nonneg _) (Rat.le_of_lt (two_pos _))
  rw [hv] at h1 h2 ⊢
  have hb : ((tot.natAbs : Nat) : Rat) * two base ≤ two 900 := by
    rcases sg_cases neg with hs | hs <;> rw [hs] at h1 h2 <;> grind
  obtain ⟨r1, _, r3, _⟩ := nearest_err neg tot.natAbs base hb
  refine ⟨_, rfl, r1, fun M h3 h4 => ?_⟩
  obtain ⟨r4, r5⟩ := r3 (by omega)
  have hle : ((tot.natAbs : Nat) : Rat) * two base ≤ M := by
    rcases sg_cases neg with hs | hs <;> rw [hs] at h3 h4 <;> grind
  have h6 := Rat.mul_le_mul_of_nonneg_left hle (Rat.le_of_lt U_pos)
  show Nr (V (double.nearest neg tot.natAbs base)) _ _
  exact ⟨Rat.le_trans r4 h6, Rat.le_trans r5 h6⟩
theorem Vd_opposite (d : Datum) : Vd d.opposite = -Vd d := by
  cases d with
  | number s m e => cases s <;> simp [Datum.opposite, Vd, sg] <;> grind
  | infinity s => simp [Datum.opposite, Vd]
  | nan s t => simp [Datum.opposite, Vd]
theorem add_err {x y : Nat} (hx : Fn x) (hy : Fn y) (h1 : V x + V y ≤ two 900) (h2 : -(V x + V y) ≤ two 900) :
    ∃ r, double.add x y = some r ∧ Fn r ∧ ∀ M, V x + V y ≤ M → -(V x + V y) ≤ M → Nr (V r) (V x + V y) (U * M) := by
  obtain ⟨s, m, i, e1, hi⟩ := hx
  obtain ⟨t, n, j, e2, hj⟩ := hy
  exact sum_err _ _ s t m n i j e1 e2 hi hj h1 h2
theorem sub_err {x y : Nat} (hx : Fn x) (hy : Fn y) (h1 : V x - V y ≤ two 900) (h2 : -(V x - V y) ≤ two 900) :
    ∃ r, double.sub x y = some r ∧ Fn r ∧ ∀ M, V x - V y ≤ M → -(V x - V y) ≤ M → Nr (V r) (V x - V y) (U * M) := by
  obtain ⟨s, m, i, e1, hi⟩ := hx
  obtain ⟨t, n, j, e2, hj⟩ := hy
  have hv : V x - V y = Vd (double.read x) + Vd (double.read y).opposite := by rw [Vd_opposite, Rat.sub_eq_add_neg]; rfl
  rw [hv] at h1 h2 ⊢
  exact sum_err _ _ s (!t) m n i j e1 (by rw [e2]; rfl) hi hj h1 h2
theorem sg_xor (s t : Bool) : sg (s ^^ t) = sg s * sg t := by cases s <;> cases t <;> simp [sg] <;> grind
theorem mul_err {x y : Nat} (hx : Fn x) (hy : Fn y) (h1 : V x * V y ≤ two 900) (h2 : -(V x * V y) ≤ two 900) :
    ∃ r, double.mul x y = some r ∧ Fn r ∧ (V x * V y = 0 → V r = 0) ∧ ∀ M, V x * V y ≤ M → -(V x * V y) ≤ M → Nr (V r) (V x * V y) (U * M + two (-1075)) := by
  obtain ⟨s, m, i, e1, hi⟩ := hx
  obtain ⟨t, n, j, e2, hj⟩ := hy
  have hv : V x * V y = sg (s ^^ t) * (((m * n : Nat) : Rat) * two (i + j)) := by
    unfold V
    rw [e1, e2, sg_xor, Rat.natCast_mul, two_add]
    unfold Vd
    grind
  have hm : 0 ≤ ((m * n : Nat) : Rat) * two (i + j) := Rat.mul_nonneg (nat_nonneg _) (Rat.le_of_lt (two_pos _))
  rw [hv] at h1 h2 ⊢
  have hb : ((m * n : Nat) : Rat) * two (i + j) ≤ two 900 := by
    rcases sg_cases (s ^^ t) with hs | hs <;> rw [hs] at h1 h2 <;> grind
  obtain ⟨r1, r2, _, r4⟩ := nearest_err (s ^^ t) (m * n) (i + j) hb
  refine ⟨double.nearest (s ^^ t) (m * n) (i + j), ?_, r1, fun h => ?_, fun M h3 h4 => ?_⟩
  · unfold Format.mul
    rw [e1, e2]
    rfl
  · rcases Nat.eq_zero_or_pos (m * n) with h0 | h0
    · exact r4 h0
    · exfalso
      have h5 : (1 : Rat) ≤ ((m * n : Nat) : Rat) := rat_le h0
      have h6 := two_pos (i + j)
      have h7 := Rat.mul_le_mul_of_nonneg_right h5 (Rat.le_of_lt h6)
      rcases sg_cases (s ^^ t) with hs | hs <;> rw [hs] at h <;> grind
  · obtain ⟨r4, r5⟩ := r2
    have hle : ((m * n : Nat) : Rat) * two (i + j) ≤ M := by
      rcases sg_cases (s ^^ t) with hs | hs <;> rw [hs] at h3 h4 <;> grind
    have h6 := Rat.mul_le_mul_of_nonneg_left hle (Rat.le_of_lt U_pos)
    exact ⟨by grind, by grind⟩
/-! Numbers with a point that are near a rational: value, error, size. -/
structure Ap (X : Option Nat) (x e A : Rat) : Prop where
  e0 : 0 ≤ e
  hi : x ≤ A
  lo : -A ≤ x
  v : ∃ w, X = some w ∧ Fn w ∧ Nr (V w) x e
theorem Ap.val {X : Option Nat} {x e A : Rat} (h : Ap X x e A) {w : Nat} (hw : X = some w) : Fn w ∧ Nr (V w) x e := by
  obtain ⟨w', h1, h2, h3⟩ := h.v
  rw [hw] at h1
  cases h1
  exact ⟨h2, h3⟩
theorem Ap.weaken {X : Option Nat} {x e e' A B : Rat} (h : Ap X x e A) (he : e ≤ e') (hA : A ≤ B) : Ap X x e' B := by
  obtain ⟨e0, h1, h2, w, hw, hf, hn⟩ := h
  exact ⟨Rat.le_trans e0 he, Rat.le_trans h1 hA, by grind, w, hw, hf, ⟨Rat.le_trans hn.hi he, Rat.le_trans hn.lo he⟩⟩
theorem Ap.eq {X : Option Nat} {x y e A : Rat} (h : Ap X x e A) (hxy : x = y) : Ap X y e A := hxy ▸ h
theorem big_900 : (1000000 : Rat) ≤ two 900 := by
  have h1 := two_le (show (20 : Int) ≤ 900 by decide)
  have h2 : (1000000 : Rat) ≤ two 20 := by decide +kernel
  exact Rat.le_trans h2 h1
theorem Ap.add {X Y : Option Nat} {x y e f A B g C : Rat} (hx : Ap X x e A) (hy : Ap Y y f B) (hC : A + B ≤ C) (hg : e + f + U * (A + B + e + f) ≤ g) (hM : A + B + e + f ≤ 1000000) : Ap (Fl.fadd X Y) (x + y) g C := by
  obtain ⟨e0, h1, h2, w, rfl, hf, hn⟩ := hx
  obtain ⟨f0, k1, k2, u, rfl, kf, kn⟩ := hy
  have hb := big_900
  obtain ⟨n1, n2⟩ := hn
  obtain ⟨n3, n4⟩ := kn
  obtain ⟨r, hr, rf, rn⟩ := add_err hf kf (by grind) (by grind)
  obtain ⟨r1, r2⟩ := rn (A + B + e + f) (by grind) (by grind)
  have hU : 0 ≤ U * (A + B + e + f) := Rat.mul_nonneg (Rat.le_of_lt U_pos) (by grind)
  exact ⟨by grind, by grind, by grind, r, hr, rf, ⟨by grind, by grind⟩⟩
theorem Ap.sub {X Y : Option Nat} {x y e f A B g C : Rat} (hx : Ap X x e A) (hy : Ap Y y f B) (hC : A + B ≤ C) (hg : e + f + U * (A + B + e + f) ≤ g) (hM : A + B + e + f ≤ 1000000) : Ap (Fl.fsub X Y) (x - y) g C := by
  obtain ⟨e0, h1, h2, w, rfl, hf, hn⟩ := hx
  obtain ⟨f0, k1, k2, u, rfl, kf, kn⟩ := hy
  have hb := big_900
  obtain ⟨n1, n2⟩ := hn
  obtain ⟨n3, n4⟩ := kn
  obtain ⟨r, hr, rf, rn⟩ := sub_err hf kf (by grind) (by grind)
  obtain ⟨r1, r2⟩ := rn (A + B + e + f) (by grind) (by grind)
  have hU : 0 ≤ U * (A + B + e + f) := Rat.mul_nonneg (Rat.le_of_lt U_pos) (by grind)
  exact ⟨by grind, by grind, by grind, r, hr, rf, ⟨by grind, by grind⟩⟩
/-- A product's size. -/
theorem mul_size {a b A B : Rat} (h1 : a ≤ A) (h2 : -A ≤ a) (h3 : b ≤ B) (h4 : -B ≤ b) : a * b ≤ A * B ∧ -(A * B) ≤ a * b := by
  have q1 : 0 ≤ (A - a) * (B + b) := Rat.mul_nonneg (by grind) (by grind)
  have q2 : 0 ≤ (A + a) * (B - b) := Rat.mul_nonneg (by grind) (by grind)
  have q3 : 0 ≤ (A - a) * (B - b) := Rat.mul_nonneg (by grind) (by grind)
  have q4 : 0 ≤ (A + a) * (B + b) := Rat.mul_nonneg (by grind) (by grind)
  constructor <;> grind
def eta : Rat := two (-1075)
theorem Ap.mul {X Y : Option Nat} {x y e f A B g C : Rat} (hx : Ap X x e A) (hy : Ap Y y f B) (hC : A * B ≤ C) (hg : A * f + B * e + e * f + U * ((A + e) * (B + f)) + eta ≤ g) (hM : (A + e) * (B + f) ≤ 1000000) : Ap (Fl.fmul X Y) (x * y) g C := by
  obtain ⟨e0, h1, h2, w, rfl, hf, hn⟩ := hx
  obtain ⟨f0, k1, k2, u, rfl, kf, kn⟩ := hy
  have hb := big_900
  obtain ⟨n1, n2⟩ := hn
  obtain ⟨n3, n4⟩ := kn
  obtain ⟨s1, s2⟩ := mul_size (a := V w) (b := V u) (A := A + e) (B := B + f) (by grind) (by grind) (by grind) (by grind)
  obtain ⟨r, hr, rf, _, rn⟩ := mul_err hf kf (by grind) (by grind)
  obtain ⟨r1, r2⟩ := rn ((A + e) * (B + f)) s1 (by grind)
  obtain ⟨t1, t2⟩ := mul_size (a := V w - x) (b := y) (A := e) (B := B) (by grind) (by grind) k1 k2
  obtain ⟨t3, t4⟩ := mul_size (a := x) (b := V u - y) (A := A) (B := f) h1 h2 (by grind) (by grind)
  obtain ⟨t5, t6⟩ := mul_size (a := V w - x) (b := V u - y) (A := e) (B := f) (by grind) (by grind) (by grind) (by grind)
  obtain ⟨t7, t8⟩ := mul_size h1 h2 k1 k2
  have e1 : V w * V u - x * y = (V w - x) * y + x * (V u - y) + (V w - x) * (V u - y) := by grind
  have hη : 0 ≤ eta := Rat.le_of_lt (two_pos _)
  have hA : 0 ≤ A := by grind
  have hB : 0 ≤ B := by grind
  have g1 : 0 ≤ U * ((A + e) * (B + f)) := Rat.mul_nonneg (Rat.le_of_lt U_pos) (Rat.mul_nonneg (by grind) (by grind))
  have g2 : 0 ≤ A * f := Rat.mul_nonneg hA f0
  have g3 : 0 ≤ B * e := Rat.mul_nonneg hB e0
  have g4 : 0 ≤ e * f := Rat.mul_nonneg e0 f0
  have e2 : two (-1075) = eta := rfl
  rw [e2] at r1 r2
  exact ⟨by grind, by grind, by grind, r, hr, rf, ⟨by grind, by grind⟩⟩
/-- A known word. -/
theorem Ap.word {w : Nat} (hf : Fn w) {A : Rat} (h1 : V w ≤ A) (h2 : -A ≤ V w) : Ap (some w) (V w) 0 A :=
  ⟨Rat.le_refl, h1, h2, w, rfl, hf, ⟨by grind, by grind⟩⟩
theorem fn_not_nan {w : Nat} (h : Fn w) : Fl.fl w = some w := by
  obtain ⟨s, m, e, h1, _⟩ := h
  unfold Fl.fl
  rw [h1]
  rfl
theorem read_sign {b : Nat} {s : Bool} {m : Nat} {e : Int} (h : double.read b = .number s m e) : s = (b / 2 ^ 63 % 2 == 1) := by
  obtain ⟨_, e1, e2, e3, e4⟩ := dbl
  unfold Format.read at h
  simp only at h
  rw [e4] at h
  split at h
  · cases h; rfl
  · split at h
    · cases h; rfl
    · split at h <;> cases h
theorem neg_val {w : Nat} (hf : Fn w) : Fn (Op.negFloat .f64 w) ∧ V (Op.negFloat .f64 w) = -V w := by
  obtain ⟨s, m, e, h1, h2⟩ := hf
  have hs := read_sign h1
  have hn := Tr.read_neg w
  rw [h1, ← hs] at hn
  have hn2 : double.read (Op.negFloat .f64 w) = .number (!s) m e := hn
  refine ⟨⟨_, _, _, hn2, h2⟩, ?_⟩
  unfold V
  rw [hn2, h1]
  unfold Vd
  cases s <;> simp [sg] <;> grind
theorem Ap.neg {X : Option Nat} {x e A : Rat} (h : Ap X x e A) : Ap (Fl.fneg X) (-x) e A := by
  obtain ⟨e0, h1, h2, w, rfl, hf, ⟨n1, n2⟩⟩ := h
  have key := neg_val hf
  exact ⟨e0, by grind, by grind, _, rfl, key.1, ⟨by rw [key.2]; grind, by rw [key.2]; grind⟩⟩
end Go.Fe
