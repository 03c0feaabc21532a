/- Plain facts of places: the point 0; how far apart two places are, whichever is the first. Nothing of a program stands here. -/
import Derived.Test.YtaakbajhbmbhcaaDoorTr
set_option linter.unusedSimpArgs false
set_option linter.unusedVariables false
namespace Go.Tr
open Go Go.RowKit Go.Fl

theorem read_zero : Ieee.double.read 0 = .number false 0 Ieee.double.leastPlace := by decide +kernel
theorem number_ne (s : Bool) (m : Nat) (e : Int) (h : 0 < m) : ((Ieee.Datum.number s m e).order (.number false 0 Ieee.double.leastPlace) == some Ordering.eq) = false := by
  have hp : 0 < m <<< (e - min e Ieee.double.leastPlace).toNat := by
    rw [Nat.shiftLeft_eq]; exact Nat.mul_pos h (Nat.two_pow_pos _)
  show (some (compare (Ieee.signed s m (e - min e Ieee.double.leastPlace).toNat) (Ieee.signed false 0 (Ieee.double.leastPlace - min e Ieee.double.leastPlace).toNat)) == some Ordering.eq) = false
  rw [signed_zero]
  unfold Ieee.signed
  generalize m <<< (e - min e Ieee.double.leastPlace).toNat = q at hp
  cases s
  · have : ¬ (compare ((q : Nat) : Int) 0 = .eq) := by rw [Int.compare_eq_eq]; omega
    simp [this]
  · have : ¬ (compare (-((q : Nat) : Int)) 0 = .eq) := by rw [Int.compare_eq_eq]; omega
    simp [this]
theorem zero_rung {b : Nat} (h : feq (fl b) (some 0) = true) : b % 2 ^ 63 = 0 ∧ fl b = some b := by
  unfold fl at h ⊢
  split at h
  · cases h
  · rename_i hnn
    rw [if_neg hnn]
    refine ⟨?_, rfl⟩
    have h1 : ((Ieee.double.read b).order (Ieee.double.read 0) == some Ordering.eq) = true := h
    rw [read_zero] at h1
    have hb : 0 < Ieee.double.binade := by decide +kernel
    unfold Ieee.Format.read at h1
    dsimp only at h1
    rw [signWeight] at h1
    split at h1
    · by_cases hm : b % 2 ^ 63 = 0
      · exact hm
      · rw [number_ne _ _ _ (by omega)] at h1; cases h1
    · split at h1
      · rw [number_ne _ _ _ (by omega)] at h1; cases h1
      · split at h1
        · exfalso; revert h1; cases (b / 2 ^ 63 % 2 == 1) <;> decide
        · exfalso; revert h1; simp [Ieee.Datum.order]
theorem zero_read {b : Nat} (h : b % 2 ^ 63 = 0) : Ieee.double.read b = Ieee.double.read 0 ∨ Ieee.double.read b = Ieee.double.read (2 ^ 63) := by
  rw [read_parts b, h]
  cases (b / 2 ^ 63 % 2 == 1)
  · exact .inl (by decide +kernel)
  · exact .inr (by decide +kernel)
theorem sq_zero {b : Nat} (h : b % 2 ^ 63 = 0) : fmul (some b) (some b) = some 0 := by
  show Ieee.double.mul b b = some 0
  unfold Ieee.Format.mul
  rcases zero_read h with e | e <;> rw [e] <;> decide +kernel
theorem fin_zero {b : Nat} (h : b % 2 ^ 63 = 0) : fin (some b) = true := by
  have e0 : fsub (some b) (some b) = some 0 := by
    show Ieee.double.sub b b = some 0
    unfold Ieee.Format.sub
    rcases zero_read h with e | e <;> rw [e] <;> decide +kernel
  unfold fin
  rw [e0]
  decide +kernel
theorem plc_zero {a b c : Nat} (ha : feq (fl a) (some 0) = true) (hb : feq (fl b) (some 0) = true) (hc : feq (fl c) (some 0) = true) : plc ⟨fl a, fl b, fl c⟩ = ((0, 0), false) := by
  obtain ⟨a1, a2⟩ := zero_rung ha
  obtain ⟨b1, b2⟩ := zero_rung hb
  obtain ⟨c1, c2⟩ := zero_rung hc
  have hc' := hc
  rw [c2] at hc'
  have e : fsqrt (fadd (some 0) (some 0)) = some 0 := by decide +kernel
  have k1 : feq (some 0) (some 0) = true := by decide +kernel
  have k2 : fin (some 0) = true := fin_zero rfl
  have g : ang (some c) (some 0) = (0, false) := by
    unfold ang
    rw [k2, fin_zero c1, k1, hc']
    rfl
  unfold plc
  dsimp only
  rw [a2, b2, c2, fin_zero a1, fin_zero b1, fin_zero c1, sq_zero a1, sq_zero b1, e, g]
  rfl
def vl (a : V3) : Option Nat := fsqrt (fadd (fadd (fmul a.x a.x) (fmul a.y a.y)) (fmul a.z a.z))
def cr (a b : V3) : V3 := ⟨fsub (fmul a.y b.z) (fmul a.z b.y), fsub (fmul a.z b.x) (fmul a.x b.z), fsub (fmul a.x b.y) (fmul a.y b.x)⟩
def dt (a b : V3) : Option Nat := fadd (fadd (fmul a.x b.x) (fmul a.y b.y)) (fmul a.z b.z)
theorem vl_cr (a b : V3) : vl (cr a b) = vl (cr b a) := by
  unfold vl cr
  dsimp only
  rw [sq_sub (fmul a.y b.z) (fmul a.z b.y), sq_sub (fmul a.z b.x) (fmul a.x b.z), sq_sub (fmul a.x b.y) (fmul a.y b.x)]
  rw [fmul_comm a.y b.z, fmul_comm a.z b.y, fmul_comm a.z b.x, fmul_comm a.x b.z, fmul_comm a.x b.y, fmul_comm a.y b.x]
theorem dt_comm (a b : V3) : dt a b = dt b a := by
  unfold dt
  rw [fmul_comm a.x b.x, fmul_comm a.y b.y, fmul_comm a.z b.z]
def far (a b : V3) : Int := (ang (vl (cr a b)) (dt a b)).1
theorem far_comm (a b : V3) : far a b = far b a := by unfold far; rw [vl_cr, dt_comm]
/-! Angles. -/
theorem nrm_tmod (a : Int) : nrm a = if a.tmod 1296000000000 < 0 then a.tmod 1296000000000 + 1296000000000 else a.tmod 1296000000000 := by
  unfold nrm
  rcases Int.le_total 0 a with h | h
  · rw [Int.tmod_eq_emod_of_nonneg h, if_neg (by omega)]
  · have e : a.tmod 1296000000000 = -((-a) % 1296000000000) := by
      rw [← Int.tmod_eq_emod_of_nonneg (by omega : 0 ≤ -a), Int.neg_tmod, Int.neg_neg]
    rw [e]
    split <;> omega
theorem nrm_in (a : Int) : 0 ≤ nrm a ∧ nrm a < 1296000000000 := by unfold nrm; omega
theorem tmod_in (a : Int) : -1296000000000 ≤ a.tmod 1296000000000 ∧ a.tmod 1296000000000 < 1296000000000 := by
  have h := nrm_in a
  rw [nrm_tmod a] at h
  generalize a.tmod 1296000000000 = t at h ⊢
  by_cases g : t < 0
  · rw [if_pos g] at h; obtain ⟨h1, h2⟩ := h; refine ⟨?_, ?_⟩ <;> omega
  · rw [if_neg g] at h; obtain ⟨h1, h2⟩ := h; refine ⟨?_, ?_⟩ <;> omega
theorem ang_x {y x : Option Nat} (h : fin x = false) : ang y x = (0, false) := by unfold ang; rw [h]; rfl
theorem ang_y {y x : Option Nat} (h : fin x = true) (k : fin y = false) : ang y x = (0, false) := by unfold ang; rw [h, k]; rfl
theorem ang_00 {y x : Option Nat} (h : ford x (some 0) = some .eq) (k : ford y (some 0) = some .eq) : ang y x = (0, false) := by
  have e1 : feq x (some 0) = true := by unfold feq; rw [h]; rfl
  have e2 : feq y (some 0) = true := by unfold feq; rw [k]; rfl
  unfold ang
  rw [e1, e2]
  cases fin x <;> cases fin y <;> rfl
def lo0 (y x : Option Nat) : Int := bis (under (fabs x) (fabs y)) 0 324000000001
def sideA (ox oy : Ordering) (lo : Int) : Int :=
  if ox = .lt ∧ oy = .lt then 648000000000 + lo else if ox = .lt then 648000000000 - lo else if oy = .lt then nrm (1296000000000 - lo) else lo
theorem ang_val {y x : Nat} {ox oy : Ordering} (h : fin (fl x) = true) (k : fin (fl y) = true) (hx : ford (fl x) (some 0) = some ox) (hy : ford (fl y) (some 0) = some oy) (hn : ¬ (ox = .eq ∧ oy = .eq)) :
    ang (fl y) (fl x) = (sideA ox oy (lo0 (fl y) (fl x)), true) := by
  have e : under (fneg0 (fl x)) (fneg0 (fl y)) = under (fabs (fl x)) (fabs (fl y)) := under_congr nz_abs.symm nz_abs.symm
  unfold ang
  rw [h, k, e]
  unfold feq flt
  rw [hx, hy]
  unfold sideA lo0
  cases ox <;> cases oy <;> first | rfl | (exfalso; exact hn ⟨rfl, rfl⟩)
def rad (v : V3) : Option Nat := fsqrt (fadd (fmul v.x v.x) (fmul v.y v.y))
theorem plc_1 {v : V3} (h : fin v.x = false) : plc v = ((0, 0), false) := by unfold plc; rw [h]; rfl
theorem plc_2 {v : V3} (h : fin v.y = false) : plc v = ((0, 0), false) := by unfold plc; rw [h]; cases fin v.x <;> rfl
theorem plc_3 {v : V3} (h : fin v.z = false) : plc v = ((0, 0), false) := by unfold plc; rw [h]; cases fin v.x <;> cases fin v.y <;> rfl
theorem plc_no {v : V3} (h : (ang v.z (rad v)).2 = false) : plc v = ((0, 0), false) := by
  unfold plc
  unfold rad at h
  dsimp only
  rw [h]
  cases fin v.x <;> cases fin v.y <;> cases fin v.z <;> rfl
theorem plc_ok {v : V3} (h1 : fin v.x = true) (h2 : fin v.y = true) (h3 : fin v.z = true) (h : (ang v.z (rad v)).2 = true) : plc v = (((ang v.y v.x).1, sgd (ang v.z (rad v)).1), true) := by
  unfold plc
  unfold rad at h ⊢
  dsimp only
  rw [h, h1, h2, h3]
  rfl
end Go.Tr
