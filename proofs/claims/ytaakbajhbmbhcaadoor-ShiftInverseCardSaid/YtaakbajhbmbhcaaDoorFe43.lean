/- Mild floats are finite. Nothing of a program stands here. -/
import Derived.Test.YtaakbajhbmbhcaaDoorFe20
set_option linter.unusedSimpArgs false
set_option linter.unusedVariables false
namespace Go.Fe
open Ieee Fl

/-! Mild floats. -/
def absF (X : Option Nat) : Option Nat := if Fl.flt X (some 0) then Fl.fneg X else X
def fge (X Y : Option Nat) : Bool := Fl.ford X Y == some .gt || Fl.ford X Y == some .eq
def mildF (X : Option Nat) : Bool := Fl.feq (absF X) (some 0) || (fge (absF X) (some 3256102530588868608) && Fl.fle (absF X) (some 5958262307011166208))
theorem fge_val {a b : Nat} (ha : Fn a) (hb : Fn b) : fge (some a) (some b) = decide (V b ≤ V a) := by
  have h : Fl.ford (some a) (some b) = some (if V a < V b then .lt else if V a = V b then .eq else .gt) := order_val ha hb
  unfold fge
  rw [h]
  by_cases h1 : V a < V b
  · rw [if_pos h1]; simp; grind
  · by_cases h2 : V a = V b
    · rw [if_neg h1, if_pos h2]; simp; grind
    · rw [if_neg h1, if_neg h2]; simp; grind
def mildO (b : Nat) : Bool := (double.order b 0 == some .eq) || ((double.order b 3256102530588868608 == some .gt || double.order b 3256102530588868608 == some .eq) && (double.order b 5958262307011166208 == some .lt || double.order b 5958262307011166208 == some .eq))
theorem mildF_fl (a : Nat) : mildF (Fl.fl a) = mildO (if double.order a 0 == some .lt then Op.negFloat .f64 a else a) := by
  have e0 : Fl.fl 0 = some 0 := by decide +kernel
  have e1 : Fl.fl 3256102530588868608 = some 3256102530588868608 := by decide +kernel
  have e2 : Fl.fl 5958262307011166208 = some 5958262307011166208 := by decide +kernel
  have ha : absF (Fl.fl a) = Fl.fl (if double.order a 0 == some .lt then Op.negFloat .f64 a else a) := by
    unfold absF Fl.flt
    rw [← e0, ← Fl.order_fl]
    split
    · rw [Fl.fl_neg]
    · rfl
  unfold mildF mildO fge Fl.feq Fl.fle
  rw [ha, ← e0, ← e1, ← e2]
  simp only [← Fl.order_fl]
theorem fn_read {w : Nat} {s : Bool} {m : Nat} {e : Int} (h : double.read w = .number s m e) : Fn w := by
  refine ⟨s, m, e, h, ?_⟩
  obtain ⟨f1, f2, f3, f4, f5⟩ := dbl
  unfold Format.read at h
  simp only [f1, f2, f3, f4, f5] at h
  by_cases h1 : w % 9223372036854775808 < 4503599627370496
  · rw [if_pos h1] at h
    injection h with _ _ h2
    omega
  · rw [if_neg h1] at h
    by_cases h3 : w % 9223372036854775808 < 9218868437227405312
    · rw [if_pos h3] at h
      injection h with _ _ h2
      have : 1 ≤ w % 9223372036854775808 / 4503599627370496 := by omega
      omega
    · rw [if_neg h3] at h
      by_cases h4 : w % 9223372036854775808 = 9218868437227405312
      · rw [if_pos h4] at h; cases h
      · rw [if_neg h4] at h; cases h
theorem read_hi : double.read 5958262307011166208 = .number false 4503599627370496 248 := by decide +kernel
theorem read_zero : double.read 0 = .number false 0 (-1074) := by decide +kernel
theorem far_not {b : Nat} (h : double.read b = .infinity false) : Fl.feq (some b) (some 0) = false ∧ Fl.fle (some b) (some 5958262307011166208) = false := by
  have e1 : Fl.ford (some b) (some 0) = some .gt := by
    show (double.read b).order (double.read 0) = _
    rw [h, read_zero]; rfl
  have e2 : Fl.ford (some b) (some 5958262307011166208) = some .gt := by
    show (double.read b).order (double.read 5958262307011166208) = _
    rw [h, read_hi]; rfl
  constructor
  · unfold Fl.feq; rw [e1]; rfl
  · unfold Fl.fle; rw [e2]; rfl
theorem mild_of {X : Option Nat} (h : mildF X = true) : ∃ w, X = some w ∧ Fn w ∧ Md (V w) := by
  cases X with
  | none => cases h
  | some w =>
    cases hr : double.read w with
    | nan s f =>
      exfalso
      have e : ∀ b, Fl.ford (some w) (some b) = none := fun b => by
        show (double.read w).order (double.read b) = _
        rw [hr]; rfl
      have ha : absF (some w) = some w := by
        unfold absF Fl.flt
        rw [e]; rfl
      unfold mildF at h
      rw [ha] at h
      unfold Fl.feq Fl.fle fge at h
      rw [e, e, e] at h
      cases h
    | infinity s =>
      exfalso
      cases s with
      | false =>
        have ha : absF (some w) = some w := by
          have e1 : Fl.ford (some w) (some 0) = some .gt := by
            show (double.read w).order (double.read 0) = _
            rw [hr, read_zero]; rfl
          unfold absF Fl.flt
          rw [e1]; rfl
        obtain ⟨a, b⟩ := far_not hr
        unfold mildF at h
        rw [ha, a, b] at h
        simp at h
      | true =>
        have hn : double.read (Op.negFloat .f64 w) = .infinity false := by
          have h1 := Tr.read_neg w
          rw [hr] at h1
          have hs : (w / 2 ^ 63 % 2 == 1) = true := by
            obtain ⟨f1, f2, f3, f4, f5⟩ := dbl
            unfold Format.read at hr
            simp only [f1, f2, f3, f4, f5] at hr
            by_cases h1 : w % 9223372036854775808 < 4503599627370496
            · rw [if_pos h1] at hr; cases hr
            · rw [if_neg h1] at hr
              by_cases h3 : w % 9223372036854775808 < 9218868437227405312
              · rw [if_pos h3] at hr; cases hr
              · rw [if_neg h3] at hr
                by_cases h4 : w % 9223372036854775808 = 9218868437227405312
                · rw [if_pos h4] at hr
                  injection hr
                · rw [if_neg h4] at hr; cases hr
          rw [hs] at h1
          exact h1
        have ha : absF (some w) = some (Op.negFloat .f64 w) := by
          have e1 : Fl.ford (some w) (some 0) = some .lt := by
            show (double.read w).order (double.read 0) = _
            rw [hr, read_zero]; rfl
          unfold absF Fl.flt
          rw [e1]; rfl
        obtain ⟨a, b⟩ := far_not hn
        unfold mildF at h
        rw [ha, a, b] at h
        simp at h
    | number s m e =>
      have hf := fn_read hr
      refine ⟨w, rfl, hf, ?_⟩
      have flo : Fn 3256102530588868608 := fn_of (by decide +kernel)
      have fhi : Fn 5958262307011166208 := fn_of (by decide +kernel)
      have vlo : V 3256102530588868608 = two (-300) := by decide +kernel
      have vhi : V 5958262307011166208 = two 300 := by decide +kernel
      obtain ⟨y, hy, fy, vy⟩ : ∃ y, absF (some w) = some y ∧ Fn y ∧ V y = ab (V w) := by
        unfold absF
        rw [flt_val hf fn_zero, V_zero]
        by_cases h0 : V w < 0
        · rw [if_pos (by simpa using h0)]
          obtain ⟨nf, nv⟩ := neg_val hf
          refine ⟨_, rfl, nf, ?_⟩
          rw [nv]; unfold ab
          rw [if_neg (by grind)]
        · rw [if_neg (by simpa using h0)]
          refine ⟨w, rfl, hf, ?_⟩
          unfold ab
          rw [if_pos (by grind)]
      unfold mildF at h
      rw [hy, feq_val fy, fge_val fy flo, fle_val fy fhi, vlo, vhi, vy] at h
      simp only [Bool.or_eq_true, Bool.and_eq_true, decide_eq_true_eq] at h
      rcases h with h | ⟨h1, h2⟩
      · left
        obtain ⟨a1, a2, _⟩ := ab_le (V w)
        rw [h] at a1 a2
        grind
      · exact .inr ⟨h1, h2⟩
end Go.Fe
