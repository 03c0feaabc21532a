/- Kepler: what the law compares: plain. Nothing of a program stands here. -/
import Derived.Test.YtdnclgpjcgamgaaDoorFe8
set_option linter.unusedSimpArgs false
set_option linter.unusedVariables false
namespace Go.Fe
open Ieee

theorem read_place {b : Nat} {s : Bool} {m : Nat} {e : Int} (h : double.read b = .number s m e) : -1074 ≤ e := by
  obtain ⟨_, e1, e2, e3, e4⟩ := dbl
  unfold Format.read at h
  simp only at h
  rw [e1] at h
  split at h
  · cases h; omega
  · split at h
    · cases h; omega
    · split at h <;> cases h
theorem fn_num {b : Nat} {s : Bool} {m : Nat} {e : Int} (h : double.read b = .number s m e) : Fn b := ⟨s, m, e, h, read_place h⟩
theorem read_zero' : double.read 0 = .number false 0 (-1074) := by decide +kernel
theorem read_one' : double.read 4607182418800017408 = .number false 4503599627370496 (-52) := by decide +kernel
theorem ecc_val {p : Nat} (h0 : double.order p 0 = some .eq ∨ double.order p 0 = some .gt) (h1 : double.order p 4607182418800017408 = some .lt) : Fn p ∧ 0 ≤ V p ∧ V p ≤ 1 := by
  have hf : Fn p := by
    unfold Format.order at h0 h1
    rw [read_zero'] at h0
    rw [read_one'] at h1
    cases hr : double.read p with
    | number s m e => exact fn_num hr
    | infinity s =>
      rw [hr] at h0 h1
      cases s
      · simp [Datum.order] at h1
      · simp [Datum.order] at h0
    | nan s t =>
      rw [hr] at h1
      simp [Datum.order] at h1
  have f0 := fn_zero
  have f1 : Fn 4607182418800017408 := fn_num read_one'
  rw [order_val hf f0, V_zero] at h0
  rw [order_val hf f1, one_val] at h1
  refine ⟨hf, ?_, ?_⟩
  · by_cases h : V p < 0
    · rw [if_pos h] at h0; rcases h0 with h0 | h0 <;> cases h0
    · exact Rat.not_lt.1 h
  · by_cases h : V p < 1
    · exact Rat.le_of_lt h
    · rw [if_neg h] at h1
      split at h1 <;> cases h1
/-- The law's two tests hold. -/
theorem enclosed_tests {f : Nat} (hf : Fn f) (h1 : V f ≤ 0) (h2 : -(2 * rad + 9 / 1000000000000000) ≤ V f) : double.order f 4397347889687374747 = some .lt ∧ double.order f 13665425562189299083 = some .gt := by
  have a1 : Fn 4397347889687374747 := fn_of (by decide +kernel)
  have a2 : Fn 13665425562189299083 := fn_of (by decide +kernel)
  have v1 : 0 < V 4397347889687374747 := by decide +kernel
  have v2 : V 13665425562189299083 < -(2 * rad + 9 / 1000000000000000) := by decide +kernel
  rw [order_val hf a1, order_val hf a2]
  rw [if_pos (by grind), if_neg (by grind), if_neg (by grind)]
  exact ⟨rfl, rfl⟩
end Go.Fe
